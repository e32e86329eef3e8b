/-
  Own library of this claim, part 3: texts one behind the other (FxJ, FxI, FxK, LxS, KlD, KlE, KlF, KlG, KlH, KlI, Bld, LxL, SyS, FrC, AbsXs, LxF, LxB, KlA, KlC, Base, KlB, LxK, FrA, FrB, FrD, AbsZ, Facts, LxW1, AbsV, LxW2, LxW3, LxW4, LxW5, LxW6, LxW7).
-/
import Derived.Lib.Bytealg
import Derived.Laws.Externs
import Derived.Below
import Derived.Laws.Entries
import Derived.Test.YtnhomjhfaoipmaaGreatDoorRows
import Derived.Lib.Walk
import Derived.Lib.UnsafeStr
import Derived.Lib.MakeNoZero
import Derived.Lib.Builder
import Derived.Laws.IdiomCopy
import Derived.Lib.BufferWrite
import Derived.Lib.Hide
import Derived.Laws.MakeOwn
import Derived.OwnWalk
import Derived.WalkKit
import Derived.ChangeArms
import Derived.DataReads
import Derived.OpenShut
import Derived.LaidLaws
import Derived.FnData
import GoSem.ClaimJoined
import Derived.ProofKit
import Derived.IntWalk
import Derived.Test.YtnhomjhfaoipmaaGreatDoorProg
import Derived.KernelRfl
import Derived.Test.YtnhomjhfaoipmaaGreatDoorLibRepKnownB

namespace Go.Abs
open Go
structure Snp where
  w : Bool
  T : ET
  H : FH
  v : AV
noncomputable def runM (ω : Om) (P : Program) (G : Nat → Option AV) (l : List FOper) : Nat → List Snp → ET → FH → (List Snp → ET → FH → Bool) → Bool :=
  List.rec (motive := fun _ => Nat → List Snp → ET → FH → (List Snp → ET → FH → Bool) → Bool) (fun _ s T H k => k s T H)
    (fun fo _ ih base s T H k => FOper.rec (motive := fun _ => Bool) (fun g d e f o =>
      guardK g T (f.run ω P G o base T H fun v H' => v.force fun v => putD d v T fun T' => ih (ifK e H'.next base) (⟨true, T, H, v⟩ :: s) T' H' k) (putD d undefA T fun T' => ih base (⟨false, T, H, undefA⟩ :: s) T' H k)) fo) l
structure SRel (cop : Oper → FOp) (ops : Array Oper) (o : Oper) (x : Full) (y : Snp) : Prop where
  T : y.T.fn = x.T
  H : y.H.abs = x.H
  v : y.v = x.v
  e : x.k.isEff = (y.w && (cop o).isE)
  r : x.k.isRead = true → y.w = true
  w : y.w = true → awanted ops x.T o = true
inductive SRels (cop : Oper → FOp) (ops : Array Oper) : List Oper → List Full → List Snp → Prop
  | nil : SRels cop ops [] [] []
  | cons {o : Oper} {x : Full} {y : Snp} {l : List Oper} {u : List Full} {s : List Snp} (h : SRel cop ops o x y) (t : SRels cop ops l u s) : SRels cop ops (o :: l) (x :: u) (y :: s)
section
variable {ω : Om} {P : Program} {G : Nat → Option AV} {N : Nat} {ops : Array Oper} {cop : Oper → FOp}
theorem SRels.length {l : List Oper} {u : List Full} {s : List Snp} (h : SRels cop ops l u s) : u.length = l.length ∧ s.length = l.length := by
  induction h with
  | nil => exact ⟨rfl, rfl⟩
  | cons _ _ ih => simp [ih.1, ih.2]
theorem SRels.at {l : List Oper} {u : List Full} {s : List Snp} (h : SRels cop ops l u s) : ∀ {i : Nat} {o : Oper} {x : Full}, l[i]? = some o → u[i]? = some x → ∃ y, s[i]? = some y ∧ SRel cop ops o x y := by
  induction h with
  | nil => intro i o x h; simp at h
  | cons h _ ih =>
    intro i o x ho hx
    cases i with
    | zero => simp at ho hx; subst ho; subst hx; exact ⟨_, rfl, h⟩
    | succ i => simpa using ih (by simpa using ho) (by simpa using hx)
theorem runM_inv (hω : CopOk P G ω ops cop) (hN : N ≤ 1024) : ∀ (l : List Oper) (base : Nat) (acc : List Snp) (T : ET) (H : FH) (k : List Snp → ET → FH → Bool), dstOk N l = true → runM ω P G (l.map (fcoper cop ops true)) base acc T H k = true →
    ∃ u s T' H', Tr P G ops l T.fn H.abs u T'.fn (FH.abs H') ∧ H.next ≤ H'.next ∧ BOk P G cop true H'.abs l u base ∧ SRels cop ops l u s ∧ k (s.reverse ++ acc) T' H' = true
  | [], base, acc, T, H, k, _, h => ⟨[], [], T, H, .nil, Nat.le_refl _, trivial, .nil, h⟩
  | o :: l, base, acc, T, H, k, hd, h => by
    have h : guardK (fcg ops o) T ((cop o).run ω P G o base T H fun v H' => v.force fun v => putD (fcd o) v T fun T' => runM ω P G (l.map (fcoper cop ops true)) (ifK (true && (cop o).isE) H'.next base) (⟨true, T, H, v⟩ :: acc) T' H' k)
        (putD (fcd o) undefA T fun T' => runM ω P G (l.map (fcoper cop ops true)) base (⟨false, T, H, undefA⟩ :: acc) T' H k) = true := h
    have hd0 : ∀ j, o.dst = some j → j < N := fun j hj => by
      unfold dstOk at hd
      rw [List.all_cons, Bool.and_eq_true] at hd
      have := hd.1
      rw [hj] at this
      simpa using this
    have hdr : dstOk N l = true := by
      unfold dstOk at hd ⊢
      rw [List.all_cons, Bool.and_eq_true] at hd
      exact hd.2
    rcases guardK_inv h with ⟨hw, h⟩ | ⟨hw, h⟩
    · obtain ⟨v, kd, H1, hs, hn, he, ha, hr0, hr, h⟩ := hω _ _ _ _ _ hw h
      have h := (AV.force_eq v _).symm.trans h
      obtain ⟨T1, hT1, h⟩ := putD_eq hN hd0 h
      obtain ⟨u, s, T', H', htr, hn', hb, hsr, hk⟩ := runM_inv hω hN l _ _ T1 H1 k hdr h
      refine ⟨⟨T.fn, H.abs, v, kd⟩ :: u, ⟨true, T, H, v⟩ :: s, T', H', .cons hs hn (by rw [← hT1]; exact htr), by omega, ⟨fun h => he ▸ h, ha, fun h => ⟨hr0 ▸ h, hr h⟩, ?_⟩, .cons ⟨rfl, rfl, rfl, by rw [he, Bool.true_and], fun _ => rfl, fun _ => hw⟩ hsr, by simpa using hk⟩
      have h0 : hAt u H'.abs 0 = H1.abs := (tr_spec htr).1
      rw [h0]
      rw [← he] at hb
      show BOk P G cop true H'.abs l u (if true = true ∧ kd.isEff = true then H1.next else base)
      cases hk : kd.isEff <;> rw [hk] at hb <;> exact hb
    · obtain ⟨T1, hT1, h⟩ := putD_eq hN hd0 h
      obtain ⟨u, s, T', H', htr, hn', hb, hsr, hk⟩ := runM_inv hω hN l _ _ T1 H k hdr h
      refine ⟨⟨T.fn, H.abs, undefA, .idle⟩ :: u, ⟨false, T, H, undefA⟩ :: s, T', H', .cons ⟨.inl ⟨hw, rfl⟩, rfl⟩ (Nat.le_refl _) (by rw [← hT1]; exact htr), hn', ⟨fun h => by simp [Kind.isEff] at h, fun h => by simp [Kind.isAlloc] at h, fun h => by simp [Kind.isRead] at h, ?_⟩,
        .cons ⟨rfl, rfl, rfl, rfl, fun h => by simp [Kind.isRead] at h, fun h => by simp at h⟩ hsr, by simpa using hk⟩
      rw [if_neg (by simp [Kind.isEff])]
      exact hb
def effOk (fs : List Flags) (as_ : List Nat) : Bool :=
  fs.zipIdx.all fun (y, j) => fs.zipIdx.all fun (x, i) => !decide (i < j) || !(y.e && (x.e || x.a)) || (as_.getD j 0).testBit i
theorem effOk_spec {fs : List Flags} (h : effOk fs (ancs ops.toList) = true) (hfs : fs = ops.toList.map fun o => flagsOf (cop o)) : EffOrd cop ops := by
  intro i j o q hij ho hq hE hc
  subst hfs
  unfold effOk at h
  rw [List.all_eq_true] at h
  have := h (_, j) (mem_zipIdx (flags_at hq))
  simp only [List.all_eq_true] at this
  have := this (_, i) (mem_zipIdx (flags_at ho))
  simp only [hij, decide_true, Bool.not_true, Bool.false_or] at this
  have e : ((flagsOf (cop q)).e && ((flagsOf (cop o)).e || (flagsOf (cop o)).a)) = true := by rcases hc with hc | hc <;> simp [flagsOf, hE, hc]
  rw [e] at this
  exact ancs_sound this
def effPl (fs : List Flags) : List Nat := (fs.zipIdx.filter fun (x, _) => x.e).map (·.2)
def softAt (fs : List Flags) (as_ : List Nat) (r : Nat) : Bool := (effPl fs).all fun e => (!decide (e < r) || (as_.getD r 0).testBit e) && (!decide (r < e) || (as_.getD e 0).testBit r)
def hardPl (fs : List Flags) (as_ : List Nat) : List Nat := ((fs.zipIdx.filter fun (x, _) => x.r).map (·.2)).filter fun r => !softAt fs as_ r
def heapS (s : List Snp) (H : FH) (q : Nat) : FH := match s[q]? with
  | some x => x.H
  | none => H
noncomputable def checkR (ω : Om) (P : Program) (G : Nat → Option AV) (cop : Oper → FOp) (ops : Array Oper) (es as_ : List Nat) (s : List Snp) (H : FH) (r : Nat) : Bool :=
  match ops[r]?, s[r]? with
  | some o, some x => !x.w || (0 :: es.map (· + 1)).all fun q =>
      (es.any fun e => decide (e < q) && ((match s[e]? with | some y => y.w | none => false) && (as_.getD e 0).testBit r)) || (es.any fun e => decide (q ≤ e) && ((match s[e]? with | some y => y.w | none => false) && (as_.getD r 0).testBit e)) ||
      (cop o).run ω P G o 1048576 x.T (heapS s H q) fun v _ => AV.beq v x.v
  | _, _ => false
theorem effPl_mem {fs : List Flags} {e : Nat} {x : Flags} (hx : fs[e]? = some x) (he : x.e = true) : e ∈ effPl fs := by
  unfold effPl
  rw [List.mem_map]
  exact ⟨(x, e), by rw [List.mem_filter]; exact ⟨mem_zipIdx hx, he⟩, rfl⟩
theorem effPl_of {fs : List Flags} {e : Nat} (h : e ∈ effPl fs) : ∃ x, fs[e]? = some x ∧ x.e = true := by
  unfold effPl at h
  rw [List.mem_map] at h
  obtain ⟨⟨x, i⟩, h1, rfl⟩ := h
  rw [List.mem_filter] at h1
  exact ⟨x, List.mem_zipIdx_iff_getElem?.1 h1.1, h1.2⟩
theorem checked_draw (hm : P.follows .mixedOrders = true) (hω : CopOk P G ω ops cop) (hok : regionOk N ops = true) (fs : List Flags) (hfs : fs = ops.toList.map fun o => flagsOf (cop o)) (heff : effOk fs (ancs ops.toList) = true)
    {T T' : Nat → AV} {H : AHeap} {H' : FH} {u : List Full} {s : List Snp} {Q : Exit → (Nat → AV) → AHeap → Prop} {id : Nat} (htr : Tr P G ops ops.toList T H u T' H'.abs) (hb : BOk P G cop true H'.abs ops.toList u H.next) (hsr : SRels cop ops ops.toList u s)
    (hck : (hardPl fs (ancs ops.toList)).all (checkR ω P G cop ops (effPl fs) (ancs ops.toList) s H') = true) (hQ : Q .normal T' H'.abs) : AW P G N (.region id ops true) Q T H := by
  refine gen_draw hm hok (effOk_spec heff hfs) (fun r x o hx ho hr => ?_) htr hb hQ
  have hol : ops.toList[r]? = some o := by simpa using ho
  have hR := ((BOk.at ops.toList u H.next r x o hb hx hol).2.2 hr).1
  have hfr : fs[r]? = some (flagsOf (cop o)) := by rw [hfs]; exact flags_at ho
  cases hsoft : softAt fs (ancs ops.toList) r with
  | true =>
    refine .inl fun e q hq hE => ?_
    unfold softAt at hsoft
    rw [List.all_eq_true] at hsoft
    have hfe : fs[e]? = some (flagsOf (cop q)) := by rw [hfs]; exact flags_at hq
    have := hsoft e (effPl_mem hfe hE)
    simp only [Bool.and_eq_true, Bool.or_eq_true, Bool.not_eq_true', decide_eq_false_iff_not] at this
    exact ⟨fun he => ancs_sound (this.1.resolve_left fun h => h he), fun he => ancs_sound (this.2.resolve_left fun h => h he)⟩
  | false =>
    refine .inr fun q hq hq0 hlo hhi => ?_
    have hmem : r ∈ hardPl fs (ancs ops.toList) := by
      unfold hardPl
      rw [List.mem_filter, List.mem_map]
      exact ⟨⟨(flagsOf (cop o), r), by rw [List.mem_filter]; exact ⟨mem_zipIdx hfr, hR⟩, rfl⟩, by simp [hsoft]⟩
    rw [List.all_eq_true] at hck
    have hc := hck r hmem
    obtain ⟨y, hy, hs⟩ := hsr.at hol hx
    unfold checkR at hc
    simp only [ho, hy] at hc
    have hw := hs.r hr
    rw [hw] at hc
    simp only [Bool.not_true, Bool.false_or] at hc
    rw [List.all_eq_true] at hc
    have eff_of : ∀ e y', u[e]? = some y' → y'.k.isEff = true → e ∈ effPl fs ∧ ∃ z, s[e]? = some z ∧ z.w = true := fun e y' hy' hye => by
      have hlt : e < ops.size := by
        have := hsr.length.1
        rcases Nat.lt_or_ge e u.length with g | g
        · simp at this; omega
        · rw [List.getElem?_eq_none g] at hy'; simp at hy'
      obtain ⟨o2, ho2⟩ := get_of hlt
      obtain ⟨z, hz, hzs⟩ := hsr.at (by simpa using ho2) hy'
      have hE := (BOk.at ops.toList u H.next e y' o2 hb hy' (by simpa using ho2)).1 hye
      refine ⟨effPl_mem (x := flagsOf (cop o2)) (by rw [hfs]; exact flags_at ho2) hE, z, hz, ?_⟩
      have := hzs.e
      rw [hye] at this
      cases hzw : z.w
      · rw [hzw] at this; simp at this
      · rfl
    have hqm : q ∈ (0 :: (effPl fs).map (· + 1)) := by
      rcases hq0 with rfl | ⟨e, y', rfl, hy', hye⟩
      · simp
      · exact List.mem_cons_of_mem _ (List.mem_map.2 ⟨e, (eff_of e y' hy' hye).1, rfl⟩)
    have hcq := hc q hqm
    have isEff_of : ∀ e, e ∈ effPl fs → (match s[e]? with | some y => y.w | none => false) = true → ∃ y', u[e]? = some y' ∧ y'.k.isEff = true := fun e he hwe => by
      obtain ⟨f, hf, hfe⟩ := effPl_of he
      cases hse : s[e]? with
      | none => rw [hse] at hwe; simp at hwe
      | some z =>
        rw [hse] at hwe
        have hlt : e < ops.size := by
          have := hsr.length.2
          rcases Nat.lt_or_ge e s.length with g | g
          · simp at this; omega
          · rw [List.getElem?_eq_none g] at hse; simp at hse
        obtain ⟨o2, ho2⟩ := get_of hlt
        have hul : e < u.length := by have := hsr.length.1; simp at this; omega
        obtain ⟨z', hz', hzs⟩ := hsr.at (i := e) (by simpa using ho2) (List.getElem?_eq_getElem hul)
        rw [hse] at hz'; simp only [Option.some.injEq] at hz'; subst hz'
        refine ⟨_, List.getElem?_eq_getElem hul, ?_⟩
        rw [hzs.e]
        have : (cop o2).isE = true := by
          rw [hfs, flags_at ho2] at hf
          simp only [Option.some.injEq] at hf
          rw [← hf] at hfe; exact hfe
        simp only at hwe
        rw [hwe, this]; rfl
    simp only [Bool.or_eq_true, List.any_eq_true, Bool.and_eq_true, decide_eq_true_eq] at hcq
    rcases hcq with (⟨e, he, h5, h6, h7⟩ | ⟨e, he, h5, h6, h7⟩) | h5
    · obtain ⟨y', hy', hye⟩ := isEff_of e he h6
      exact absurd (ancs_sound h7) (hlo e y' h5 hy' hye)
    · obtain ⟨y', hy', hye⟩ := isEff_of e he h6
      exact absurd (ancs_sound h7) (hhi e y' h5 hy' hye)
    · have hwn : awanted ops y.T.fn o = true := by rw [hs.T]; exact hs.w hw
      obtain ⟨v, kd, H1, _, _, _, _, hr0, hr1, hk⟩ := hω o y.T (heapS s H' q) _ _ hwn h5
      have hkr : kd.isRead = true := by rw [hr0]; exact hR
      have := hr1 hkr (heapS s H' q).abs.get (fun _ _ => rfl)
      have hv : v = y.v := AV.beq_eq _ _ hk
      have hH : (heapS s H' q).abs = hAt u H'.abs q := by
        unfold heapS hAt
        rcases Nat.lt_or_ge q ops.size with g | g
        · obtain ⟨o2, ho2⟩ := get_of g
          have hul : q < u.length := by have := hsr.length.1; simp at this; omega
          obtain ⟨z, hz, hzs⟩ := hsr.at (i := q) (by simpa using ho2) (List.getElem?_eq_getElem hul)
          rw [hz, List.getElem?_eq_getElem hul]
          exact hzs.H
        · rw [List.getElem?_eq_none (by have := hsr.length.2; simp at this; omega), List.getElem?_eq_none (by have := hsr.length.1; simp at this; omega)]
      rw [← hH, ← hs.T, ← hs.v, ← hv]
      exact this
end
end Go.Abs

namespace Go.Abs
open Go
abbrev KC := ET → FH → Bool
def regOk (P : Program) (G : Nat → Option AV) (N : Nat) (ops : Array Oper) : Bool := regionOk N ops && statOk (ops.toList.map fun o => flagsOf (fcop P G o)) (ancs ops.toList)
def regOkZ (P : Program) (G : Nat → Option AV) (N : Nat) (ops : Array Oper) : Bool := regionOk N ops && effOk (ops.toList.map fun o => flagsOf (fcopZ P G o)) (ancs ops.toList)
def regOkM (P : Program) (G : Nat → Option AV) (N : Nat) (ops : Array Oper) : Bool := regionOk N ops && effOk (ops.toList.map fun o => flagsOf (fcop P G o)) (ancs ops.toList)
noncomputable def fexec (ω : Om) (P : Program) (G : Nat → Option AV) (N n : Nat) (c : Code) : KC → KC → (Nat → KC) → ET → FH → Bool :=
  Code.rec (motive := fun _ => KC → KC → (Nat → KC) → ET → FH → Bool)
    (fun kn _ _ T H => kn T H)
    (fun _ ops d kn _ _ T H => ifK d
      (ifK (regOk P G N ops) (runL ω P G (ops.toList.map (fcoper (fcop P G) ops true)) H.next T H kn)
        (ifK (regOkM P G N ops) (runM ω P G (ops.toList.map (fcoper (fcop P G) ops true)) H.next [] T H fun s T H' =>
          ifK ((hardPl (ops.toList.map fun o => flagsOf (fcop P G o)) (ancs ops.toList)).all (checkR ω P G (fcop P G) ops (effPl (ops.toList.map fun o => flagsOf (fcop P G o))) (ancs ops.toList) s.reverse H')) (kn T H') false)
          (ifK (regOkZ P G N ops) (runM ω P G (ops.toList.map (fcoper (fcopZ P G) ops true)) H.next [] T H fun s T H' =>
          ifK ((hardPl (ops.toList.map fun o => flagsOf (fcopZ P G o)) (ancs ops.toList)).all (checkR ω P G (fcopZ P G) ops (effPl (ops.toList.map fun o => flagsOf (fcopZ P G o))) (ancs ops.toList) s.reverse H')) (kn T H') false) false)))
      (ifK (dstOk N ops.toList) (runL ω P G (ops.toList.map (fcoper (fcop P G) ops false)) 1048576 T H kn) false))
    (fun _ _ iha ihb kn kr ke T H => iha (fun T H => ihb kn kr ke T H) kr ke T H)
    (fun x _ _ iha ihb kn kr ke T H => optK (fx G x) fun y => (y.get T).onBool false fun b => ifK b (iha kn kr ke T H) (ihb kn kr ke T H))
    (fun id _ ih kn kr ke T H => ih kn kr (fun i => ifK (Nat.beq i id) kn (ke i)) T H)
    (fun _ ih _ kr ke T H => Nat.rec (motive := fun _ => ET → FH → Bool) (fun _ _ => false) (fun _ lp T H => ih lp kr ke T H) n T H)
    (fun _ _ _ _ _ _ _ _ _ _ _ => false)
    (fun id _ _ ke T H => ke id T H)
    (fun _ _ _ _ _ _ _ => false)
    (fun _ _ _ _ _ _ => false)
    (fun _ _ _ _ _ _ => false)
    (fun _ kr _ T H => kr T H)
    (fun _ _ _ _ _ _ => false) c
def contOf (kn kr : KC) (ke : Nat → KC) : Exit → KC
  | .normal => kn
  | .ret => kr
  | .exit i => ke i
  | _ => fun _ _ => false
noncomputable def resK (P : Program) (G : Nat → Option AV) (rs : List ResultVar) (T : ET) (H : FH) : (List AV → Bool) → Bool :=
  List.rec (motive := fun _ => (List AV → Bool) → Bool) (fun k => k [])
    (fun r _ ih k => ResultVar.rec (motive := fun _ => Bool)
      (fun t => optK (fx G (.tmp t)) fun x => ih fun vs => k (x.get T :: vs))
      (fun a t => optK (fx G (.tmp a)) fun x => optK (aagg P t) fun g => optK (asize P t) fun n => loadK 1048576 g n (x.get T) H fun v _ => v.force fun v => ih fun vs => k (v :: vs)) r) rs
noncomputable def oneK (vs : List AV) (k : AV → Bool) : Bool := List.rec (motive := fun _ => Bool) (k (.tuple [])) (fun a r _ => List.rec (motive := fun _ => Bool) (k a) (fun _ _ _ => k (.tuple vs)) r) vs
noncomputable def initK (vs : List AV) : Nat → ET → (ET → Bool) → Bool :=
  List.rec (motive := fun _ => Nat → ET → (ET → Bool) → Bool) (fun _ T k => k T) (fun v _ ih i T k => ET.put (P32.of (Nat.div i 32)) (P32.of (Nat.mod i 32)) v T fun T => natK (Nat.add i 1) fun i => ih i T k) vs
abbrev Ov := FuncId → Option (List AV → FH → (AV → FH → Bool) → Bool)
noncomputable def fcall (ov : Ov) (P : Program) (G : Nat → Option AV) (fuel n : Nat) : Om :=
  Nat.rec (motive := fun _ => Om) (fun _ _ _ _ => false) (fun _ ih f args H k =>
    Option.rec (motive := fun _ => Bool)
      (optK (P.funcs[f]?) fun fn => optK fn.body fun c => ifK (Nat.ble (lenN args) fn.ntmps) (ifK (Nat.ble fn.ntmps 1024)
        (initK args 0 ET.none fun T =>
          fexec ih P G fn.ntmps fuel c (fun T H => resK P G fn.results.toList T H fun vs => oneK vs fun v => k v H) (fun T H => resK P G fn.results.toList T H fun vs => oneK vs fun v => k v H) (fun _ _ _ => false) T H) false) false)
      (fun g => g args H k) (ov f)) n
section
variable {ω : Om} {P : Program} {G : Nat → Option AV} {N : Nat}
theorem fexec_sound (hm : P.follows .mixedOrders = true) (hω : GoodK P G ω) (hN : N ≤ 1024) (n : Nat) : ∀ (c : Code) (kn kr : KC) (ke : Nat → KC) (T : ET) (H : FH), fexec ω P G N n c kn kr ke T H = true →
    ∃ e T' H', (∀ Q : Exit → (Nat → AV) → AHeap → Prop, Q e (ET.fn T') (FH.abs H') → AW P G N c Q T.fn H.abs) ∧ H.next ≤ H'.next ∧ contOf kn kr ke e T' H' = true := by
  intro c
  induction c with
  | skip => exact fun kn kr ke T H h => ⟨.normal, T, H, fun Q hQ => aw_skip hQ, Nat.le_refl _, h⟩
  | region id ops d =>
    intro kn kr ke T H h
    cases d with
    | true =>
      have h : ifK (regOk P G N ops) (runL ω P G (ops.toList.map (fcoper (fcop P G) ops true)) H.next T H kn)
        (ifK (regOkM P G N ops) (runM ω P G (ops.toList.map (fcoper (fcop P G) ops true)) H.next [] T H fun s T H' =>
          ifK ((hardPl (ops.toList.map fun o => flagsOf (fcop P G o)) (ancs ops.toList)).all (checkR ω P G (fcop P G) ops (effPl (ops.toList.map fun o => flagsOf (fcop P G o))) (ancs ops.toList) s.reverse H')) (kn T H') false)
          (ifK (regOkZ P G N ops) (runM ω P G (ops.toList.map (fcoper (fcopZ P G) ops true)) H.next [] T H fun s T H' =>
          ifK ((hardPl (ops.toList.map fun o => flagsOf (fcopZ P G o)) (ancs ops.toList)).all (checkR ω P G (fcopZ P G) ops (effPl (ops.toList.map fun o => flagsOf (fcopZ P G o))) (ancs ops.toList) s.reverse H')) (kn T H') false) false)) = true := h
      cases hrg : regOk P G N ops with
      | true =>
        rw [hrg, ifK_true] at h
        simp only [regOk, Bool.and_eq_true] at hrg
        have hd : dstOk N ops.toList = true := by
          have := hrg.1
          simp only [regionOk, Bool.and_eq_true] at this
          exact this.2
        obtain ⟨u, T', H', htr, hn, hb, hk⟩ := runL_inv (copOk hω) hN true ops.toList _ T H kn hd h
        exact ⟨.normal, T', H', fun Q hQ => quiet_draw hm hrg.1 hrg.2 htr hb hQ, hn, hk⟩
      | false =>
        rw [hrg, ifK_false] at h
        cases hrm : regOkM P G N ops with
        | true =>
          rw [hrm, ifK_true] at h
          have h1 := hrm
          simp only [regOkM, Bool.and_eq_true] at h1
          have hd : dstOk N ops.toList = true := by
            have := h1.1
            simp only [regionOk, Bool.and_eq_true] at this
            exact this.2
          obtain ⟨u, s, T', H', htr, hn, hb, hsr, hk⟩ := runM_inv (copOk hω) hN ops.toList _ [] T H _ hd h
          obtain ⟨h2, h3⟩ := ifK_inv hk
          simp only [List.append_nil, List.reverse_reverse] at h2
          exact ⟨.normal, T', H', fun Q hQ => checked_draw hm (copOk hω) h1.1 _ rfl h1.2 htr hb hsr h2 hQ, hn, h3⟩
        | false =>
          rw [hrm, ifK_false] at h
          obtain ⟨h1, h⟩ := ifK_inv h
          simp only [regOkZ, Bool.and_eq_true] at h1
          have hd : dstOk N ops.toList = true := by
            have := h1.1
            simp only [regionOk, Bool.and_eq_true] at this
            exact this.2
          obtain ⟨u, s, T', H', htr, hn, hb, hsr, hk⟩ := runM_inv (copZOk hω) hN ops.toList _ [] T H _ hd h
          obtain ⟨h2, h3⟩ := ifK_inv hk
          simp only [List.append_nil, List.reverse_reverse] at h2
          exact ⟨.normal, T', H', fun Q hQ => checked_draw hm (copZOk hω) h1.1 _ rfl h1.2 htr hb hsr h2 hQ, hn, h3⟩
    | false =>
      have h : ifK (dstOk N ops.toList) (runL ω P G (ops.toList.map (fcoper (fcop P G) ops false)) 1048576 T H kn) false = true := h
      obtain ⟨h1, h⟩ := ifK_inv h
      obtain ⟨u, T', H', htr, hn, hb, hk⟩ := runL_inv (copOk hω) hN false ops.toList _ T H kn h1 h
      exact ⟨.normal, T', H', fun Q hQ => aw_region (tr_al htr h1 hQ), hn, hk⟩
  | seq a b iha ihb =>
    intro kn kr ke T H h
    obtain ⟨e, T1, H1, h1, h2, h3⟩ := iha (fun T H => fexec ω P G N n b kn kr ke T H) kr ke T H h
    cases e with
    | normal =>
      obtain ⟨e', T2, H2, g1, g2, g3⟩ := ihb kn kr ke T1 H1 h3
      exact ⟨e', T2, H2, fun Q hQ => aw_seq (h1 (QThen (fun T H => AW P G N b Q T H) Q) (g1 Q hQ)), by omega, g3⟩
    | exit i => exact ⟨.exit i, T1, H1, fun Q hQ => aw_seq (h1 (QThen (fun T H => AW P G N b Q T H) Q) hQ), h2, h3⟩
    | ret => exact ⟨.ret, T1, H1, fun Q hQ => aw_seq (h1 (QThen (fun T H => AW P G N b Q T H) Q) hQ), h2, h3⟩
    | goto _ => simp [contOf] at h3
    | panic _ => simp [contOf] at h3
    | outgrown => simp [contOf] at h3
  | cond x a b iha ihb =>
    intro kn kr ke T H h
    obtain ⟨y, hy, h⟩ := optK_inv (show optK (fx G x) (fun y => (y.get T).onBool false fun b' => ifK b' (fexec ω P G N n a kn kr ke T H) (fexec ω P G N n b kn kr ke T H)) = true from h)
    rcases AV.onBool_inv h with ⟨t, ht, h⟩ | ⟨h, _⟩
    · have hx : aval G T.fn x = some (.bool t) := by rw [fx_eq hy, ht]
      cases t with
      | true =>
        obtain ⟨e, T1, H1, h1, h2, h3⟩ := iha kn kr ke T H h
        exact ⟨e, T1, H1, fun Q hQ => aw_cond hx (h1 Q hQ), h2, h3⟩
      | false =>
        obtain ⟨e, T1, H1, h1, h2, h3⟩ := ihb kn kr ke T H h
        exact ⟨e, T1, H1, fun Q hQ => aw_cond hx (h1 Q hQ), h2, h3⟩
    · simp at h
  | block id c ih =>
    intro kn kr ke T H h
    obtain ⟨e, T1, H1, h1, h2, h3⟩ := ih kn kr (fun i => ifK (Nat.beq i id) kn (ke i)) T H h
    cases e with
    | exit i =>
      have h3 : ifK (Nat.beq i id) kn (ke i) T1 H1 = true := h3
      cases hb : Nat.beq i id with
      | true =>
        rw [hb] at h3
        have hid : i = id := by simpa using hb
        exact ⟨.normal, T1, H1, fun Q hQ => aw_block (h1 (QBlock id Q) (by simp only [QBlock]; rw [if_pos hid]; exact hQ)), h2, h3⟩
      | false =>
        rw [hb] at h3
        have hid : ¬ i = id := fun e => by subst e; simp at hb
        exact ⟨.exit i, T1, H1, fun Q hQ => aw_block (h1 (QBlock id Q) (by simp only [QBlock]; rw [if_neg hid]; exact hQ)), h2, h3⟩
    | normal => exact ⟨.normal, T1, H1, fun Q hQ => aw_block (h1 (QBlock id Q) hQ), h2, h3⟩
    | ret => exact ⟨.ret, T1, H1, fun Q hQ => aw_block (h1 (QBlock id Q) hQ), h2, h3⟩
    | goto _ => simp [contOf] at h3
    | panic _ => simp [contOf] at h3
    | outgrown => simp [contOf] at h3
  | loop c ih =>
    intro kn kr ke T H h
    have key : ∀ (m : Nat) (T : ET) (H : FH), Nat.rec (motive := fun _ => ET → FH → Bool) (fun _ _ => false) (fun _ lp T H => fexec ω P G N n c lp kr ke T H) m T H = true →
        ∃ e T' H', e ≠ Exit.normal ∧ H.next ≤ H'.next ∧ contOf kn kr ke e T' H' = true ∧
          ∀ (Q : Exit → (Nat → AV) → AHeap → Prop) (E0 : Env) (a : Act) (w : World) b k cs, Q e (ET.fn T') (FH.abs H') → GRel E0 G → St E0 N T.fn H.abs a w →
            ∃ e a' w', lift Q E0 N e a' w' ∧ Arrives P (lone (b.at a (.code c :: .inLoop c :: k)) cs w) b k cs e a' w' := by
      intro m
      induction m with
      | zero => intro T H h; simp at h
      | succ m ihm =>
        intro T H h
        obtain ⟨e, T1, H1, h1, h2, h3⟩ := ih _ kr ke T H h
        have pass : e ≠ .normal → contOf kn kr ke e T1 H1 = true → (∀ i, e ≠ .goto i) → ∃ e T' H', e ≠ Exit.normal ∧ H.next ≤ H'.next ∧ contOf kn kr ke e T' H' = true ∧
          ∀ (Q : Exit → (Nat → AV) → AHeap → Prop) (E0 : Env) (a : Act) (w : World) b k cs, Q e (ET.fn T') (FH.abs H') → GRel E0 G → St E0 N T.fn H.abs a w →
            ∃ e a' w', lift Q E0 N e a' w' ∧ Arrives P (lone (b.at a (.code c :: .inLoop c :: k)) cs w) b k cs e a' w' := by
          intro hne hk hng
          refine ⟨e, T1, H1, hne, h2, hk, fun Q E0 a w b k cs hQ hG hs => ?_⟩
          obtain ⟨e2, a1, w1, ⟨T2, H2, ⟨rfl, rfl, rfl⟩, s⟩, harr⟩ := h1 (fun e' T' H' => e' = e ∧ T' = T1.fn ∧ H' = H1.abs) ⟨rfl, rfl, rfl⟩ E0 a w hG hs b (.inLoop c :: k) cs
          cases e2 with
          | normal => exact absurd rfl hne
          | exit i => exact ⟨_, a1, w1, ⟨_, _, hQ, s⟩, .pass (x := .inLoop c) rfl (fun _ _ => .inl (by simp)) harr⟩
          | ret => exact ⟨_, a1, w1, ⟨_, _, hQ, s⟩, .pass (x := .inLoop c) rfl (fun _ _ => .inl (by simp)) harr⟩
          | goto l => exact absurd rfl (hng l)
          | panic _ => exact ⟨_, a1, w1, ⟨_, _, hQ, s⟩, .pass (x := .inLoop c) rfl (fun _ _ => .inl (by simp)) harr⟩
          | outgrown => exact ⟨_, a1, w1, ⟨_, _, hQ, s⟩, .pass (x := .inLoop c) rfl (fun _ _ => .inl (by simp)) harr⟩
        cases e with
        | normal =>
          obtain ⟨e2, T2, H2, g1, g2, g3, g4⟩ := ihm T1 H1 h3
          refine ⟨e2, T2, H2, g1, by omega, g3, fun Q E0 a w b k cs hQ hG hs => ?_⟩
          obtain ⟨e3, a1, w1, ⟨T3, H3, ⟨rfl, rfl, rfl⟩, s⟩, harr⟩ := h1 (fun e' T' H' => e' = .normal ∧ T' = T1.fn ∧ H' = H1.abs) ⟨rfl, rfl, rfl⟩ E0 a w hG hs b (.inLoop c :: k) cs
          obtain ⟨e4, a2, w2, q2, harr2⟩ := g4 Q E0 a1 w1 b k cs hQ hG s
          exact ⟨e4, a2, w2, q2, .of_steps (Steps.trans harr (.one step_inLoop)) harr2⟩
        | exit i => exact pass (by simp) h3 (by simp)
        | ret => exact pass (by simp) h3 (by simp)
        | goto _ => simp [contOf] at h3
        | panic _ => simp [contOf] at h3
        | outgrown => simp [contOf] at h3
    obtain ⟨e, T', H', h1, h2, h3, h4⟩ := key n T H h
    refine ⟨e, T', H', fun Q hQ E0 a w hG hs b k cs => ?_, h2, h3⟩
    obtain ⟨e2, a', w', hq, harr⟩ := h4 Q E0 a w b k cs hQ hG hs
    exact ⟨e2, a', w', hq, .of_steps (.one step_loop) harr⟩
  | exit id => exact fun kn kr ke T H h => ⟨.exit id, T, H, fun Q hQ => aw_exit hQ, Nat.le_refl _, h⟩
  | ret => exact fun kn kr ke T H h => ⟨.ret, T, H, fun Q hQ => aw_ret hQ, Nat.le_refl _, h⟩
  | rangeFunc _ _ _ _ _ _ => intro kn kr ke T H h; have h : false = true := h; simp at h
  | scope _ _ => intro kn kr ke T H h; have h : false = true := h; simp at h
  | label _ => intro kn kr ke T H h; have h : false = true := h; simp at h
  | goto _ => intro kn kr ke T H h; have h : false = true := h; simp at h
  | refuse _ => intro kn kr ke T H h; have h : false = true := h; simp at h
theorem loadK_inv {g : Bool} {n : Nat} {a : AV} {t : TypeId} {H : FH} {k : AV → FH → Bool} (hg : aagg P t = some g) (hn : asize P t = some n) (h : loadK 1048576 g n a H k = true) :
    ∃ cs v, aat H.abs.get a = some cs ∧ acut P t cs = some v ∧ k v H = true := by
  rcases AV.onPtr_inv h with ⟨i, off, rfl, h⟩ | ⟨cs, rfl, h⟩
  · obtain ⟨h1, h'⟩ := ifK_inv h
    obtain ⟨b, hb, h', _⟩ := FH.atK_inv h'
    have hb : H.abs.get i = some (.cells b.list) := hb
    cases g with
    | true =>
      obtain ⟨h2, h3⟩ := FObj.cutK_inv (show b.cutK off n (fun l => k (.agg l) H) false = true from h')
      refine ⟨b.list.drop off, .agg ((b.list.drop off).take n), by simp only [aat, hb]; rw [if_pos (by omega)], ?_, h3⟩
      simp only [acut, hg, hn]
      rw [if_pos (by simp; omega)]
    | false =>
      obtain ⟨v, h2, h3⟩ := FObj.cellK_inv (show b.cellK off (fun v => k v H) false = true from h')
      have hlt : off < b.list.length := by
        rcases Nat.lt_or_ge off b.list.length with g | g
        · exact g
        · rw [List.getElem?_eq_none g] at h2; simp at h2
      refine ⟨b.list.drop off, v, by simp only [aat, hb]; rw [if_pos (by omega)], ?_, h3⟩
      simp only [acut, hg, hn]
      rw [List.getElem?_drop, Nat.add_zero]; exact h2
  · cases g with
    | true =>
      have h' : takeK cs n (fun l => k (.agg l) H) false = true := h
      rw [takeK_eq] at h'
      split at h' <;> try (simp at h'; done)
      rename_i h2
      exact ⟨cs, .agg (cs.take n), rfl, by simp only [acut, hg, hn, if_pos h2], h'⟩
    | false =>
      have h' : nthK cs 0 (fun v => k v H) false = true := h
      rw [nthK_eq] at h'
      split at h' <;> try (simp at h'; done)
      rename_i v hc
      exact ⟨cs, v, rfl, by simp only [acut, hg, hn, hc], h'⟩
theorem resK_inv {T : ET} {H : FH} : ∀ {rs : List ResultVar} {k : List AV → Bool}, resK P G rs T H k = true → ∃ vs, aresults P T.fn H.abs.get rs = some vs ∧ k vs = true
  | [], k, h => ⟨[], rfl, h⟩
  | .tmp t :: rs, k, h => by
    obtain ⟨x, hx, h⟩ := optK_inv (show optK (fx G (.tmp t)) (fun x => resK P G rs T H fun vs => k (x.get T :: vs)) = true from h)
    obtain ⟨vs, h1, h2⟩ := resK_inv h
    have hv : some (T.fn t) = some (x.get T) := fx_eq (G := G) (x := .tmp t) hx
    simp only [Option.some.injEq] at hv
    exact ⟨x.get T :: vs, by simp only [aresults, aresult, h1, hv], h2⟩
  | .cell a t :: rs, k, h => by
    obtain ⟨x, hx, h⟩ := optK_inv (show optK (fx G (.tmp a)) (fun x => optK (aagg P t) fun g => optK (asize P t) fun n => loadK 1048576 g n (x.get T) H fun v _ => v.force fun v => resK P G rs T H fun vs => k (v :: vs)) = true from h)
    obtain ⟨g, hg, h⟩ := optK_inv h
    obtain ⟨n, hn, h⟩ := optK_inv h
    obtain ⟨cs, v, h1, h2, h⟩ := loadK_inv hg hn h
    have h := (AV.force_eq v (fun v => resK P G rs T H fun vs => k (v :: vs))).symm.trans h
    obtain ⟨vs, h3, h4⟩ := resK_inv h
    have hv : some (T.fn a) = some (x.get T) := fx_eq (G := G) (x := .tmp a) hx
    simp only [Option.some.injEq] at hv
    exact ⟨v :: vs, by simp only [aresults, aresult, hv, h1, h2, h3], h4⟩
theorem oneK_inv {T : Nat → AV} {get : Nat → Option AObj} {rs : List ResultVar} {vs : List AV} {k : AV → Bool} (hv : aresults P T get rs = some vs) (h : oneK vs k = true) : ∃ r, ares P T get rs = some r ∧ k r = true := by
  match vs with
  | [] => exact ⟨.tuple [], by simp only [ares, hv], h⟩
  | [a] => exact ⟨a, by simp only [ares, hv], h⟩
  | a :: b :: r => exact ⟨.tuple (a :: b :: r), by simp only [ares, hv], h⟩
theorem initK_inv : ∀ (vs : List AV) (i : Nat) (T : ET) (k : ET → Bool), i + vs.length ≤ 1024 → initK vs i T k = true → ∃ T' : ET, (T'.fn = fun t => if i ≤ t then (match vs[t - i]? with | some v => v | none => T.fn t) else T.fn t) ∧ k T' = true
  | [], i, T, k, _, h => ⟨T, by funext t; simp, h⟩
  | v :: vs, i, T, k, hl, h => by
    simp only [List.length_cons] at hl
    have h : ET.put (P32.of (Nat.div i 32)) (P32.of (Nat.mod i 32)) v T (fun T => natK (Nat.add i 1) fun i => initK vs i T k) = true := h
    rw [ET.put_eq, natK_eq] at h
    obtain ⟨T', h1, h2⟩ := initK_inv vs (i + 1) _ k (by omega) h
    refine ⟨T', ?_, h2⟩
    rw [h1]
    have e : ET.fn (ET.set T (P32.of (Nat.div i 32)) (P32.of (Nat.mod i 32)) v) = tput T.fn (some i) v := ET.fn_set T i v (by omega)
    rw [e]
    funext t
    by_cases h3 : i + 1 ≤ t
    · have hp : tput T.fn (some i) v t = T.fn t := by simp only [tput]; rw [if_neg (by omega)]
      rw [if_pos h3, if_pos (by omega), hp]
      have : t - i = (t - (i + 1)) + 1 := by omega
      rw [this, List.getElem?_cons_succ]
    · rw [if_neg h3]
      simp only [tput]
      by_cases h4 : t = i
      · subst h4; simp
      · rw [if_neg h4, if_neg (by omega)]
def OvGoodK (P : Program) (G : Nat → Option AV) (ov : Ov) : Prop :=
  ∀ f g, ov f = some g → ∀ args H k, g args H k = true → ∃ v H', Does P G f args H.abs (fun r h => r = v ∧ h = FH.abs H') ∧ H.next ≤ H'.next ∧ k v H' = true
theorem fcall_sound {ov : Ov} {fuel : Nat} (hm : P.follows .mixedOrders = true) (hp : plainFn P = true) (hov : OvGoodK P G ov) : ∀ n, GoodK P G (fcall ov P G fuel n)
  | 0 => fun f args H k h => by have h : false = true := h; simp at h
  | n + 1 => fun f args H k h => by
    have ih := fcall_sound (fuel := fuel) hm hp hov n
    have h : Option.rec (motive := fun _ => Bool)
      (optK (P.funcs[f]?) fun fn => optK fn.body fun c => ifK (Nat.ble (lenN args) fn.ntmps) (ifK (Nat.ble fn.ntmps 1024)
        (initK args 0 ET.none fun T =>
          fexec (fcall ov P G fuel n) P G fn.ntmps fuel c (fun T H => resK P G fn.results.toList T H fun vs => oneK vs fun v => k v H) (fun T H => resK P G fn.results.toList T H fun vs => oneK vs fun v => k v H) (fun _ _ _ => false) T H) false) false)
      (fun g => g args H k) (ov f) = true := h
    cases ho : ov f with
    | some g => rw [ho] at h; exact hov f g ho args H k h
    | none =>
      rw [ho] at h
      obtain ⟨fn, hf, h⟩ := optK_inv h
      obtain ⟨c, hb, h⟩ := optK_inv h
      obtain ⟨h1, h⟩ := ifK_inv h
      obtain ⟨h2, h⟩ := ifK_inv h
      have h1 : lenN args ≤ fn.ntmps := Nat.le_of_ble_eq_true h1
      rw [lenN_eq] at h1
      have h2 : fn.ntmps ≤ 1024 := Nat.le_of_ble_eq_true h2
      obtain ⟨T, hT, h⟩ := initK_inv args 0 ET.none _ (by omega) h
      obtain ⟨e, T', H', g1, g2, g3⟩ := fexec_sound hm ih h2 fuel c _ _ _ T H h
      have hT0 : T.fn = fun t => args.getD t undefA := by
        rw [hT]
        funext t
        rw [if_pos (Nat.zero_le _), Nat.sub_zero, ET.fn_none, List.getD]
        cases args[t]? <;> rfl
      have fin : (e = .normal ∨ e = .ret) → resK P G fn.results.toList T' H' (fun vs => oneK vs fun v => k v H') = true → ∃ v H', Does P G f args H.abs (fun r h => r = v ∧ h = FH.abs H') ∧ H.next ≤ H'.next ∧ k v H' = true := by
        intro he hr
        obtain ⟨vs, r1, r2⟩ := resK_inv hr
        obtain ⟨r, r3, r4⟩ := oneK_inv r1 r2
        refine ⟨r, H', does_of (enters_of hp hf hb) hf hb h1 ?_, g2, r4⟩
        rw [← hT0]
        exact g1 _ ⟨he, r, r3, rfl, rfl⟩
      cases e with
      | normal => exact fin (.inl rfl) g3
      | ret => exact fin (.inr rfl) g3
      | exit _ => simp [contOf] at g3
      | goto _ => simp [contOf] at g3
      | panic _ => simp [contOf] at g3
      | outgrown => simp [contOf] at g3
noncomputable def yesK (v : AV) (_ : FH) : Bool := v.onBool false fun b => b
end
def noOv : Ov := fun _ => none
theorem noOv_good (P : Program) (G : Nat → Option AV) : OvGoodK P G noOv := fun _ _ h => by simp [noOv] at h
end Go.Abs

namespace Go.Abs
open Go Go.RowKit
noncomputable def idxK (k : Int → Bool) (s : List UInt8) : Nat → Nat → Bool :=
  List.rec (motive := fun _ => Nat → Nat → Bool) (fun _ _ => k (Int.negSucc 0)) (fun b _ ih c i => ifK (Nat.beq b.toNat c) (k (Int.ofNat i)) (natK (Nat.succ i) fun i => ih c i)) s
theorem indexByte_cases (b : UInt8) (l : List UInt8) (c : UInt8) : Go.Lib.indexByte (b :: l) c = if b = c then 0 else if Go.Lib.indexByte l c = -1 then -1 else Go.Lib.indexByte l c + 1 := by
  simp [Go.Lib.indexByte]
theorem idxK_inv {k : Int → Bool} {c : UInt8} : ∀ (s : List UInt8) (i : Nat), idxK k s c.toNat i = true → k (if Go.Lib.indexByte s c = -1 then -1 else Go.Lib.indexByte s c + i) = true
  | [], i, h => h
  | b :: l, i, h => by
    have h : ifK (Nat.beq b.toNat c.toNat) (k (Int.ofNat i)) (natK (Nat.succ i) fun i => idxK k l c.toNat i) = true := h
    rw [indexByte_cases]
    by_cases e : b = c
    · subst e
      have e1 : Nat.beq b.toNat b.toNat = true := Nat.beq_refl _
      rw [e1, ifK_true] at h
      simpa using h
    · have e1 : Nat.beq b.toNat c.toNat = false := by
        cases h' : Nat.beq b.toNat c.toNat with
        | false => rfl
        | true => exact absurd (UInt8.toNat_inj.1 (Nat.eq_of_beq_eq_true h')) e
      rw [e1, ifK_false, natK_eq] at h
      have := idxK_inv l (i + 1) h
      rw [if_neg e]
      have hge := Go.Lib.indexByte_ge l c
      by_cases e2 : Go.Lib.indexByte l c = -1
      · rw [if_pos e2] at this ⊢; simpa using this
      · rw [if_neg e2] at this ⊢
        rw [if_neg (by omega)]
        have : Go.Lib.indexByte l c + 1 + (i : Int) = Go.Lib.indexByte l c + ((i + 1 : Nat) : Int) := by omega
        rw [this]; assumption
noncomputable def idxOv (args : List AV) (H : FH) (k : AV → FH → Bool) : Bool :=
  nthK args 0 (fun a => nthK args 1 (fun b => ifK (Nat.beq (lenN args) 2)
    (a.onStr false fun s => b.onInt false fun kd n => ifK (kindB kd .u8) (natK n.toNat fun c => ifK (Nat.blt c 256) (idxK (fun r => k (.int .i64 r) H) s c 0) false) false) false) false) false
structure IsIdx (P : Program) (f : FuncId) : Prop where
  ex : ∃ fn, P.funcs[f]? = some fn ∧ (fn.name == "runtime.NumGoroutine") = false ∧ fn.body.isNone = true ∧ Extern.findNext fn = none ∧ Extern.find fn = some Extern.BytealgIndexByte.indexByte
theorem nthK_inv {α : Type} {l : List α} {n : Nat} {k : α → Bool} (h : nthK l n k false = true) : ∃ a, l[n]? = some a ∧ k a = true := by
  rw [nthK_eq] at h
  split at h
  · rename_i a ha; exact ⟨a, ha, h⟩
  · simp at h
theorem idx_does {P : Program} {G : Nat → Option AV} {f : FuncId} (hf : IsIdx P f) (s : List UInt8) (c : Int) (H : AHeap) :
    Does P G f [.str s, .int .u8 c] H fun r h => r = .int .i64 (Go.Lib.indexByte s c.toNat.toUInt8) ∧ h = H := by
  obtain ⟨fn, h1, h2, h3, h4, h5⟩ := hf.ex
  refine ⟨fun E w vs hR hG hv => ?_⟩
  cases hv with | cons ha hv =>
  cases hv with | cons hb hv =>
  cases hv
  cases ha
  cases hb
  refine .inr ⟨.int .i64 (Go.Lib.indexByte s c.toNat.toUInt8), w, ?_, _, H, E, ⟨rfl, rfl⟩, Ext.refl E, .int _ _, hR⟩
  rw [run_callFunc_extern h1 h2 h3 h4 h5]
  have := Go.Lib.run_indexByteString (P := P) ⟨s.toArray⟩ c w
  simp only at this
  rw [this]
  rfl
theorem idxOv_good {P : Program} {G : Nat → Option AV} {f : FuncId} (hf : IsIdx P f) (args : List AV) (H : FH) (k : AV → FH → Bool) (h : idxOv args H k = true) :
    ∃ v H', Does P G f args H.abs (fun r h => r = v ∧ h = FH.abs H') ∧ H.next ≤ H'.next ∧ k v H' = true := by
  obtain ⟨a, ha, h⟩ := nthK_inv h
  obtain ⟨b, hb, h⟩ := nthK_inv h
  obtain ⟨hl, h⟩ := ifK_inv h
  have hl := Nat.eq_of_beq_eq_true hl
  rw [lenN_eq] at hl
  obtain rfl : args = [a, b] := by
    match args, hl with
    | [x, y], _ => simp at ha hb; subst ha; subst hb; rfl
  rcases AV.onStr_inv h with ⟨s, rfl, h⟩ | ⟨h, _⟩
  case inr => simp at h
  rcases AV.onInt_inv (show AV.onInt false _ b = true from h) with ⟨kd, n, rfl, h⟩ | ⟨h, _⟩
  case inr => simp at h
  have h : ifK (kindB kd .u8) (natK n.toNat fun c => ifK (Nat.blt c 256) (idxK (fun r => k (.int .i64 r) H) s c 0) false) false = true := h
  obtain ⟨hk, hx⟩ := ifK_inv h
  rw [natK_eq] at hx
  obtain ⟨hlt, hx⟩ := ifK_inv hx
  have hlt : n.toNat < 256 := Nat.le_of_ble_eq_true hlt
  obtain rfl : kd = .u8 := kindB_eq.1 hk
  have e : (n.toNat.toUInt8).toNat = n.toNat := by simp [Nat.toUInt8]; omega
  rw [← e] at hx
  have := idxK_inv s 0 hx
  refine ⟨_, H, idx_does hf s n H.abs, Nat.le_refl _, ?_⟩
  have hge := Go.Lib.indexByte_ge s n.toNat.toUInt8
  split at this
  · rename_i e; rw [e]; exact this
  · simpa using this
theorem closed_yesG {P : Program} {G : Nat → Option AV} {ov : Ov} {f : FuncId} {fuel n : Nat} (he : Enters P f) (hm : P.follows .mixedOrders = true) (hp : plainFn P = true) (hov : OvGoodK P G ov) (h : fcall ov P G fuel n f [] FH.empty yesK = true) (w : World)
    (hG : GRel (Env.start w) G) : Calls P f #[] w fun e w' => e = .returned (.bool true) ∧ Olds w w' := by
  obtain ⟨v, H', hd, _, hk⟩ := fcall_sound hm hp hov n f [] FH.empty yesK h
  rw [FH.abs_empty] at hd
  have hv : v = .bool true := by
    rcases AV.onBool_inv (show v.onBool false (fun b => b) = true from hk) with ⟨b, hb, h⟩ | ⟨h, _⟩
    · rw [hb, h]
    · simp at h
  exact hd.yes he (fun r H h => by rw [h.1, hv]) w hG .nil
end Go.Abs

namespace Go.Lex
set_option linter.unusedVariables false
abbrev Bs := List UInt8
def isBlank (b : UInt8) : Bool := b == 32 || b == 9 || b == 10 || b == 13
def isLetter (b : UInt8) : Bool := decide (97 ≤ b.toNat) && decide (b.toNat ≤ 122)
def isDigit (b : UInt8) : Bool := decide (48 ≤ b.toNat) && decide (b.toNat ≤ 57)
def isNamec (b : UInt8) : Bool := isLetter b || isDigit b || b == 95
theorem dropWhile_le {α : Type} (p : α → Bool) : ∀ l : List α, (l.dropWhile p).length ≤ l.length
  | [] => Nat.le_refl _
  | a :: l => by
    rw [List.dropWhile_cons]
    split
    · exact Nat.le_succ_of_le (dropWhile_le p l)
    · exact Nat.le_refl _
def betw (s : Bs) : Bs :=
  match h : s.dropWhile isBlank with
  | 45 :: 45 :: q => betw (q.dropWhile fun b => b != 10)
  | r => r
termination_by s.length
decreasing_by
  have h1 := dropWhile_le isBlank s
  rw [h] at h1
  have h2 := dropWhile_le (fun b : UInt8 => b != 10) q
  simp only [List.length_cons] at h1
  omega
def keptWords : List Bs := [[110,111,100,101],[114,101,116,117,114,110,115],[118,97,114],[108,101,116],[116,101,108],[98,111,111,108],[105,110,116],[116,114,117,101],[102,97,108,115,101],[110,111,116],[97,110,100],[111,114],[120,111,114],[109,111,100],[105,102],[116,104,101,110],[101,108,115,101],[112,114,101],[102,98,121],[119,104,101,110],[109,101,114,103,101]]
def kept (s : Bs) : Bool := keptWords.contains s
def signs : List Bs := [[60,61],[62,61],[60,62],[45,62],[40],[41],[58],[59],[44],[61],[43],[45],[42],[47],[60],[62]]
def signOf (s : Bs) : Option Bs := signs.find? fun x => x.isPrefixOf s
def numVal (s : Bs) : Nat := s.foldl (fun n b => 10 * n + (b.toNat - 48)) 0
structure Wd where
  kind : Nat
  text : Bs
  n : Nat
  deriving DecidableEq
def wordS (s : Bs) : Option Wd := match s with
  | [] => none
  | b :: _ =>
    if isLetter b then
      (if kept (s.takeWhile isNamec) then some ⟨2, s.takeWhile isNamec, 0⟩ else if (s.takeWhile isNamec).length ≤ 24 then some ⟨1, s.takeWhile isNamec, 0⟩ else none)
    else if isDigit b then
      (if numVal (s.takeWhile isDigit) < 9223372036854775808 ∧ ((s.takeWhile isDigit).length = 1 ∨ b ≠ 48) then some ⟨3, s.takeWhile isDigit, numVal (s.takeWhile isDigit)⟩ else none)
    else match signOf s with
      | some t => some ⟨4, t, 0⟩
      | none => none
def cutS (n : Nat) (s : Bs) : Except Nat (List (Nat × Wd)) :=
  match h : betw s with
  | [] => .ok []
  | b :: r => match wordS (b :: r) with
    | none => .error (n - (r.length + 1))
    | some w => match cutS n (r.drop (w.text.length - 1)) with
      | .ok l => .ok ((n - (r.length + 1), w) :: l)
      | .error e => .error e
termination_by s.length
decreasing_by
  have hb : ∀ s : Bs, (betw s).length ≤ s.length := by
    intro s
    induction s using betw.induct with
    | case1 s q h ih =>
      rw [betw]
      split
      · rename_i q' h'
        rw [h] at h'
        simp only [List.cons.injEq, true_and] at h'
        subst h'
        have h1 := dropWhile_le isBlank s
        rw [h] at h1
        have h2 := dropWhile_le (fun b : UInt8 => b != 10) q
        simp only [List.length_cons] at h1
        omega
      · rename_i h'
        exact absurd h (h' q)
    | case2 s h =>
      rw [betw]
      split
      · rename_i q h'
        exact absurd h' (h q)
      · exact dropWhile_le isBlank s
  have h1 := hb s
  rw [h] at h1
  simp only [List.length_cons, List.length_drop] at h1 ⊢
  omega
end Go.Lex

namespace Go.Abs
open Go Go.RowKit
theorem Rel.below {E : Env} {H : AHeap} {w w' : World} (h : Rel E H w) (b : Below w.heap.size w w') : Rel E H w' := by
  have hb : ∀ (B : Nat) (o : Obj), w.heap[B]? = some o → w'.heap[B]? = some o := fun B o ho => by
    rw [b.block B (Array.getElem?_eq_some_iff.1 ho).1]; exact ho
  exact ⟨b.os.trans h.os, b.output.trans h.out, fun B o hB => hb _ _ (h.K B o hB), fun B o hB => hb _ _ (h.F B o hB), h.KF, h.dom, fun i x hi => by
    obtain ⟨p, ob, g1, g2, g3, g4, g5⟩ := h.live i x hi
    exact ⟨p, ob, g1, g2, g3, hb _ _ g4, g5⟩, h.inj⟩
structure IsCopy (P : Program) (f : FuncId) : Prop where
  enters : Enters P f
  runs : ∀ (s : ByteArray) (w : World), s.size ≤ 281474976710656 → Calls P f #[.string s] w fun e w' => e = .returned (.string s) ∧ Below w.heap.size w w'
theorem copy_does {P : Program} {G : Nat → Option AV} {f : FuncId} (hf : IsCopy P f) (s : List UInt8) (hs : s.length ≤ 281474976710656) (H : AHeap) : Does P G f [.str s] H fun r h => r = .str s ∧ h = H := by
  refine ⟨fun E w vs hR hG hv => ?_⟩
  cases hv with | cons ha hv =>
  cases hv
  cases ha
  refine .inl ⟨hf.enters _ _, (hf.runs ⟨s.toArray⟩ w (by simpa [ByteArray.size] using hs)).mono fun e w' ⟨h1, h2⟩ => ⟨_, h1, .str s, H, E, ⟨rfl, rfl⟩, Ext.refl E, .str s, hR.below h2⟩⟩
noncomputable def copyOv (args : List AV) (H : FH) (k : AV → FH → Bool) : Bool :=
  nthK args 0 (fun a => ifK (Nat.beq (lenN args) 1) (a.onStr false fun s => ifK (Nat.ble (lenN s) 281474976710656) (k (.str s) H) false) false) false
theorem copyOv_good {P : Program} {G : Nat → Option AV} {f : FuncId} (hf : IsCopy P f) (args : List AV) (H : FH) (k : AV → FH → Bool) (h : copyOv args H k = true) :
    ∃ v H', Does P G f args H.abs (fun r h => r = v ∧ h = FH.abs H') ∧ H.next ≤ H'.next ∧ k v H' = true := by
  obtain ⟨a, ha, h⟩ := nthK_inv h
  obtain ⟨hl, h⟩ := ifK_inv h
  have hl := Nat.eq_of_beq_eq_true hl
  rw [lenN_eq] at hl
  obtain rfl : args = [a] := by
    match args, hl with
    | [x], _ => simp at ha; subst ha; rfl
  rcases AV.onStr_inv h with ⟨s, rfl, h⟩ | ⟨h, _⟩
  case inr => simp at h
  have h : ifK (Nat.ble (lenN s) 281474976710656) (k (.str s) H) false = true := h
  obtain ⟨h1, h2⟩ := ifK_inv h
  have h1 : lenN s ≤ 281474976710656 := Nat.le_of_ble_eq_true h1
  rw [lenN_eq] at h1
  exact ⟨_, H, copy_does hf s h1 H.abs, Nat.le_refl _, h2⟩
noncomputable def ovAdd (a : FuncId) (g : List AV → FH → (AV → FH → Bool) → Bool) (o : Ov) : Ov := fun f => ifK (Nat.beq f a) (some g) (o f)
theorem ovAdd_good {P : Program} {G : Nat → Option AV} {a : FuncId} {g : List AV → FH → (AV → FH → Bool) → Bool} {o : Ov}
    (hg : ∀ args H k, g args H k = true → ∃ v H', Does P G a args H.abs (fun r h => r = v ∧ h = FH.abs H') ∧ H.next ≤ H'.next ∧ k v H' = true) (ho : OvGoodK P G o) : OvGoodK P G (ovAdd a g o) := by
  intro f g' h args H k hk
  unfold ovAdd at h
  cases e : Nat.beq f a with
  | true =>
    obtain rfl := Nat.eq_of_beq_eq_true e
    rw [e, ifK_true] at h
    simp only [Option.some.injEq] at h; subst h
    exact hg args H k hk
  | false => rw [e, ifK_false] at h; exact ho f g' h args H k hk
end Go.Abs

namespace Go.Abs
open Go
section
variable {P : Program} {E : Env} {w : World} {t u e ty : TypeId} {info : TypeInfo} {s : List UInt8} {us ux : Value}
end
end Go.Abs

namespace Go.Abs
open Go
section
variable {P : Program} (w : World)
end
end Go.Abs
namespace Go.Abs
open Go
end Go.Abs

namespace Go.Abs
open Go Go.RowKit
structure IsCheck (P : Program) (f : FuncId) (T u : TypeId) : Prop where
  enters : Enters P f
  lies : liesAt P P.depth T 1 0 u 1 = true
  cells : P.cellsOf T = 2
  fresh : ∀ (b n : Nat) (w : World), w.cell? ⟨b, 0, none⟩ = some (.pointer none) → w.shape? b = some (T, n) → 0 < n → liesAt P P.depth T (n / P.cellsOf T) 0 u 1 = true → w.frozen? ⟨b, 0, none⟩ = false →
    Calls P f #[.pointer (some ⟨b, 0, none⟩)] w fun e w' => e = .returned (.tuple #[]) ∧ w' = w.setCell ⟨b, 0, none⟩ (.pointer (some ⟨b, 0, none⟩))
  used : ∀ (b : Nat) (w : World), w.cell? ⟨b, 0, none⟩ = some (.pointer (some ⟨b, 0, none⟩)) → Calls P f #[.pointer (some ⟨b, 0, none⟩)] w fun e w' => e = .returned (.tuple #[]) ∧ w' = w
end Go.Abs

namespace Go.Abs
open Go Go.RowKit
structure IsWrite (P : Program) (f ck : FuncId) (T e t u : TypeId) : Prop where
  enters : Enters P f
  slice : P.underlying t = some (.slice e)
  string : P.underlying u = some .string
  info : ∃ info z, P.info? e = some info ∧ azero P e = some z ∧ z.cells.length = 1 ∧ info.size = 1 ∧ info.bytes = 1
  runs : ∀ (b : Nat) (s : ByteArray) (x x' y : Value) (w w1 w2 : World), (Calls P ck #[.pointer (some ⟨b, 0, none⟩)] w fun e w' => e = .returned (.tuple #[]) ∧ w' = w1) →
    w1.cell? ⟨b, 1, none⟩ = some x → (Builtin.append_ #[t, u] t #[x, .string s]).run P w1 = .ok x' w2 → ∀ (ao : Option Addr) (n c : Nat), x' = .slice ao n c → w2.cell? ⟨b, 1, none⟩ = some y → w2.frozen? ⟨b, 1, none⟩ = false →
    Calls P f #[.pointer (some ⟨b, 0, none⟩), .string s] w fun e w' => e = .returned (.tuple #[.int .i64 s.size, .nilIface]) ∧ w' = w2.setCell ⟨b, 1, none⟩ x'
structure IsString (P : Program) (f : FuncId) (e : TypeId) : Prop where
  enters : Enters P f
  empty : ∀ (b : Nat) (w : World), w.cell? ⟨b, 1, none⟩ = some (.slice none 0 0) → Calls P f #[.pointer (some ⟨b, 0, none⟩)] w fun e w' => e = .returned (.string ⟨#[]⟩) ∧ Below w.heap.size w w'
  full : ∀ (b g cap : Nat) (l : List UInt8) (c : Array Value) (fz : Nat × Nat) (w : World), w.cell? ⟨b, 1, none⟩ = some (.slice (some ⟨g, 0, none⟩) l.length cap) → w.heap[g]? = some (.cells c e fz) → (∀ (j : Nat) (x : UInt8), l[j]? = some x → w.cell? ⟨g, j, none⟩ = some (.int .u8 x.toNat)) →
    l ≠ [] → l.length ≤ cap → cap ≤ c.size → l.length ≤ 140737488355328 → Calls P f #[.pointer (some ⟨b, 0, none⟩)] w fun e w' => e = .returned (.string ⟨l.toArray⟩) ∧ (∀ C, C ≠ g → w'.heap[C]? = w.heap[C]?) ∧ w'.os = w.os ∧ w'.output = w.output
structure IsGrow (P : Program) (f ck : FuncId) (e : TypeId) : Prop where
  enters : Enters P f
  runs : ∀ (b n : Nat) (w w1 : World), (Calls P ck #[.pointer (some ⟨b, 0, none⟩)] w fun e w' => e = .returned (.tuple #[]) ∧ w' = w1) →
    w1.cell? ⟨b, 1, none⟩ = some (.slice none 0 0) → w1.frozen? ⟨b, 1, none⟩ = false → b < w1.heap.size → 0 < n → n ≤ 140737488355328 →
    Calls P f #[.pointer (some ⟨b, 0, none⟩), .int .i64 n] w fun x w' => x = .returned (.tuple #[]) ∧ ∃ c : Array Value, w'.heap = ((w1.alloc (.cells c e)).setCell ⟨b, 1, none⟩ (.slice (some ⟨w1.heap.size, 0, none⟩) 0 c.size)).heap ∧ w'.os = w1.os ∧ w'.output = w1.output
  runs0 : ∀ (b : Nat) (w w1 : World), (Calls P ck #[.pointer (some ⟨b, 0, none⟩)] w fun e w' => e = .returned (.tuple #[]) ∧ w' = w1) →
    w1.cell? ⟨b, 1, none⟩ = some (.slice none 0 0) → Calls P f #[.pointer (some ⟨b, 0, none⟩), .int .i64 0] w fun x w' => x = .returned (.tuple #[]) ∧ w'.heap = w1.heap ∧ w'.os = w1.os ∧ w'.output = w1.output
end Go.Abs

namespace Go.Abs
open Go Go.RowKit
section
variable {R : Type}
noncomputable def twoK (cs : List AV) (f : AV → AV → R) (z : R) : R :=
  List.rec (motive := fun _ => R) z (fun a r _ => List.rec (motive := fun _ => R) z (fun b q _ => List.rec (motive := fun _ => R) (f a b) (fun _ _ _ => z) q) r) cs
end
noncomputable def nilB {α : Type} (l : List α) : Bool := List.rec (motive := fun _ => Bool) true (fun _ _ _ => false) l
theorem nilB_eq {α : Type} (l : List α) : nilB l = true ↔ l = [] := by cases l <;> simp [nilB]
noncomputable def oneKK {R : Type} (cs : List AV) (f : AV → R) (z : R) : R := List.rec (motive := fun _ => R) z (fun a r _ => List.rec (motive := fun _ => R) (f a) (fun _ _ _ => z) r) cs
theorem oneKK_inv {cs : List AV} {f : AV → Bool} (h : oneKK cs f false = true) : ∃ a, cs = [a] ∧ f a = true := by
  match cs, h with
  | [a], h => exact ⟨a, rfl, h⟩
  | [], h => simp [oneKK] at h
  | _ :: _ :: _, h => simp [oneKK] at h
end Go.Abs

namespace Go.Proofs.YtnhomjhfaoipmaaGreatDoor
open Go Go.Abs Go.RowKit
/- internal/stringslite.Clone: the same bytes; of what was there nothing has turned. -/
set_option maxRecDepth 100000 in
theorem clone_runs (s : ByteArray) (w : World) (hlim : s.size ≤ 281474976710656) : Calls Tryz.prog 375 #[.string s] w fun e w' => e = .returned (.string s) ∧ Below w.heap.size w w' := by
  by_cases h0 : s.size = 0
  · obtain rfl : s = ⟨#[]⟩ := ByteArray.ext (Array.eq_empty_of_size_eq_zero h0)
    go_enter Tryz.func375, Tryz.ntmps375
    go_wp2
    go_ret
    exact ⟨rfl, Below.refl _ _⟩
  · have hi : Tryz.prog.info? 5 = some Tryz.t5 := by kernel_rfl
    have hz0 : Tryz.t5.zero = some (.int .u8 0) := by kernel_rfl
    have hz1 : Tryz.t5.size = 1 := by kernel_rfl
    have hz2 : Tryz.t5.bytes = 1 := by kernel_rfl
    have hinfo : (Tryz.prog.info? 5).map (·.size) = some 1 := by kernel_rfl
    have hco : Tryz.prog.cellsOf 5 = 1 := by kernel_rfl
    have u29 : Tryz.prog.underlying 43 = some (.slice 5) := Tryz.underlying43
    have u94 : Tryz.prog.underlying 496 = some (.pointer 5) := Tryz.underlying496
    have z5 : ∀ w, (Go.sizeOf 5).run Tryz.prog w = .ok 1 w := fun w => by kernel_rfl
    obtain ⟨M, hM⟩ : ∃ M, M = madeCells (Value.int .u8 0).cells (((s.size : Nat) : Int).toNat * Tryz.t5.size) := ⟨_, rfl⟩
    have hMs : M.size = s.size := by rw [hM, size_madeCells, hz1]; simp
    have hmk : ∀ W : World, (Instr.makeSlice 43 (.int .i64 (s.size : Int)) (.int .i64 (s.size : Int))).run Tryz.prog W = .ok (.slice (some ⟨W.heap.size, 0, none⟩) s.size s.size) (W.alloc (.cells M 5)) := fun W => by
      have h := run_make (P := Tryz.prog) W 43 5 Tryz.t5 (.int .u8 0) u29 hi hz0 .i64 .i64 (s.size : Int) (s.size : Int) (by omega) (by omega) (by rw [hz2]; omega) (by omega)
      rw [← hM] at h
      simpa using h
    clear hM
    have hcp := Lib.run_copy_row_string (P := Tryz.prog) (w.alloc (.cells M 5)) 43 9 3 5 w.heap.size 0 s.size s.size s M 5 u29 hinfo (heap_alloc_new w _) (Nat.le_refl _) (by omega)
    obtain ⟨Y, hY⟩ : ∃ Y, Y = (M.toList.take 0 ++ Lib.byteCells s.data.toList ++ M.toList.drop (0 + s.size)).toArray := ⟨_, rfl⟩
    rw [← hY] at hcp
    have hYl : Y.toList = Lib.byteCells s.data.toList := by
      rw [hY, List.toList_toArray, List.take_zero, List.nil_append, List.drop_of_length_le (by rw [Array.length_toList]; omega), List.append_nil]
    have hYs : Y.size = s.size := by rw [← Array.length_toList, hYl, Lib.byteCells_length, ← Lib.size_eq]
    have hgY : ((w.alloc (.cells M 5)).setRow w.heap.size Y).heap[w.heap.size]? = some (.cells Y 5 (0, 0)) := setRow_heap _ _ M _ 5 (0, 0) (heap_alloc_new w _)
    have hne : s.data.toList ≠ [] := fun e => h0 (by rw [Lib.size_eq, e]; rfl)
    have hUS := Lib.run_unsafeString_row (P := Tryz.prog) ((w.alloc (.cells M 5)).setRow w.heap.size Y) 496 3 9 5 u94 hco w.heap.size Y.size (by unfold World.shape?; rw [hgY]) s.data.toList hne (by rw [← Lib.size_eq]; omega) (by rw [← Lib.size_eq]; omega)
      (fun j x hx => Lib.cells_of_row hgY Y.size j _ (by rw [List.take_of_length_le (by rw [Array.length_toList]; exact Nat.le_refl _), hYl]; simp [Lib.byteCells, hx]))
    rw [← Lib.size_eq] at hUS
    clear hY
    go_enter Tryz.func375, Tryz.ntmps375
    go_wp2
    go_ret
    have hb1 : Below w.heap.size w (w.alloc (.cells M 5)) := (Below.refl _ w).alloc (Nat.le_refl _) _
    have hb2 : Below w.heap.size (w.alloc (.cells M 5)) ((w.alloc (.cells M 5)).setRow w.heap.size Y) := ⟨rfl, rfl, rfl, by simp, fun k hk => setRow_other _ _ _ _ (by omega)⟩
    exact ⟨rfl, Lib.below_freeze (hb1.trans hb2) (p := ⟨w.heap.size, 0, none⟩) (Nat.le_refl _) _⟩
theorem isCopy : IsCopy Tryz.prog 375 := ⟨Tryz.call375, clone_runs⟩
end Go.Proofs.YtnhomjhfaoipmaaGreatDoor

namespace Go.Lex
theorem betw_line' (s q : Bs) (h : s.dropWhile isBlank = 45 :: 45 :: q) : betw s = betw (q.dropWhile fun b => b != 10) := by
  rw [betw]
  split
  · rename_i q' h'
    rw [h] at h'
    simp only [List.cons.injEq, true_and] at h'
    rw [h']
  · rename_i h'
    exact absurd h (h' q)
theorem betw_word' (s : Bs) (h : ∀ q, s.dropWhile isBlank ≠ 45 :: 45 :: q) : betw s = s.dropWhile isBlank := by
  rw [betw]
  split
  · rename_i q hq
    exact absurd hq (h q)
  · rfl
theorem betw_blank {b : UInt8} {s : Bs} (h : isBlank b = true) : betw (b :: s) = betw s := by
  have e : (b :: s).dropWhile isBlank = s.dropWhile isBlank := by rw [List.dropWhile_cons, if_pos h]
  by_cases hq : ∃ q, s.dropWhile isBlank = 45 :: 45 :: q
  · obtain ⟨q, hq⟩ := hq
    rw [betw_line' _ q (e.trans hq), betw_line' _ q hq]
  · have hn : ∀ q, s.dropWhile isBlank ≠ 45 :: 45 :: q := fun q h => hq ⟨q, h⟩
    rw [betw_word' s hn, betw_word' _ (by rw [e]; exact hn), e]
theorem betw_rem (q : Bs) : betw (45 :: 45 :: q) = betw (q.dropWhile fun b => b != 10) := betw_line' _ q rfl
theorem betw_here {b : UInt8} {s : Bs} (h : isBlank b = false) (h2 : ∀ q, b :: s ≠ 45 :: 45 :: q) : betw (b :: s) = b :: s := by
  have e : (b :: s).dropWhile isBlank = b :: s := by rw [List.dropWhile_cons, h]; rfl
  rw [betw_word' _ (by rw [e]; exact h2), e]
theorem betw_nil' : betw [] = [] := betw_word' [] (fun q h => by simp at h)
theorem wordS_text {s : Bs} {w : Wd} (h : wordS s = some w) : w.text <+: s ∧ w.text ≠ [] := by
  cases s with
  | nil => simp [wordS] at h
  | cons c q =>
    simp only [wordS] at h
    split at h
    · rename_i hL
      have hne : (c :: q).takeWhile isNamec ≠ [] := by
        rw [List.takeWhile_cons, if_pos (by simp [isNamec, hL])]; simp
      split at h
      · simp only [Option.some.injEq] at h; subst h; exact ⟨List.takeWhile_prefix _, hne⟩
      · split at h
        · simp only [Option.some.injEq] at h; subst h; exact ⟨List.takeWhile_prefix _, hne⟩
        · simp at h
    · split at h
      · rename_i hD
        have hne : (c :: q).takeWhile isDigit ≠ [] := by
          rw [List.takeWhile_cons, if_pos hD]; simp
        split at h
        · simp only [Option.some.injEq] at h; subst h; exact ⟨List.takeWhile_prefix _, hne⟩
        · simp at h
      · split at h
        · rename_i t ht
          simp only [Option.some.injEq] at h; subst h
          have h1 := List.find?_some ht
          have h2 := List.mem_of_find?_eq_some ht
          refine ⟨List.isPrefixOf_iff_prefix.1 h1, ?_⟩
          rintro rfl
          exact absurd h2 (by decide)
        · simp at h
theorem cutS_end {n : Nat} {s : Bs} (h : betw s = []) : cutS n s = .ok [] := by
  rw [cutS]; split
  · rfl
  · rename_i h'; rw [h] at h'; simp at h'
theorem cutS_bad {n : Nat} {s q : Bs} {c : UInt8} (h : betw s = c :: q) (hw : wordS (c :: q) = none) : cutS n s = .error (n - (c :: q).length) := by
  rw [cutS]; split
  · rename_i h'; rw [h] at h'; simp at h'
  · rename_i b r h'
    rw [h] at h'
    simp only [List.cons.injEq] at h'
    obtain ⟨rfl, rfl⟩ := h'
    rw [hw]; rfl
theorem cutS_word {n : Nat} {s q : Bs} {c : UInt8} {w : Wd} (h : betw s = c :: q) (hw : wordS (c :: q) = some w) :
    cutS n s = match cutS n ((c :: q).drop w.text.length) with
      | .ok l => .ok ((n - (c :: q).length, w) :: l)
      | .error e => .error e := by
  rw [cutS]; split
  · rename_i h'; rw [h] at h'; simp at h'
  · rename_i b r h'
    rw [h] at h'
    simp only [List.cons.injEq] at h'
    obtain ⟨rfl, rfl⟩ := h'
    rw [hw]
    obtain ⟨_, hne⟩ := wordS_text hw
    have h1 : (c :: q).drop w.text.length = q.drop (w.text.length - 1) := by
      have h0 : w.text.length ≠ 0 := by simpa using hne
      obtain ⟨k, hk⟩ : ∃ k, w.text.length = k + 1 := ⟨w.text.length - 1, by omega⟩
      rw [hk]; rfl
    rw [h1]; rfl
def aheadW (ws : List (Nat × Wd)) : Except Nat (List (Nat × Wd)) → Except Nat (List (Nat × Wd))
  | .ok l => .ok (ws ++ l)
  | .error e => .error e
end Go.Lex

namespace Go.Syn
open Go.Lex
structure St where
  i : Nat
  names : Int
  parts : Int
  err : Nat
  pos : Nat
  deriving DecidableEq
inductive Ex where
  | mk (op name : Bs) (n : Nat) (pos : Nat) (kids : List Ex)
def Ex.zero : Ex := .mk [] [] 0 0 []
structure Va where
  name : Bs
  kind : Nat
  on : Bs
  neg : Bool
  pos : Nat
structure Eqn where
  name : Bs
  e : Ex
  pos : Nat
structure Nd where
  name : Bs
  ins : List Va
  outs : List Va
  locals : List Va
  eqs : List Eqn
  pos : Nat
abbrev Ws := List (Nat × Wd)
abbrev P := St → Ex × St
def wrap (n : Int) : Int := (n + 9223372036854775808) % 18446744073709551616 - 9223372036854775808
section
variable (W : Ws)
def at_ (s : St) : Nat × Wd := W.getD s.i (0, ⟨0, [], 0⟩)
def kind (s : St) : Nat := (at_ W s).2.kind
def text (s : St) : Bs := (at_ W s).2.text
def fail (e : Nat) (s : St) : St := if s.err = 0 then { s with err := e, pos := (at_ W s).1 } else s
def is (s : St) (t : Bs) : Bool := s.err == 0 && ((kind W s == 2 || kind W s == 4) && text W s == t)
def one (s : St) (ts : List Bs) : Bool := ts.any (is W s)
def part (s : St) : St :=
  let s := { s with parts := wrap (s.parts + 1) }
  let s := if 300 < s.parts then fail W 2 s else s
  if s.err = 0 then { s with i := s.i + 1 } else s
def take (s : St) (t : Bs) : Bool × St := if is W s t then (true, { s with i := s.i + 1 }) else (false, s)
def want1 (s : St) (t : Bs) : St := if is W s t then { s with i := s.i + 1 } else fail W 7 s
def want (s : St) (ts : List Bs) : St := ts.foldl (want1 W) s
def name (s : St) : Bs × St :=
  let s1 := if kind W s = 1 then s else fail W 7 s
  if s1.err = 0 then (text W s1, { s1 with i := s1.i + 1 }) else ([], s1)
def deeper (last : Bool) (s : St) : Bool × St :=
  let s := if last then fail W 2 s else s
  (decide (s.err = 0), s)
def rowL (next : P) (ts : List Bs) : Nat → Ex → St → Ex × St
  | 0, e, s => (e, s)
  | k + 1, e, s => if one W s ts then
      let w := at_ W s
      let (e2, s2) := next (part W s)
      rowL next ts k (.mk w.2.text [] 0 w.1 [e, e2]) s2
    else (e, s)
def row (next : P) (ts : List Bs) (s : St) : Ex × St :=
  let (e, s) := next s
  rowL W next ts (W.length + 1) e s
def right (next : P) (t : Bs) (last : Bool) (below : P) (s : St) : Ex × St :=
  let (e, s) := next s
  if is W s t then
    let w := at_ W s
    let (b, s) := deeper W last (part W s)
    if b then
      let (e2, s) := below s
      (.mk t [] 0 w.1 [e, e2], s)
    else (e, s)
  else (e, s)
def cmp (next : P) (s : St) : Ex × St :=
  let (e, s) := next s
  if one W s [[61], [60, 62], [60], [60, 61], [62], [62, 61]] then
    let w := at_ W s
    let (e2, s) := next (part W s)
    (.mk w.2.text [] 0 w.1 [e, e2], s)
  else (e, s)
def whenL : Nat → Ex → St → Ex × St
  | 0, e, s => (e, s)
  | k + 1, e, s => if is W s [119, 104, 101, 110] then
      let w := at_ W s
      let (b, s) := take W (part W s) [110, 111, 116]
      let (nm, s) := name W s
      whenL k (.mk [119, 104, 101, 110] nm (if b then 0 else 1) w.1 [e]) s
    else (e, s)
def when_ (next : P) (s : St) : Ex × St :=
  let (e, s) := next s
  whenL W (W.length + 1) e s
def un (prim : P) (last : Bool) (below : P) (s : St) : Ex × St :=
  if one W s [[110, 111, 116], [45], [112, 114, 101]] then
    let w := at_ W s
    let op := if w.2.text = [45] then [110, 101, 103] else w.2.text
    let (b, s) := deeper W last (part W s)
    if b then
      let (e, s) := below s
      (.mk op [] 0 w.1 [e], s)
    else (.zero, s)
  else prim s
def inner (last : Bool) (below : P) (s : St) : Ex × St :=
  let (b, s) := deeper W last s
  if b then below s else (.zero, s)
def argsL (inn : P) : Nat → List Ex → St → List Ex × St
  | 0, l, s => (l, s)
  | k + 1, l, s => if is W s [44] then
      let (e, s) := inn { s with i := s.i + 1 }
      argsL inn k (l ++ [e]) s
    else (l, s)
def arguments (inn : P) (s : St) : List Ex × St :=
  if is W s [41] then ([], { s with i := s.i + 1 })
  else
    let (e, s) := inn s
    let (l, s) := argsL W inn (W.length + 1) [e] s
    (l, want1 W s [41])
def rest (inn mer : P) (w : Nat × Wd) (s : St) : Ex × St :=
  if w.2.kind = 3 then (.mk [105, 110, 116] [] w.2.n w.1 [], s)
  else if w.2.text = [116, 114, 117, 101] then (.mk [98, 111, 111, 108] [] 1 w.1 [], s)
  else if w.2.text = [102, 97, 108, 115, 101] then (.mk [98, 111, 111, 108] [] 0 w.1 [], s)
  else if w.2.kind = 1 then
    if is W s [40] then
      let (l, s) := arguments W inn { s with i := s.i + 1 }
      (.mk [99, 97, 108, 108] w.2.text 0 w.1 l, s)
    else (.mk [118, 97, 114] w.2.text 0 w.1 [], s)
  else if w.2.text = [105, 102] then
    let (a, s) := inn s
    let (b, s) := inn (want1 W s [116, 104, 101, 110])
    let (c, s) := inn (want1 W s [101, 108, 115, 101])
    (.mk w.2.text [] 0 w.1 [a, b, c], s)
  else
    let (nm, s) := name W s
    let (a, s) := mer s
    let (b, s) := mer s
    (.mk w.2.text nm 0 w.1 [a, b], s)
def prim (inn mer : P) (s : St) : Ex × St :=
  let w := at_ W s
  if s.err ≠ 0 then (.zero, s)
  else if is W s [40] then
    let (e, s) := inn { s with i := s.i + 1 }
    (e, want1 W s [41])
  else if w.2.kind = 3 ∨ w.2.kind = 1 ∨ one W s [[116, 114, 117, 101], [102, 97, 108, 115, 101], [105, 102], [109, 101, 114, 103, 101]] = true then
    rest W inn mer w (part W s)
  else (.zero, fail W 7 s)
structure Lv where
  expr : P
  fby : P
  un : P
  prim : P
def lvOf (last : Bool) (b : Lv) : Lv :=
  let prim := prim W (inner W last b.expr) (inner W last b.prim)
  let un := un W prim last b.un
  let whn := when_ W un
  let fby := right W whn [102, 98, 121] last b.fby
  let mul := row W fby [[42], [47], [109, 111, 100]]
  let add := row W mul [[43], [45]]
  let cmp := cmp W add
  let and := row W cmp [[97, 110, 100]]
  let or := row W and [[111, 114], [120, 111, 114]]
  let expr := right W or [45, 62] last b.expr
  ⟨expr, fby, un, prim⟩
def lv : Nat → Lv
  | 0 => lvOf W true ⟨fun s => (.zero, s), fun s => (.zero, s), fun s => (.zero, s), fun s => (.zero, s)⟩
  | d + 1 => lvOf W false (lv d)
def declared (s : St) : Va × St :=
  let w := at_ W s
  let s := if w.2.kind = 1 then
      let s := { s with names := wrap (s.names + 1) }
      if 64 < s.names then fail W 2 s else s
    else s
  let (nm, s) := name W s
  (⟨nm, 0, [], false, w.1⟩, s)
def declL : Nat → List Va → St → List Va × St
  | 0, l, s => (l, s)
  | k + 1, l, s => if is W s [44] then
      let (v, s) := declared W { s with i := s.i + 1 }
      declL k (l ++ [v]) s
    else (l, s)
def decl (s : St) : List Va × St :=
  let (v, s) := declared W s
  let (l, s) := declL W (W.length + 1) [v] s
  let s := want1 W s [58]
  if is W s [98, 111, 111, 108] then (l.map fun v => { v with kind := 1 }, { s with i := s.i + 1 })
  else if is W s [105, 110, 116] then (l.map fun v => { v with kind := 2 }, { s with i := s.i + 1 })
  else (l.map fun v => { v with kind := 0 }, fail W 7 s)
def declsL : Nat → List Va → St → List Va × St
  | 0, l, s => (l, s)
  | k + 1, l, s => if is W s [59] then
      let (m, s) := decl W { s with i := s.i + 1 }
      declsL k (l ++ m) s
    else (l, s)
def decls (s : St) : List Va × St :=
  if kind W s ≠ 1 then ([], s) else
    let (l, s) := decl W s
    declsL W (W.length + 1) l s
def local_ (s : St) : List Va × St :=
  let (l, s) := decl W s
  if is W s [119, 104, 101, 110] then
    let (b, s) := take W { s with i := s.i + 1 } [110, 111, 116]
    let (nm, s) := name W s
    (l.map fun v => { v with on := nm, neg := b }, s)
  else (l, s)
def localsL : Nat → List Va → St → List Va × St
  | 0, l, s => (l, s)
  | k + 1, l, s => if s.err = 0 ∧ kind W s = 1 then
      let (m, s) := local_ W s
      localsL k (l ++ m) (want1 W s [59])
    else (l, s)
def locals_ (s : St) : List Va × St :=
  let (l, s) := if kind W s = 1 then local_ W s else ([], s)
  localsL W (W.length + 1) l (want1 W s [59])
def eqsL : Nat → List Eqn → St → List Eqn × St
  | 0, l, s => (l, s)
  | k + 1, l, s => if s.err = 0 ∧ kind W s = 1 then
      let w := at_ W s
      let (nm, s) := name W s
      let s := { want1 W s [61] with parts := 0 }
      let (e, s) := if s.err = 0 then (lv W 29).expr s else (.zero, s)
      eqsL k (l ++ [⟨nm, e, w.1⟩]) (want1 W s [59])
    else (l, s)
def node (s : St) : Nd × St :=
  let w := at_ W s
  let s := want1 W { s with names := 0 } [110, 111, 100, 101]
  let (nm, s) := name W s
  let (ins, s) := decls W (want1 W s [40])
  let (outs, s) := decls W (want W s [[41], [114, 101, 116, 117, 114, 110, 115], [40]])
  let s := want W s [[41], [59]]
  let (b, s) := take W s [118, 97, 114]
  let (locs, s) := if b then locals_ W s else ([], s)
  let (eqs, s) := eqsL W (W.length + 1) [] (want1 W s [108, 101, 116])
  let (_, s) := take W (want1 W s [116, 101, 108]) [59]
  (⟨nm, ins, outs, locs, eqs, w.1⟩, s)
def nodesL : Nat → List Nd → St → List Nd × St
  | 0, l, s => (l, s)
  | k + 1, l, s => if s.err = 0 ∧ (l = [] ∨ kind W s ≠ 0) then
      if l.length = 32 then (l, fail W 2 s)
      else
        let (n, s) := node W s
        nodesL k (l ++ [n]) s
    else (l, s)
end
def parse (t : Bs) : Except (Nat × Nat) (List Nd) :=
  if 16384 < t.length then .error (2, t.length)
  else match cutS t.length t with
    | .error e => .error (7, e)
    | .ok l =>
      let W := l ++ [(t.length, ⟨0, [], 0⟩)]
      let (ns, s) := nodesL W 33 [] ⟨0, 0, 0, 0, 0⟩
      if s.err = 0 then .ok ns else .error (s.err, s.pos)
end Go.Syn

namespace Go.Abs
open Go
mutual
inductive ResV (get : Nat → Option AObj) (n : Nat) : AV → AV → Prop
  | old {v : AV} (h : v.idLt n = true) : ResV get n v v
  | ptr {i o : Nat} {cs r : List AV} (hn : n ≤ i) (hi : get i = some (.cells cs)) (h : ResL get n (cs.drop o) r) : ResV get n (.ptr i o) (.vptr r)
  | sl {i o z len cap : Nat} {opn : Bool} {cs r : List AV} (hn : n ≤ i) (hi : get i = some (.cells cs)) (h : ResL get n ((cs.drop o).take (len * z)) r) : ResV get n (.sl i o z len cap opn) (.vsl r len)
  | vptr {cs r : List AV} (h : ResL get n cs r) : ResV get n (.vptr cs) (.vptr r)
  | vsl {cs r : List AV} {len : Nat} (h : ResL get n cs r) : ResV get n (.vsl cs len) (.vsl r len)
  | agg {cs r : List AV} (h : ResL get n cs r) : ResV get n (.agg cs) (.agg r)
  | tuple {cs r : List AV} (h : ResL get n cs r) : ResV get n (.tuple cs) (.tuple r)
inductive ResL (get : Nat → Option AObj) (n : Nat) : List AV → List AV → Prop
  | nil : ResL get n [] []
  | cons {a b : AV} {as_ bs : List AV} (h : ResV get n a b) (t : ResL get n as_ bs) : ResL get n (a :: as_) (b :: bs)
end
mutual
theorem ResV.mono {g g' : Nat → Option AObj} {n : Nat} (hg : ∀ i cs, n ≤ i → g i = some (.cells cs) → g' i = some (.cells cs)) : ∀ {v r : AV}, ResV g n v r → ResV g' n v r
  | _, _, .old h => .old h
  | _, _, .ptr hn hi h => .ptr hn (hg _ _ hn hi) (ResL.mono hg h)
  | _, _, .sl hn hi h => .sl hn (hg _ _ hn hi) (ResL.mono hg h)
  | _, _, .vptr h => .vptr (ResL.mono hg h)
  | _, _, .vsl h => .vsl (ResL.mono hg h)
  | _, _, .agg h => .agg (ResL.mono hg h)
  | _, _, .tuple h => .tuple (ResL.mono hg h)
theorem ResL.mono {g g' : Nat → Option AObj} {n : Nat} (hg : ∀ i cs, n ≤ i → g i = some (.cells cs) → g' i = some (.cells cs)) : ∀ {v r : List AV}, ResL g n v r → ResL g' n v r
  | _, _, .nil => .nil
  | _, _, .cons h t => .cons (ResV.mono hg h) (ResL.mono hg t)
end
theorem ResL.old {g : Nat → Option AObj} {n : Nat} : ∀ {l : List AV}, AV.allLt n l = true → ResL g n l l
  | [], _ => .nil
  | a :: l, h => by
    simp only [AV.allLt, Bool.and_eq_true] at h
    exact .cons (.old h.1) (ResL.old h.2)
theorem ResL.append {g : Nat → Option AObj} {n : Nat} : ∀ {a b c d : List AV}, ResL g n a b → ResL g n c d → ResL g n (a ++ c) (b ++ d)
  | _, _, _, _, .nil, h => h
  | _, _, _, _, .cons h t, k => .cons h (ResL.append t k)
mutual
theorem ResV.down {g : Nat → Option AObj} {n m : Nat} (hm : m ≤ n) : ∀ {v r : AV}, ResV g n v r → r.idLt m = true → ResV g m v r
  | _, _, .old _, hr => .old hr
  | _, _, .ptr hn hi h, hr => .ptr (Nat.le_trans hm hn) hi (ResL.down hm h (by simpa [AV.idLt] using hr))
  | _, _, .sl hn hi h, hr => .sl (Nat.le_trans hm hn) hi (ResL.down hm h (by simpa [AV.idLt] using hr))
  | _, _, .vptr h, hr => .vptr (ResL.down hm h (by simpa [AV.idLt] using hr))
  | _, _, .vsl h, hr => .vsl (ResL.down hm h (by simpa [AV.idLt] using hr))
  | _, _, .agg h, hr => .agg (ResL.down hm h (by simpa [AV.idLt] using hr))
  | _, _, .tuple h, hr => .tuple (ResL.down hm h (by simpa [AV.idLt] using hr))
theorem ResL.down {g : Nat → Option AObj} {n m : Nat} (hm : m ≤ n) : ∀ {v r : List AV}, ResL g n v r → AV.allLt m r = true → ResL g m v r
  | _, _, .nil, _ => .nil
  | _, _, .cons h t, hr => by
    simp only [AV.allLt, Bool.and_eq_true] at hr
    exact .cons (ResV.down hm h hr.1) (ResL.down hm t hr.2)
end
noncomputable def Env.from_ (E : Env) (H : AHeap) (w : World) (n : Nat) : Env := { φ := fun i => if i < n then E.φ i else none, F := E.F, os := E.os, out := E.out, K := fun B => match E.K B with
  | some o => some o
  | none => match E.F B with
    | some _ => none
    | none => by
      classical
      exact if (∃ i x p, i < n ∧ H.get i = some x ∧ E.φ i = some p ∧ p.b = B) then none else w.heap[B]? }
section
variable {E : Env} {H : AHeap} {w : World} {n : Nat}
theorem from_K {B : Nat} {o : Obj} (h : E.K B = some o) : (E.from_ H w n).K B = some o := by
  show (match E.K B with | some o => some o | none => _) = some o
  rw [h]
theorem from_live (hR : Rel E H w) {i : Nat} {x : AObj} {p : Place} (hi : i < n) (hx : H.get i = some x) (hp : E.φ i = some p) : (E.from_ H w n).K p.b = none := by
  obtain ⟨q, ob, h1, h2, h3, h4, h5⟩ := hR.live i x hx
  rw [hp] at h1; cases h1
  show (match E.K p.b with | some o => some o | none => _) = none
  rw [h2]
  show (match E.F p.b with | some _ => none | none => _) = none
  rw [h3]
  exact if_pos ⟨i, x, p, hi, hx, hp, rfl⟩
theorem from_new (hR : Rel E H w) {i : Nat} {x : AObj} {p : Place} (hi : n ≤ i) (hx : H.get i = some x) (hp : E.φ i = some p) : (E.from_ H w n).K p.b = w.heap[p.b]? := by
  obtain ⟨q, ob, h1, h2, h3, h4, h5⟩ := hR.live i x hx
  rw [hp] at h1; cases h1
  show (match E.K p.b with | some o => some o | none => _) = w.heap[p.b]?
  rw [h2]
  show (match E.F p.b with | some _ => none | none => _) = w.heap[p.b]?
  rw [h3]
  refine if_neg ?_
  rintro ⟨j, y, q, hj, hy, hq, e⟩
  have := hR.inj j i y x q p hy hx hq hp e
  omega
theorem from_knows : Knows (E.cut n) (E.from_ H w n) := ⟨fun _ _ h => h, fun _ _ h => from_K h⟩
theorem from_ink (hR : Rel E H w) {i : Nat} {cs : List AV} {p : Place} (hn : n ≤ i) (hi : H.get i = some (.cells cs)) (hp : E.φ i = some p) (o : Nat) :
    ∃ vs, InK (E.from_ H w n) p.b (p.s + o) vs ∧ VRels E (cs.drop o) vs := by
  have hK := from_new (n := n) hR hn hi hp
  obtain ⟨q, ob, h1, h2, h3, h4, c, e, fz, vs, rfl, _, h6, h7, _⟩ := hR.live i _ hi
  rw [hp] at h1; cases h1
  refine ⟨vs.drop o, .inr ⟨c, e, fz, hK.trans h4, ?_⟩, h6.drop o⟩
  obtain ⟨t, ht⟩ := h7
  rw [← List.drop_drop, ← ht]
  by_cases ho : o ≤ vs.length
  · rw [List.drop_append_of_le_length ho]; exact List.prefix_append _ _
  · rw [List.drop_of_length_le (by omega)]; exact List.nil_prefix
theorem InK.from_ {B o : Nat} {vs : List Value} (h : InK E B o vs) : InK (E.from_ H w n) B o vs := by
  rcases h with h | ⟨c, e, f, h1, h2⟩
  · exact .inl h
  · exact .inr ⟨c, e, f, from_K h1, h2⟩
mutual
theorem VRel.resV (hR : Rel E H w) : ∀ {v r : AV} {u : Value}, ResV H.get n v r → VRel E v u → VRel (E.from_ H w n) r u
  | _, _, _, .old h, hv => (VRel.cut hv h).mono from_knows
  | _, _, _, .ptr hn hi h, hv => by
    cases hv with
    | ptr hp =>
      obtain ⟨vs, h1, h2⟩ := from_ink hR hn hi hp _
      exact .vptr h1 (VRels.resL hR h h2)
  | _, _, _, .sl (len := len) (z := z) hn hi h, hv => by
    cases hv with
    | sl hp hl hc ho hm =>
      obtain ⟨vs, h1, h2⟩ := from_ink hR hn hi hp _
      refine .vsl (vs := vs.take (len * z)) ?_ (VRels.resL hR h (h2.take _)) (Nat.le_trans hl hc)
      rcases h1 with h1 | ⟨c, e, f, g1, g2⟩
      · left; rw [h1]; simp
      · exact .inr ⟨c, e, f, g1, (List.take_prefix _ _).trans g2⟩
  | _, _, _, .vptr h, hv => by
    cases hv with
    | vptr hK hv => exact .vptr hK.from_ (VRels.resL hR h hv)
  | _, _, _, .vsl h, hv => by
    cases hv with
    | vsl hK hv hl => exact .vsl hK.from_ (VRels.resL hR h hv) hl
    | vsl0 => cases h; exact .vsl0
  | _, _, _, .agg h, hv => by
    cases hv with
    | agg hv => exact .agg (VRels.resL hR h hv)
  | _, _, _, .tuple h, hv => by
    cases hv with
    | tuple hv => exact .tuple (VRels.resL hR h hv)
theorem VRels.resL (hR : Rel E H w) : ∀ {v r : List AV} {u : List Value}, ResL H.get n v r → VRels E v u → VRels (E.from_ H w n) r u
  | _, _, _, .nil, hv => by cases hv; exact .nil
  | _, _, _, .cons h t, hv => by
    cases hv with
    | cons hv ht => exact .cons (VRel.resV hR h hv) (VRels.resL hR t ht)
end
end
theorem Ghost.deep {n : Nat} {v r : AV} {H H2 : AHeap} (hv : ResV H.get n v r) (hn : H2.next = n) (hs : ∀ i x, H2.get i = some x → H.get i = some x ∧ i < n ∧ AV.allLt n x.cellsList = true) : Ghost n v H r H2 := fun E0 E w u hd hx hu hR => by
  subst hn
  have hgc := hR.gc hs
  refine ⟨E.from_ H w H2.next, ⟨fun i p hp => ?_, fun B o hB => from_K (hx.K B o hB), hx.F, hx.os, hx.out⟩, VRel.resV hR hv hu, ?_⟩
  · show (if i < H2.next then E.φ i else none) = some p
    rw [if_pos (hd i p hp)]; exact hx.φ i p hp
  · refine ⟨hR.os, hR.out, fun B o hB => ?_, hR.F, fun B => ?_, hgc.dom, fun i x hi => ?_, hgc.inj⟩
    · have hB : (match E.K B with | some o => some o | none => _) = some o := hB
      split at hB
      · rename_i o' ho'
        simp only [Option.some.injEq] at hB; subst hB
        exact hR.K B _ ho'
      · split at hB
        · simp at hB
        · split at hB
          · simp at hB
          · exact hB
    · cases hF : E.F B with
      | none => exact .inr hF
      | some o =>
        left
        have hK : E.K B = none := by
          rcases hR.KF B with e | e
          · exact e
          · rw [hF] at e; simp at e
        show (match E.K B with | some o => some o | none => _) = none
        rw [hK]
        show (match E.F B with | some _ => none | none => _) = none
        rw [hF]
    · obtain ⟨p, ob, h1, h2, h3, h4, h5⟩ := hgc.live i x hi
      obtain ⟨g1, g2, _⟩ := hs i x hi
      have hp : E.φ i = some p := by
        have h1 : (if i < H2.next then E.φ i else none) = some p := h1
        rw [if_pos g2] at h1; exact h1
      exact ⟨p, ob, h1, from_live hR g2 g1 hp, h3, h4, h5.mono from_knows⟩
theorem Does.deep {P : Program} {G : Nat → Option AV} {f : FuncId} {args : List AV} {H : AHeap} {R R' : AV → AHeap → Prop} (h : Does P G f args H R)
    (hg : H.Wf → AV.allLt H.next args = true → ∀ r H1, R r H1 → ∃ r' H2, ResV H1.get H.next r r' ∧ H2.next = H.next ∧ (∀ i x, H2.get i = some x → H1.get i = some x ∧ i < H.next ∧ AV.allLt H.next x.cellsList = true) ∧ R' r' H2) : Does P G f args H R' :=
  Does.wfs fun hw ha => h.ghost fun r H1 hr => by
    obtain ⟨r', H2, h1, h2, h3, h4⟩ := hg hw ha r H1 hr
    exact ⟨r', H2, Ghost.deep h1 h2 h3, h4⟩
end Go.Abs

namespace Go.Abs
open Go
def ASr (X : Ctx) (ops : Array Oper) (K : List Nat → (Nat → AV) → Prop) : List Oper → List Nat → (Nat → AV) → AHeap → Prop
  | [], cs, T, _ => K cs T
  | o :: r, cs, T, H =>
    @condA (awanted ops T o)
      ⟨fun _ => @altO _ (acallee (aval X.G T) o) ⟨fun fa => ∃ x, Does X.P X.G fa.1 fa.2 H (fun y h => y = x ∧ h = H) ∧ ASr X ops K r (3 :: cs) (tput T o.dst x) H⟩
        ⟨@altO _ (apure X.P (aval X.G T) o) ⟨fun v => ASr X ops K r (0 :: cs) (tput T o.dst v) H⟩
          ⟨@altO _ (aread X.P (aval X.G T) H.get o) ⟨fun v => ASr X ops K r (1 :: cs) (tput T o.dst v) H⟩ ⟨False⟩⟩⟩⟩
      ⟨fun _ => ASr X ops K r (0 :: cs) (tput T o.dst undefA) H⟩
def ASf [X : Hid Ctx] [ops : Hid (Array Oper)] [K : Hid (List Nat → (Nat → AV) → Prop)] [l : Hid (List Oper)] [cs : Hid (List Nat)] [T : Hid (Nat → AV)] (H : AHeap) : Prop := ASr X.v ops.v K.v l.v cs.v T.v H
def ASs [X : Hid Ctx] [ops : Hid (Array Oper)] [K : Hid (List Nat → (Nat → AV) → Prop)] [l : Hid (List Oper)] [cs : Hid (List Nat)] [T : Hid (Nat → AV)] (H : AHeap) : Prop := ASr X.v ops.v K.v l.v cs.v T.v H
section
variable {X : Ctx} {T : Nat → AV} {H : AHeap} {ops : Array Oper} {K : List Nat → (Nat → AV) → Prop} {cs : List Nat}
@[simp] theorem asf_list {l : List Oper} : @ASf ⟨X⟩ ⟨ops⟩ ⟨K⟩ ⟨l.toArray.toList⟩ ⟨cs⟩ ⟨T⟩ H = @ASf ⟨X⟩ ⟨ops⟩ ⟨K⟩ ⟨l⟩ ⟨cs⟩ ⟨T⟩ H := Eq.trans rfl rfl
@[simp] theorem asf_nil : @ASf ⟨X⟩ ⟨ops⟩ ⟨K⟩ ⟨[]⟩ ⟨cs⟩ ⟨T⟩ H = K cs T := Eq.trans rfl rfl
@[simp] theorem asf_cons {o : Oper} {r : List Oper} : @ASf ⟨X⟩ ⟨ops⟩ ⟨K⟩ ⟨o :: r⟩ ⟨cs⟩ ⟨T⟩ H =
    @condA (awanted ops T o)
      ⟨fun _ => @altO _ (acallee (aval X.G T) o) ⟨fun fa => ∃ x, Does X.P X.G fa.1 fa.2 H (fun y h => y = x ∧ h = H) ∧ @ASs ⟨X⟩ ⟨ops⟩ ⟨K⟩ ⟨r⟩ ⟨3 :: cs⟩ ⟨tput T o.dst x⟩ H⟩
        ⟨@altO _ (apure X.P (aval X.G T) o) ⟨fun v => @ASf ⟨X⟩ ⟨ops⟩ ⟨K⟩ ⟨r⟩ ⟨0 :: cs⟩ ⟨tput T o.dst v⟩ H⟩
          ⟨@altO _ (aread X.P (aval X.G T) H.get o) ⟨fun v => @ASf ⟨X⟩ ⟨ops⟩ ⟨K⟩ ⟨r⟩ ⟨1 :: cs⟩ ⟨tput T o.dst v⟩ H⟩ ⟨False⟩⟩⟩⟩
      ⟨fun _ => @ASf ⟨X⟩ ⟨ops⟩ ⟨K⟩ ⟨r⟩ ⟨0 :: cs⟩ ⟨tput T o.dst undefA⟩ H⟩ := Eq.trans rfl rfl
@[simp] theorem asf_take_cons {n : Nat} {o : Oper} {r : List Oper} : @ASf ⟨X⟩ ⟨ops⟩ ⟨K⟩ ⟨List.take (n + 1) (o :: r)⟩ ⟨cs⟩ ⟨T⟩ H =
    @condA (awanted ops T o)
      ⟨fun _ => @altO _ (acallee (aval X.G T) o) ⟨fun fa => ∃ x, Does X.P X.G fa.1 fa.2 H (fun y h => y = x ∧ h = H) ∧ @ASs ⟨X⟩ ⟨ops⟩ ⟨K⟩ ⟨List.take n r⟩ ⟨3 :: cs⟩ ⟨tput T o.dst x⟩ H⟩
        ⟨@altO _ (apure X.P (aval X.G T) o) ⟨fun v => @ASf ⟨X⟩ ⟨ops⟩ ⟨K⟩ ⟨List.take n r⟩ ⟨0 :: cs⟩ ⟨tput T o.dst v⟩ H⟩
          ⟨@altO _ (aread X.P (aval X.G T) H.get o) ⟨fun v => @ASf ⟨X⟩ ⟨ops⟩ ⟨K⟩ ⟨List.take n r⟩ ⟨1 :: cs⟩ ⟨tput T o.dst v⟩ H⟩ ⟨False⟩⟩⟩⟩
      ⟨fun _ => @ASf ⟨X⟩ ⟨ops⟩ ⟨K⟩ ⟨List.take n r⟩ ⟨0 :: cs⟩ ⟨tput T o.dst undefA⟩ H⟩ := Eq.trans rfl rfl
@[simp] theorem asf_take_zero {l : List Oper} : @ASf ⟨X⟩ ⟨ops⟩ ⟨K⟩ ⟨List.take 0 l⟩ ⟨cs⟩ ⟨T⟩ H = K cs T := Eq.trans rfl rfl
@[simp] theorem asf_drop_cons {n : Nat} {o : Oper} {r : List Oper} : @ASf ⟨X⟩ ⟨ops⟩ ⟨K⟩ ⟨List.drop (n + 1) (o :: r)⟩ ⟨cs⟩ ⟨T⟩ H = @ASf ⟨X⟩ ⟨ops⟩ ⟨K⟩ ⟨List.drop n r⟩ ⟨cs⟩ ⟨T⟩ H := Eq.trans rfl rfl
@[simp] theorem asf_drop_zero {l : List Oper} : @ASf ⟨X⟩ ⟨ops⟩ ⟨K⟩ ⟨List.drop 0 l⟩ ⟨cs⟩ ⟨T⟩ H = @ASf ⟨X⟩ ⟨ops⟩ ⟨K⟩ ⟨l⟩ ⟨cs⟩ ⟨T⟩ H := Eq.trans rfl rfl
end
end Go.Abs

namespace Go.Lex
def betwF : Nat → Bs → Bs
  | 0, s => s
  | k + 1, s => match s.dropWhile isBlank with
    | a :: b :: q => if a = 45 ∧ b = 45 then betwF k (q.dropWhile fun b => b != 10) else a :: b :: q
    | r => r
theorem betwF_eq : ∀ (k : Nat) (s : Bs), s.length ≤ k → betwF k s = betw s
  | 0, s, h => by
    have : s = [] := List.eq_nil_of_length_eq_zero (by omega)
    subst this
    rw [betw_nil']; rfl
  | k + 1, s, h => by
    have hl := dropWhile_le isBlank s
    rw [betwF]
    split
    · rename_i a b q hq
      split
      · rename_i hab
        obtain ⟨rfl, rfl⟩ := hab
        rw [betw_line' s q hq]
        refine betwF_eq k _ ?_
        have h2 := dropWhile_le (fun b : UInt8 => b != 10) q
        rw [hq] at hl
        simp only [List.length_cons] at hl
        omega
      · rename_i hab
        rw [betw_word' s (fun q' h' => hab (by rw [hq] at h'; simp only [List.cons.injEq] at h'; exact ⟨h'.1, h'.2.1⟩)), hq]
    · rename_i hne
      rw [betw_word' s fun q h' => hne _ _ _ h']
theorem betw_le (s : Bs) : (betw s).length ≤ s.length := by
  rw [← betwF_eq s.length s (Nat.le_refl _)]
  have key : ∀ (k : Nat) (s : Bs), (betwF k s).length ≤ s.length := by
    intro k
    induction k with
    | zero => intro s; exact Nat.le_refl _
    | succ k ih =>
      intro s
      have hl := dropWhile_le isBlank s
      rw [betwF]
      split
      · rename_i a b q hq
        rw [hq] at hl
        split
        · have h1 := ih (q.dropWhile fun b => b != 10)
          have h2 := dropWhile_le (fun b : UInt8 => b != 10) q
          simp only [List.length_cons] at hl
          omega
        · exact hl
      · exact hl
  exact key _ _
end Go.Lex

namespace Go.Lex
def Wok (w : Wd) : Prop := ∃ s, wordS s = some w
theorem cut_words {n : Nat} : ∀ (k : Nat) (s : Bs), s.length < k → ∀ l, cutS n s = .ok l → (∀ w ∈ l, Wok w.2) ∧ l.length + (l.map fun w => w.2.text.length).sum ≤ 2 * s.length ∧ (l.map fun w => w.2.text.length).sum ≤ s.length
  | 0, s, h, _, _ => by omega
  | k + 1, s, hk, l, h => by
    cases h1 : betw s with
    | nil => rw [cutS_end h1] at h; simp only [Except.ok.injEq] at h; subst h; simp
    | cons c q =>
      cases hw : wordS (c :: q) with
      | none => rw [cutS_bad h1 hw] at h; simp at h
      | some w =>
        rw [cutS_word h1 hw] at h
        have hle : (c :: q).length ≤ s.length := by rw [← h1]; exact betw_le s
        obtain ⟨⟨r, hr⟩, hne⟩ := wordS_text hw
        have h0 : w.text.length ≠ 0 := by simpa using hne
        have hlen : w.text.length + r.length = (c :: q).length := by rw [← hr]; simp
        have hd : (c :: q).drop w.text.length = r := by rw [← hr]; exact List.drop_left
        rw [hd] at h
        split at h
        · rename_i l' hl'
          simp only [Except.ok.injEq] at h; subst h
          obtain ⟨a1, a2, a3⟩ := cut_words k r (by omega) l' hl'
          refine ⟨?_, ?_, ?_⟩
          · intro x hx
            simp only [List.mem_cons] at hx
            rcases hx with rfl | hx
            · exact ⟨_, hw⟩
            · exact a1 x hx
          · simp only [List.length_cons, List.map_cons, List.sum_cons]; simp only [List.length_cons] at hlen hle; omega
          · simp only [List.map_cons, List.sum_cons]; simp only [List.length_cons] at hlen hle; omega
        · simp at h
end Go.Lex

namespace Go.Abs
open Go Go.ChangeShapes
def consec (P : Program) : List Field → Nat → Option Nat
  | [], o => some o
  | f :: r, o => if f.offset = o then consec P r (o + P.cellsOf f.type) else none
def plainTy (P : Program) : Nat → TypeId → Bool
  | 0, _ => false
  | n + 1, t => match P.underlying t with
    | some .bool => P.cellsOf t == 1
    | some (.int _) => P.cellsOf t == 1
    | some .string => P.cellsOf t == 1
    | some (.slice e) => P.cellsOf t == 1 && decide (0 < P.cellsOf e) && plainTy P n e
    | some (.struct fs) => (consec P fs.toList 0 == some (P.cellsOf t)) && fs.toList.all fun f => plainTy P n f.type
    | _ => false
def Shp (P : Program) : Nat → TypeId → List AV → Prop
  | 0, _, _ => False
  | n + 1, t, as_ => match P.underlying t with
    | some .bool => ∃ b, as_ = [.bool b]
    | some (.int k) => ∃ m, as_ = [.int k m] ∧ (Lit.int k m).wf = true
    | some .string => ∃ s, as_ = [.str s] ∧ s.length ≤ maxLen
    | some (.slice e) => as_ = [.nilsl] ∨ ∃ es : List (List AV), as_ = [.vsl es.flatten es.length] ∧ es.length ≤ maxLen ∧ ∀ x ∈ es, Shp P n e x
    | some (.struct fs) => ∃ xs : List (List AV), as_ = xs.flatten ∧ xs.length = fs.toList.length ∧ ∀ (i : Nat) (f : Field) (x : List AV), fs.toList[i]? = some f → xs[i]? = some x → Shp P n f.type x
    | _ => False
theorem Shp.length {P : Program} : ∀ {n : Nat} {t : TypeId} {as_ : List AV}, plainTy P n t = true → Shp P n t as_ → as_.length = P.cellsOf t
  | 0, _, _, h, _ => by simp [plainTy] at h
  | n + 1, t, as_, h, hs => by
    unfold plainTy at h
    unfold Shp at hs
    split at h
    · rename_i hu; rw [hu] at hs; obtain ⟨b, rfl⟩ := hs; simp at h; simp [h]
    · rename_i hu; rw [hu] at hs; obtain ⟨m, rfl, _⟩ := hs; simp at h; simp [h]
    · rename_i hu; rw [hu] at hs; obtain ⟨m, rfl, _⟩ := hs; simp at h; simp [h]
    · rename_i hu; rw [hu] at hs
      simp only [Bool.and_eq_true, beq_iff_eq] at h
      rcases hs with rfl | ⟨es, rfl, _⟩ <;> simp [h.1.1]
    · rename_i fs hu
      rw [hu] at hs
      simp only [Bool.and_eq_true, beq_iff_eq] at h
      obtain ⟨xs, rfl, hl, hx⟩ := hs
      have key : ∀ (l : List Field) (xs : List (List AV)) (o e : Nat), xs.length = l.length → (∀ (i : Nat) (f : Field) (x : List AV), l[i]? = some f → xs[i]? = some x → x.length = P.cellsOf f.type) → consec P l o = some e → o + xs.flatten.length = e := by
        intro l
        induction l with
        | nil => intro xs o e hxl _ hc; simp at hxl; subst hxl; simpa [consec] using hc
        | cons f l ih =>
          intro xs o e hxl hx hc
          cases xs with
          | nil => simp at hxl
          | cons x xs =>
            simp only [consec] at hc
            split at hc <;> try (simp at hc; done)
            have := ih xs _ _ (by simpa using hxl) (fun i f x hf hx' => hx (i + 1) f x (by simpa using hf) (by simpa using hx')) hc
            have h0 := hx 0 f x rfl rfl
            simp only [List.flatten_cons, List.length_append]
            omega
      have := key fs.toList xs 0 _ hl (fun i f x hf hx' => by
        have h2 := h.2
        rw [List.all_eq_true] at h2
        exact Shp.length (h2 f (List.mem_of_getElem? hf)) (hx i f x hf hx')) h.1
      omega
    · simp at h
theorem VRels.blocks {E : Env} {z : Nat} : ∀ (es : List (List AV)) (L : List Value), (∀ (i : Nat) (x : List AV), es[i]? = some x → VRels E x ((L.drop (i * z)).take z)) → VRels E es.flatten (L.take (es.length * z))
  | [], L, _ => by simpa using VRels.nil
  | x :: es, L, h => by
    have h0 := h 0 x rfl
    simp only [Nat.zero_mul, List.drop_zero] at h0
    have ih := VRels.blocks (z := z) es (L.drop z) fun i y hy => by
      have := h (i + 1) y (by simpa using hy)
      rw [List.drop_drop]
      have e : z + i * z = (i + 1) * z := by rw [Nat.add_mul]; omega
      rw [e]; exact this
    have e : L.take ((x :: es).length * z) = L.take z ++ (L.drop z).take (es.length * z) := by
      rw [← List.take_add]
      congr 1
      simp only [List.length_cons, Nat.add_mul]; omega
    rw [e, List.flatten_cons]
    exact h0.append ih
theorem consec_le {P : Program} : ∀ {l : List Field} {o e : Nat}, consec P l o = some e → o ≤ e
  | [], o, e, h => by simp [consec] at h; omega
  | f :: l, o, e, h => by
    simp only [consec] at h
    split at h <;> try (simp at h; done)
    have := consec_le h
    omega
theorem VRels.fields {P : Program} {E : Env} {cs : List Value} : ∀ (l : List Field) (xs : List (List AV)) (o e : Nat), consec P l o = some e → xs.length = l.length → (∀ (i : Nat) (f : Field) (x : List AV), l[i]? = some f → xs[i]? = some x → VRels E x ((cs.drop f.offset).take (P.cellsOf f.type))) → VRels E xs.flatten ((cs.drop o).take (e - o))
  | [], xs, o, e, hc, hl, _ => by
    simp at hl; subst hl
    simp [consec] at hc; subst hc
    simpa using VRels.nil
  | f :: l, [], o, e, _, hl, _ => by simp at hl
  | f :: l, x :: xs, o, e, hc, hl, h => by
    simp only [consec] at hc
    split at hc <;> try (simp at hc; done)
    rename_i ho
    have hle := consec_le hc
    have h0 := h 0 f x rfl rfl
    rw [ho] at h0
    have ih := VRels.fields l xs _ e hc (by simpa using hl) fun i f x hf hx => h (i + 1) f x (by simpa using hf) (by simpa using hx)
    have e1 : (cs.drop o).take (e - o) = (cs.drop o).take (P.cellsOf f.type) ++ (cs.drop (o + P.cellsOf f.type)).take (e - (o + P.cellsOf f.type)) := by
      rw [← List.drop_drop, ← List.take_add]
      congr 1; omega
    rw [e1, List.flatten_cons]
    exact h0.append ih
section
variable {H : Type} {enc : TypeId × Value → H} {P : Program} {w : World} {base : Nat} {held : Bool}
end
end Go.Abs

namespace Go.Abs
open Go Go.ChangeShapes
def dataAll (f : DataW Unit → Option (List AV)) : List (DataW Unit) → Option (List (List AV))
  | [] => some []
  | d :: r => match f d, dataAll f r with
    | some x, some xs => some (x :: xs)
    | _, _ => none
def dataFields (f : TypeId → DataW Unit → Option (List AV)) : List Field → List (DataW Unit) → Option (List (List AV))
  | [], [] => some []
  | fd :: fs, d :: r => match f fd.type d, dataFields f fs r with
    | some x, some xs => some (x :: xs)
    | _, _ => none
  | _, _ => none
def dataAV (P : Program) (N : String → Option TypeId) : Nat → Bool → TypeId → DataW Unit → Option (List AV)
  | 0, _, _, _ => none
  | n + 1, top, t, d => match P.underlying t, d with
    | some .bool, .lit (.bool b) => some [.bool b]
    | some (.int k), .lit (.int k' m) => if k' = k then some [.int k m] else none
    | some .string, .lit (.string l) => some [.str l]
    | some (.pointer _), .nil => some [.nilptr]
    | some (.pointer e), .ptr d => if 0 < P.cellsOf e then (dataAV P N n false e d).map fun as_ => [.vptr as_] else none
    | some (.array len e), .agg ds => if ds.length = len ∧ P.cellsOf t = len * P.cellsOf e then (dataAll (dataAV P N n top e) ds).map List.flatten else none
    | some (.struct fs), .agg ds => if consec P fs.toList 0 = some (P.cellsOf t) then (dataFields (dataAV P N n top) fs.toList ds).map List.flatten else none
    | some (.interface _), .nil => some [.niliface]
    | some (.interface _), .iface name d => if top = true then match N name with
        | some u => match P.underlying u with
          | some (.pointer _) => match dataAV P N n false u d with
            | some [a] => some [.iface u a]
            | _ => none
          | _ => none
        | none => none
      else none
    | _, _ => none
theorem dataAll_spec {f : DataW Unit → Option (List AV)} : ∀ {ds : List (DataW Unit)} {xs : List (List AV)}, dataAll f ds = some xs → xs.length = ds.length ∧ ∀ (i : Nat) (x : List AV), xs[i]? = some x → ∃ d, ds[i]? = some d ∧ f d = some x
  | [], xs, h => by simp [dataAll] at h; subst h; simp
  | d :: r, xs, h => by
    simp only [dataAll] at h
    split at h <;> try (simp at h; done)
    rename_i x ys h1 h2
    simp only [Option.some.injEq] at h; subst h
    obtain ⟨hl, hx⟩ := dataAll_spec h2
    refine ⟨by simp [hl], fun i y hy => ?_⟩
    cases i with
    | zero => simp at hy; subst hy; exact ⟨d, rfl, h1⟩
    | succ i => simpa using hx i y (by simpa using hy)
theorem dataFields_spec {f : TypeId → DataW Unit → Option (List AV)} : ∀ {fs : List Field} {ds : List (DataW Unit)} {xs : List (List AV)}, dataFields f fs ds = some xs → xs.length = fs.length ∧ ds.length = fs.length ∧ ∀ (i : Nat) (fd : Field) (x : List AV), fs[i]? = some fd → xs[i]? = some x → ∃ d, ds[i]? = some d ∧ f fd.type d = some x
  | [], [], xs, h => by simp [dataFields] at h; subst h; simp
  | [], _ :: _, _, h => by simp [dataFields] at h
  | _ :: _, [], _, h => by simp [dataFields] at h
  | fd :: fs, d :: r, xs, h => by
    simp only [dataFields] at h
    split at h <;> try (simp at h; done)
    rename_i x ys h1 h2
    simp only [Option.some.injEq] at h; subst h
    obtain ⟨hl, hd, hx⟩ := dataFields_spec h2
    refine ⟨by simp [hl], by simp [hd], fun i fd' y hf hy => ?_⟩
    cases i with
    | zero => simp at hf hy; subst hf; subst hy; exact ⟨d, rfl, h1⟩
    | succ i => simpa using hx i fd' y (by simpa using hf) (by simpa using hy)
section
variable {P : Program} {w : World} {N : String → Option TypeId} {sp : Nat → Bool}
theorem add_none (B o k : Nat) : (Addr.mk B o none).add k = ⟨B, o + k, none⟩ := by
  unfold Addr.add
  split
  · rename_i h; subst h; rfl
  · rfl
theorem data_open (hN : ∀ name u u', N name = some u → P.typeName? 3 u' = some name → u' = u) : ∀ {n : Nat} {top : Bool} {t : TypeId} {d : DataW Unit} {as_ : List AV} {fuel : Nat} {cs : List Value} {p : List MemPlace},
    dataAV P N n top t d = some as_ → DataW.trod (fun _ => ()) P w 0 sp false fuel t cs = some (d, p) →
    (top = true → ∀ u v, Value.iface u v ∈ cs → Value.okWide P w .any 0 u v) → VRels (Env.start w) as_ cs
  | 0, _, _, _, _, _, _, _, h, _, _ => by simp [dataAV] at h
  | n + 1, top, t, d, as_, fuel, cs, p, h, hx, ok => by
    unfold dataAV at h
    split at h <;> rename_i hu
    · simp only [Option.some.injEq] at h; subst h
      obtain ⟨b, rfl, he⟩ := DataW.trod_bool hu hx
      simp at he; obtain ⟨rfl, rfl⟩ := he
      exact .cons (.bool _) .nil
    · obtain ⟨m, rfl, he, _⟩ := DataW.trod_int hu hx
      simp at he; obtain ⟨⟨rfl, rfl⟩, rfl⟩ := he
      simp at h; subst h
      exact .cons (.int _ _) .nil
    · simp only [Option.some.injEq] at h; subst h
      obtain ⟨s, rfl, he, _⟩ := DataW.trod_string hu hx
      simp at he; obtain ⟨rfl, rfl⟩ := he
      have := VRel.str (E := Env.start w) s.data.toList
      exact .cons (by simpa using this) .nil
    · simp only [Option.some.injEq] at h; subst h
      cases fuel with
      | zero => simp [DataW.trod] at hx
      | succ m =>
        match cs with
        | [] => simp [DataW.trod, hu] at hx
        | _ :: _ :: _ => simp [DataW.trod, hu] at hx
        | [c] =>
          cases c <;> simp [DataW.trod, hu] at hx
          rename_i o
          cases o with
          | none => exact .cons .nilptr .nil
          | some a =>
            simp only [Option.bind_eq_some_iff, Function.comp, Option.map_eq_some_iff] at hx
            obtain ⟨_, _, _, _, hx⟩ := hx
            simp at hx
    · rename_i e d'
      split at h <;> try (simp at h; done)
      rename_i hz
      simp only [Option.map_eq_some_iff] at h
      obtain ⟨xs, h, rfl⟩ := h
      obtain ⟨m, a, cs', q, rfl, hc, h2, rfl⟩ := ptr_of_trod hu hx
      have hv := data_open hN h h2 (by simp)
      obtain ⟨_, hcl, hce⟩ := World.cells?_some hc
      have h0 := hce 0 hz
      rw [List.getElem?_eq_getElem (by omega)] at h0
      have hspot : a.spot = none := by
        unfold World.cell? at h0
        split at h0
        · split at h0
          · simp at h0
          · rename_i hsn
            have : (a.add 0).spot = a.spot := rfl
            rw [this] at hsn
            simpa using hsn
        · simp at h0
      obtain ⟨B, o, s⟩ := a
      simp only at hspot; subst hspot
      have hblk : ∃ c e f, w.heap[B]? = some (.cells c e f) := by
        rw [add_none] at h0
        unfold World.cell? at h0
        simp only at h0
        split at h0
        · rename_i c e f hh; exact ⟨c, e, f, hh⟩
        · simp at h0
      obtain ⟨c, ce, cf, hh⟩ := hblk
      have hcell : ∀ k, w.cell? ⟨B, o + k, none⟩ = c[o + k]? := fun k => by
        unfold World.cell?; simp [hh]
      have he : cs' = (c.toList.drop o).take (P.cellsOf e) := by
        apply List.ext_getElem?
        intro j
        by_cases hj : j < P.cellsOf e
        · rw [← hce j hj, add_none, hcell]
          simp only [List.getElem?_take, if_pos hj, List.getElem?_drop, Array.getElem?_toList]
        · rw [List.getElem?_eq_none (by omega), List.getElem?_take, if_neg hj]
      refine .cons (.vptr (.inr ⟨c, ce, cf, hh, ?_⟩) hv) .nil
      rw [he]
      exact List.take_prefix _ _
    · rename_i len e ds
      split at h <;> try (simp at h; done)
      rename_i hz
      simp only [Option.map_eq_some_iff] at h
      obtain ⟨xs, h, rfl⟩ := h
      obtain ⟨ys, m, _, hd, hcl, hyl, hy⟩ := DataW.trod_array hu hx
      simp only [Prod.mk.injEq, DataW.agg.injEq] at hd
      obtain ⟨rfl, rfl⟩ := hd
      obtain ⟨hxl, hxs⟩ := dataAll_spec h
      have hxl' : xs.length = len := by simpa [hyl] using hxl
      have := VRels.blocks (E := Env.start w) (z := P.cellsOf e) xs cs fun i x hi => by
        obtain ⟨d, hd, hf⟩ := hxs i x hi
        have hlt : i < len := by rw [← hxl']; exact (List.getElem?_eq_some_iff.1 hi).1
        have h3 := hy i hlt
        rw [List.getElem?_eq_getElem (by omega)] at h3
        have hd' : (ys[i]'(by omega)).1 = d := by simpa [List.getElem?_eq_getElem (show i < ys.length by omega)] using hd
        rw [← hd'] at hf
        exact data_open hN hf h3 fun ht u v hm => ok ht u v (List.mem_of_mem_drop (List.mem_of_mem_take hm))
      rw [hxl', List.take_of_length_le (by omega)] at this
      exact this
    · rename_i fs ds
      split at h <;> try (simp at h; done)
      rename_i hz
      simp only [Option.map_eq_some_iff] at h
      obtain ⟨xs, h, rfl⟩ := h
      obtain ⟨ys, m, _, hd, hcl, hyl, hy⟩ := DataW.trod_struct hu hx
      simp only [Prod.mk.injEq, DataW.agg.injEq] at hd
      obtain ⟨rfl, rfl⟩ := hd
      obtain ⟨hxl, _, hxs⟩ := dataFields_spec h
      have := VRels.fields (P := P) (E := Env.start w) (cs := cs) fs.toList xs 0 _ hz hxl fun i f x hf hi => by
        obtain ⟨d, hd, hff⟩ := hxs i f x hf hi
        have hlt : i < ys.length := by
          have := (List.getElem?_eq_some_iff.1 hd).1
          simpa using this
        have h3 := hy i f (by simpa using hf)
        rw [List.getElem?_eq_getElem hlt] at h3
        have hd' : (ys[i]).1 = d := by simpa [List.getElem?_eq_getElem hlt] using hd
        rw [← hd'] at hff
        exact data_open hN hff h3 fun ht u v hm => ok ht u v (List.mem_of_mem_drop (List.mem_of_mem_take hm))
      rw [List.drop_zero, Nat.sub_zero, List.take_of_length_le (by omega)] at this
      exact this
    · simp only [Option.some.injEq] at h; subst h
      cases fuel with
      | zero => simp [DataW.trod] at hx
      | succ m =>
        match cs with
        | [] => simp [DataW.trod, hu] at hx
        | _ :: _ :: _ => simp [DataW.trod, hu] at hx
        | [c] =>
          cases c <;> simp [DataW.trod, hu] at hx
          · split at hx <;> simp at hx
          · exact .cons .niliface .nil
    · rename_i name d'
      split at h <;> try (simp at h; done)
      rename_i htop
      split at h <;> try (simp at h; done)
      rename_i u hnu
      split at h <;> try (simp at h; done)
      rename_i e hpu
      split at h <;> try (simp at h; done)
      rename_i a ha
      simp only [Option.some.injEq] at h; subst h
      obtain ⟨m, u', v, rfl, hname, h2⟩ := iface_of_trod hu hx
      obtain rfl := hN _ _ _ hnu hname
      have hok := ok htop u' v (by simp)
      have hvs := data_open hN ha h2 (by simp)
      have hv' : ∃ c, v = .pointer c := by
        unfold Value.okWide at hok
        simp only [hpu] at hok
        unfold Cell.okWide at hok
        cases v <;> simp [Cell.ok, hpu] at hok
        exact ⟨_, rfl⟩
      obtain ⟨c, rfl⟩ := hv'
      have hcl : (Value.pointer c).cells.toList = [.pointer c] := rfl
      rw [hcl] at hvs
      cases hvs with | cons hv _ => exact .cons (.iface hv) .nil
    · simp at h
def laidAV (P : Program) (N : String → Option TypeId) (n : Nat) (name : String) (d : DataW Unit) : Option (Nat × List AV) :=
  match P.globalNamed name with
  | some g => match (P.globals[g]?).map (·.type) with
    | some t => (dataAV P N n true t d).map fun as_ => (g, as_)
    | none => none
  | none => none
def laidTab (P : Program) (N : String → Option TypeId) (n : Nat) : List (String × DataW Unit) → Option (List (Nat × List AV))
  | [] => some []
  | (name, d) :: r => match laidAV P N n name d, laidTab P N n r with
    | some x, some xs => some (x :: xs)
    | _, _ => none
def Gof : List (Nat × List AV) → Nat → Option AV
  | [], _ => none
  | (g, as_) :: r, h => if h = g then some (.vptr as_) else Gof r h
theorem laid_rel (hN : ∀ name u u', N name = some u → P.typeName? 3 u' = some name → u' = u) {n : Nat} : ∀ {L : List (String × DataW Unit)} {T : List (Nat × List AV)} {ps : List MemPlace}, laidTab P N n L = some T → DataW.LaidVars P w L ps →
    (∀ b off, MemPlace.cell b off ∈ ps → ∀ u v, w.cell? ⟨b, off, none⟩ = some (.iface u v) → Value.okWide P w .any 0 u v) → GRel (Env.start w) (Gof T)
  | [], T, ps, h, _, _ => by
    simp [laidTab] at h; subst h
    intro g a ha
    simp [Gof] at ha
  | (name, d) :: r, T, ps, h, hL, hok => by
    simp only [laidTab] at h
    split at h <;> try (simp at h; done)
    rename_i x xs h1 h2
    simp only [Option.some.injEq] at h; subst h
    obtain ⟨g, t, cs, fuel, p, q, hg, ht, hv, hd, hr, rfl⟩ := hL
    simp only [laidAV, hg, ht, Option.map_eq_some_iff] at h1
    obtain ⟨as_, h1, rfl⟩ := h1
    have hrest := laid_rel hN h2 hr fun b off hm => hok b off (by simp [hm])
    intro k a ha
    simp only [Gof] at ha
    split at ha
    · rename_i he; subst he
      simp only [Option.some.injEq] at ha; subst ha
      have hvs := data_open hN h1 hd fun _ u v hm => by
        obtain ⟨i, hi⟩ := List.getElem?_of_mem hm
        refine hok k i ?_ u v ?_
        · simp only [List.mem_append, MemPlace.row, List.mem_map, List.mem_range]
          refine .inl (.inl ⟨i, ?_, by simp⟩)
          have := (List.getElem?_eq_some_iff.1 hi).1
          simpa using this
        · rw [World.var?_cell hg hv i]
          simpa using hi
      have hb : ∃ c e, w.heap[k]? = some (.cells cs c e) := by
        simp only [World.var?, hg, Option.bind_some] at hv
        split at hv <;> simp at hv
        subst hv
        rename_i hh; exact ⟨_, _, hh⟩
      obtain ⟨c, e, hb⟩ := hb
      exact ⟨.vptr (.inr ⟨cs, c, e, hb, by simp⟩) hvs, fun cs' e' => by cases e'; exact ⟨cs, c, e, hb, hvs⟩⟩
    · exact hrest k a ha
theorem laid_met (hN : ∀ name u u', N name = some u → P.typeName? 3 u' = some name → u' = u) {n : Nat} {L : List (String × DataW Unit)} (ht : (laidTab P N n L).isSome = true) (h : laidMet P L w) : GRel (Env.start w) (Gof ((laidTab P N n L).getD [])) := by
  obtain ⟨ps, h1, _, h3⟩ := h
  cases e : laidTab P N n L with
  | none => rw [e] at ht; simp at ht
  | some T => exact laid_rel hN e h1 fun b off hm => (h3 b off hm).2
end
end Go.Abs

namespace Go.Proofs.YtnhomjhfaoipmaaGreatDoor
open Go Go.Abs Go.RowKit
noncomputable def named : String → Option TypeId := fun s => if s = "*errors.errorString" then some 497 else none
theorem named_one (name : String) (u u' : TypeId) (h : named name = some u) (h' : Tryz.prog.typeName? 3 u' = some name) : u' = u := by
  unfold named at h
  split at h <;> try (simp at h; done)
  rename_i e; subst e
  simp only [Option.some.injEq] at h; subst h
  exact typeName_ptr_named (nm := "errors.errorString") (by kernel_rfl) (by kernel_rfl) (by decide) u' h'
def seatLaid : List (String × DataW Unit) := [("math/bits.deBruijn32tab", Rows.laid_math_bits_deBruijn32tab), ("math/bits.deBruijn64tab", Rows.laid_math_bits_deBruijn64tab), ("internal/strconv.uint64pow10", Rows.laid_internal_strconv_uint64pow10), ("unicode/utf8.acceptRanges", Rows.laid_unicode_utf8_acceptRanges), ("strconv.ErrRange", Rows.laid_strconv_ErrRange), ("strconv.ErrSyntax", Rows.laid_strconv_ErrSyntax), ("unicode/utf8.first", Rows.laid_unicode_utf8_first)]
noncomputable def tab : List (Nat × List AV) := (laidTab Tryz.prog named 8 seatLaid).getD []
theorem tab_ok : (laidTab Tryz.prog named 8 seatLaid).isSome = true := by kernel_rfl
theorem laid_start {w : World} (h : laidMet Tryz.prog seatLaid w) : GRel (Env.start w) (Gof tab) := laid_met named_one tab_ok h
theorem idx340 : IsIdx Tryz.prog 340 := ⟨⟨Tryz.f340, Tryz.func340, by kernel_rfl, by kernel_rfl, by kernel_rfl, by kernel_rfl⟩⟩
noncomputable def known : Ov := ovAdd 375 copyOv (ovAdd 340 idxOv (noOv))
theorem known_good (G : Nat → Option AV) : OvGoodK Tryz.prog G known := (ovAdd_good (copyOv_good isCopy) (ovAdd_good (idxOv_good idx340) (noOv_good _ _)))
end Go.Proofs.YtnhomjhfaoipmaaGreatDoor

namespace Go.Abs
open Go Go.RowKit Go.WideShapes Go.ChangeShapes
section
variable {H : Type} {enc : TypeId × Value → H} {P : Program}
theorem Olds.stays (hl : laidOutB P = true) {W W' : World} (hb : Olds W W') (sp : Nat → Bool) : ∀ {ts : List TypeId} {vs : List Value} {ds : List (DataW H)} {ps : List MemPlace}, (∀ t ∈ ts, P.readableRec t = true ∧ t < P.types.size) →
    DataW.TrodAll enc P W 0 (fun _ => true) true ts vs ds ps → (∀ x ∈ ps, x.block < W.heap.size ∧ sp x.block = true) → DataW.TrodAll enc P W' 0 sp true ts vs ds ps
  | [], [], [], ps, _, h, _ => h
  | t :: ts, v :: vs, d :: ds, ps, ht, h, hp => by
    obtain ⟨p, q, h1, h2, rfl⟩ := h
    obtain ⟨hr, hrow⟩ := ht t (by simp)
    refine ⟨p, q, ?_, Olds.stays hl hb sp (fun t ht' => ht t (by simp [ht'])) h2 (fun x hx => hp x (by simp [hx])), rfl⟩
    exact WideElems.Trod_stays hl hr hrow h1 (fun x hx => hb.same (hp x (by simp [hx])).1) (fun x hx => (hp x (by simp [hx])).2)
  | [], [], _ :: _, _, _, h, _ => h.elim
  | [], _ :: _, _, _, _, h, _ => by cases h
  | _ :: _, [], _, _, _, h, _ => by cases h
  | _ :: _, _ :: _, [], _, _, h, _ => by cases h
end
end Go.Abs

namespace Go.Lex
set_option linter.unusedSimpArgs false
open Go.Abs
noncomputable def blankN (n : Nat) : Bool := ifK (Nat.beq n 32) true (ifK (Nat.beq n 9) true (ifK (Nat.beq n 10) true (Nat.beq n 13)))
noncomputable def letterN (n : Nat) : Bool := ifK (Nat.ble 97 n) (Nat.ble n 122) false
noncomputable def digitN (n : Nat) : Bool := ifK (Nat.ble 48 n) (Nat.ble n 57) false
noncomputable def namecN (n : Nat) : Bool := ifK (letterN n) true (ifK (digitN n) true (Nat.beq n 95))
theorem ifK_if {R : Type} (b : Bool) (x y : R) : ifK b x y = if b = true then x else y := by cases b <;> rfl
theorem beq_toNat (b : UInt8) (n : UInt8) : Nat.beq b.toNat n.toNat = (b == n) := by
  rw [Bool.eq_iff_iff, Nat.beq_eq, beq_iff_eq, UInt8.toNat_inj]
theorem blankN_eq (b : UInt8) : blankN b.toNat = isBlank b := by
  have h1 := beq_toNat b 32
  have h2 := beq_toNat b 9
  have h3 := beq_toNat b 10
  have h4 := beq_toNat b 13
  have e1 : (32 : UInt8).toNat = 32 := rfl
  have e2 : (9 : UInt8).toNat = 9 := rfl
  have e3 : (10 : UInt8).toNat = 10 := rfl
  have e4 : (13 : UInt8).toNat = 13 := rfl
  rw [e1] at h1; rw [e2] at h2; rw [e3] at h3; rw [e4] at h4
  simp only [blankN, ifK_if, h1, h2, h3, h4, isBlank]
  cases b == 32 <;> cases b == 9 <;> cases b == 10 <;> cases b == 13 <;> rfl
theorem letterN_eq (b : UInt8) : letterN b.toNat = isLetter b := by
  simp only [letterN, ifK_if, isLetter, Nat.ble_eq]
  by_cases h : 97 ≤ b.toNat
  · rw [if_pos h, decide_eq_true h, Bool.true_and, Bool.eq_iff_iff, Nat.ble_eq, decide_eq_true_eq]
  · rw [if_neg h, decide_eq_false h, Bool.false_and]
theorem digitN_eq (b : UInt8) : digitN b.toNat = isDigit b := by
  simp only [digitN, ifK_if, isDigit, Nat.ble_eq]
  by_cases h : 48 ≤ b.toNat
  · rw [if_pos h, decide_eq_true h, Bool.true_and, Bool.eq_iff_iff, Nat.ble_eq, decide_eq_true_eq]
  · rw [if_neg h, decide_eq_false h, Bool.false_and]
theorem namecN_eq (b : UInt8) : namecN b.toNat = isNamec b := by
  have h1 := beq_toNat b 95
  have e1 : (95 : UInt8).toNat = 95 := rfl
  rw [e1] at h1
  simp only [namecN, ifK_if, letterN_eq, digitN_eq, isNamec, h1]
  cases isLetter b <;> cases isDigit b <;> rfl
noncomputable def frcA (l : Bs) : Bs → (Bs → Bool) → Bool := List.rec (motive := fun _ => Bs → (Bs → Bool) → Bool) (fun m k => revK m [] k) (fun b _ ih m k => natK b.toNat fun n => stepK (ih (UInt8.ofNat n :: m) k)) l
theorem frcA_eq : ∀ (l m : Bs) (k : Bs → Bool), frcA l m k = k (m.reverse ++ l)
  | [], m, k => by
    have e : frcA [] m k = revK m [] k := rfl
    rw [e, revK_eq]
  | b :: l, m, k => by
    have e : frcA (b :: l) m k = natK b.toNat fun n => frcA l (UInt8.ofNat n :: m) k := rfl
    rw [e, natK_eq, frcA_eq l]; simp
noncomputable def is45 (l : Bs) : Bool := List.rec (motive := fun _ => Bool) false (fun b _ _ => Nat.beq b.toNat 45) l
noncomputable def skK (l : Bs) : Bool → (Bs → Bool) → Bool := List.rec (motive := fun _ => Bool → (Bs → Bool) → Bool) (fun _ k => k [])
  (fun b l ih m k => natK b.toNat fun n => ifK m (ifK (Nat.beq n 10) (stepK (ih false k)) (stepK (ih true k)))
    (ifK (blankN n) (stepK (ih false k)) (ifK (Nat.beq n 45) (ifK (is45 l) (stepK (ih true k)) (k (b :: l))) (k (b :: l))))) l
theorem skK_eq : ∀ (l : Bs) (m : Bool) (k : Bs → Bool), skK l m k = k (betw (if m then l.dropWhile (fun b => b != 10) else l))
  | [], m, k => by
    have e : skK [] m k = k [] := rfl
    rw [e]; cases m <;> simp [betw_nil']
  | b :: l, m, k => by
    have e : skK (b :: l) m k = natK b.toNat fun n => ifK m (ifK (Nat.beq n 10) (skK l false k) (skK l true k))
      (ifK (blankN n) (skK l false k) (ifK (Nat.beq n 45) (ifK (is45 l) (skK l true k) (k (b :: l))) (k (b :: l)))) := rfl
    have h10 := beq_toNat b 10
    have h45 := beq_toNat b 45
    have e1 : (10 : UInt8).toNat = 10 := rfl
    have e2 : (45 : UInt8).toNat = 45 := rfl
    rw [e1] at h10; rw [e2] at h45
    rw [e, natK_eq, h10, blankN_eq, h45, skK_eq l, skK_eq l]
    cases m with
    | true =>
      simp only [ifK_if, if_true]
      by_cases hb : b = 10
      · subst hb
        simp only [beq_self_eq_true, if_true, Bool.false_eq_true, if_false]
        rw [List.dropWhile_cons]
        simp only [bne_self_eq_false, Bool.false_eq_true, if_false]
        rw [betw_blank (by decide)]
      · have h1 : (b == 10) = false := by simpa using hb
        have h2 : (b != 10) = true := by simpa using hb
        simp only [h1, Bool.false_eq_true, if_false, if_true]
        rw [List.dropWhile_cons, h2, if_pos rfl]
    | false =>
      simp only [ifK_if, Bool.false_eq_true, if_false, if_true]
      cases hb : isBlank b with
      | true => simp only [if_true]; rw [betw_blank hb]
      | false =>
        simp only [Bool.false_eq_true, if_false]
        by_cases h4 : b = 45
        · subst h4
          simp only [beq_self_eq_true, if_true]
          cases l with
          | nil =>
            have : is45 [] = false := rfl
            rw [this]
            simp only [Bool.false_eq_true, if_false]
            rw [betw_here hb (by simp)]
          | cons c q =>
            have hc : is45 (c :: q) = (c == 45) := by
              have := beq_toNat c 45
              rw [e2] at this
              exact this
            rw [hc]
            by_cases hc4 : c = 45
            · subst hc4
              simp only [beq_self_eq_true, if_true]
              rw [betw_rem, List.dropWhile_cons]
              simp
            · have : (c == 45) = false := by simpa using hc4
              rw [this]
              simp only [Bool.false_eq_true, if_false]
              rw [betw_here hb (by intro q h; simp at h; exact hc4 h.1)]
        · have : (b == 45) = false := by simpa using h4
          rw [this]
          simp only [Bool.false_eq_true, if_false]
          rw [betw_here hb (by intro q h; simp at h; exact h4 h.1)]
noncomputable def spK (p : Nat → Bool) (l : Bs) : Bs → (Bs → Bs → Bool) → Bool := List.rec (motive := fun _ => Bs → (Bs → Bs → Bool) → Bool) (fun m k => revK m [] fun t => k t [])
  (fun b l ih m k => natK b.toNat fun n => ifK (p n) (stepK (ih (b :: m) k)) (revK m [] fun t => k t (b :: l))) l
theorem spK_eq {p : Nat → Bool} {q : UInt8 → Bool} (h : ∀ b, p b.toNat = q b) : ∀ (l m : Bs) (k : Bs → Bs → Bool), spK p l m k = k (m.reverse ++ l.takeWhile q) (l.drop (l.takeWhile q).length)
  | [], m, k => by
    have e : spK p [] m k = revK m [] fun t => k t [] := rfl
    rw [e, revK_eq]; simp
  | b :: l, m, k => by
    have e : spK p (b :: l) m k = natK b.toNat fun n => ifK (p n) (spK p l (b :: m) k) (revK m [] fun t => k t (b :: l)) := rfl
    rw [e, natK_eq, h, spK_eq h l, revK_eq, List.takeWhile_cons]
    cases q b <;> simp
noncomputable def eqN (w : List Nat) : Bs → Bool := List.rec (motive := fun _ => Bs → Bool) (fun s => nilB s) (fun x _ ih s => List.rec (motive := fun _ => Bool) false (fun b r _ => ifK (Nat.beq b.toNat x) (ih r) false) s) w
theorem eqN_eq : ∀ (w : List Nat) (s : Bs), eqN w s = true ↔ s.map (·.toNat) = w
  | [], s => by
    have e : eqN [] s = nilB s := rfl
    rw [e, nilB_eq]; cases s <;> simp
  | x :: w, [] => by
    have e : eqN (x :: w) [] = false := rfl
    rw [e]; simp
  | x :: w, b :: s => by
    have e : eqN (x :: w) (b :: s) = ifK (Nat.beq b.toNat x) (eqN w s) false := rfl
    rw [e, ifK_if]
    by_cases h : b.toNat = x
    · have : Nat.beq b.toNat x = true := by rw [Nat.beq_eq]; exact h
      rw [if_pos this, eqN_eq w s]; simp [h]
    · have : ¬ Nat.beq b.toNat x = true := by rw [Nat.beq_eq]; exact h
      rw [if_neg this]; simp [h]
noncomputable def anyN (ws : List (List Nat)) (s : Bs) : Bool := List.rec (motive := fun _ => Bool) false (fun w _ ih => ifK (eqN w s) true ih) ws
theorem anyN_eq (s : Bs) : ∀ ws : List (List Nat), anyN ws s = true ↔ s.map (·.toNat) ∈ ws
  | [] => by simp [anyN]
  | w :: ws => by
    have e : anyN (w :: ws) s = ifK (eqN w s) true (anyN ws s) := rfl
    rw [e, ifK_if]
    by_cases h : eqN w s = true
    · rw [if_pos h]; simp [(eqN_eq w s).1 h]
    · rw [if_neg h, anyN_eq s ws]
      have : ¬ s.map (·.toNat) = w := fun e => h ((eqN_eq w s).2 e)
      simp [this]
def keptN : List (List Nat) := [[110,111,100,101],[114,101,116,117,114,110,115],[118,97,114],[108,101,116],[116,101,108],[98,111,111,108],[105,110,116],[116,114,117,101],[102,97,108,115,101],[110,111,116],[97,110,100],[111,114],[120,111,114],[109,111,100],[105,102],[116,104,101,110],[101,108,115,101],[112,114,101],[102,98,121],[119,104,101,110],[109,101,114,103,101]]
theorem toNat_map_inj : ∀ {a b : Bs}, a.map (·.toNat) = b.map (·.toNat) → a = b
  | [], [], _ => rfl
  | [], _ :: _, h => by simp at h
  | _ :: _, [], h => by simp at h
  | x :: a, y :: b, h => by
    simp only [List.map_cons, List.cons.injEq] at h
    rw [UInt8.toNat_inj.1 h.1, toNat_map_inj h.2]
theorem keptN_eq (s : Bs) : anyN keptN s = kept s := by
  rw [Bool.eq_iff_iff, anyN_eq]
  have hk : keptN = keptWords.map (fun w => w.map (·.toNat)) := rfl
  unfold kept
  rw [hk, List.mem_map, List.contains_iff_mem]
  constructor
  · rintro ⟨w, hw, e⟩; rw [← toNat_map_inj e]; exact hw
  · intro h; exact ⟨s, h, rfl⟩
noncomputable def prN (w : List Nat) : Bs → (Bs → Bool) → Bool → Bool := List.rec (motive := fun _ => Bs → (Bs → Bool) → Bool → Bool) (fun s k _ => k s)
  (fun x _ ih s k z => List.rec (motive := fun _ => Bool) z (fun b r _ => ifK (Nat.beq b.toNat x) (ih r k z) z) s) w
theorem prN_eq : ∀ (w s : Bs) (k : Bs → Bool) (z : Bool), prN (w.map (·.toNat)) s k z = if w.isPrefixOf s then k (s.drop w.length) else z
  | [], s, k, z => by
    have e : prN (([] : Bs).map (·.toNat)) s k z = k s := rfl
    rw [e]; simp
  | x :: w, [], k, z => by
    have e : prN ((x :: w).map (·.toNat)) [] k z = z := rfl
    rw [e]; simp
  | x :: w, b :: s, k, z => by
    have e : prN ((x :: w).map (·.toNat)) (b :: s) k z = ifK (Nat.beq b.toNat x.toNat) (prN (w.map (·.toNat)) s k z) z := rfl
    rw [e, beq_toNat, prN_eq w s, ifK_if]
    by_cases h : b = x
    · subst h; simp
    · have h1 : (b == x) = false := by simpa using h
      have h2 : (x == b) = false := by simpa using fun e => h e.symm
      rw [h1]; simp [List.isPrefixOf, h2]
noncomputable def sgK (ws : List Bs) (s : Bs) (k : Bs → Bs → Bool) (z : Bool) : Bool := List.rec (motive := fun _ => Bool) z (fun w _ ih => prN (w.map (·.toNat)) s (fun r => k w r) ih) ws
theorem sgK_eq (s : Bs) (k : Bs → Bs → Bool) (z : Bool) : ∀ ws : List Bs, sgK ws s k z = match ws.find? fun x => x.isPrefixOf s with | some t => k t (s.drop t.length) | none => z
  | [] => rfl
  | w :: ws => by
    have e : sgK (w :: ws) s k z = prN (w.map (·.toNat)) s (fun r => k w r) (sgK ws s k z) := rfl
    rw [e, prN_eq, sgK_eq s k z ws, List.find?_cons]
    cases w.isPrefixOf s <;> rfl
noncomputable def numN (l : Bs) : Nat → Nat := List.rec (motive := fun _ => Nat → Nat) (fun n => n) (fun b _ ih n => natK (Nat.add (Nat.mul 10 n) (Nat.sub b.toNat 48)) fun n => ih n) l
theorem numN_eq : ∀ (l : Bs) (n : Nat), numN l n = l.foldl (fun n b => 10 * n + (b.toNat - 48)) n
  | [], n => rfl
  | b :: l, n => by
    have e : numN (b :: l) n = natK (10 * n + (b.toNat - 48)) fun n => numN l n := rfl
    rw [e, natK_eq, numN_eq l]; rfl
noncomputable def wdK (s : Bs) (k : Nat → Bs → Nat → Bs → Bool) (z : Bool) : Bool :=
  List.rec (motive := fun _ => Bool) z (fun b _ _ => natK b.toNat fun n =>
    ifK (letterN n) (spK namecN s [] fun t r => ifK (anyN keptN t) (k 2 t 0 r) (ifK (Nat.ble (lenN t) 24) (k 1 t 0 r) z))
      (ifK (digitN n) (spK digitN s [] fun t r => natK (numN t 0) fun v => ifK (Nat.blt v 9223372036854775808) (ifK (Nat.beq (lenN t) 1) (k 3 t v r) (ifK (Nat.beq n 48) z (k 3 t v r))) z)
        (sgK signs s (fun t r => k 4 t 0 r) z))) s
theorem wdK_eq (s : Bs) (k : Nat → Bs → Nat → Bs → Bool) (z : Bool) : wdK s k z = match wordS s with | some w => k w.kind w.text w.n (s.drop w.text.length) | none => z := by
  cases s with
  | nil => rfl
  | cons b r =>
    have e : wdK (b :: r) k z = natK b.toNat fun n =>
      ifK (letterN n) (spK namecN (b :: r) [] fun t r => ifK (anyN keptN t) (k 2 t 0 r) (ifK (Nat.ble (lenN t) 24) (k 1 t 0 r) z))
      (ifK (digitN n) (spK digitN (b :: r) [] fun t r => natK (numN t 0) fun v => ifK (Nat.blt v 9223372036854775808) (ifK (Nat.beq (lenN t) 1) (k 3 t v r) (ifK (Nat.beq n 48) z (k 3 t v r))) z)
        (sgK signs (b :: r) (fun t r => k 4 t 0 r) z)) := rfl
    have h48 := beq_toNat b 48
    have e1 : (48 : UInt8).toNat = 48 := rfl
    rw [e1] at h48
    rw [e]
    simp only [natK_eq, letterN_eq, digitN_eq, spK_eq namecN_eq, spK_eq digitN_eq, keptN_eq, lenN_eq, numN_eq, sgK_eq, ifK_if, List.reverse_nil, List.nil_append, h48, wordS, signOf, numVal, Nat.ble_eq, Nat.beq_eq, Nat.blt_eq, beq_iff_eq]
    by_cases h1 : isLetter b = true
    · simp only [Bool.false_eq_true, h1, if_true]
      by_cases h2 : kept (List.takeWhile isNamec (b :: r)) = true
      · simp only [Bool.false_eq_true, h2, if_true]
      · simp only [Bool.false_eq_true, h2, if_false]
        by_cases h3 : (List.takeWhile isNamec (b :: r)).length ≤ 24
        · simp only [Bool.false_eq_true, h3, if_true]
        · simp only [Bool.false_eq_true, h3, if_false]
    · simp only [Bool.false_eq_true, h1, if_false]
      by_cases h2 : isDigit b = true
      · simp only [Bool.false_eq_true, h2, if_true]
        by_cases h3 : List.foldl (fun n b => 10 * n + (b.toNat - 48)) 0 (List.takeWhile isDigit (b :: r)) < 9223372036854775808
        · by_cases h4 : (List.takeWhile isDigit (b :: r)).length = 1
          · simp only [Bool.false_eq_true, h3, h4, if_true, true_or, and_self]
          · have e48 : (b.toNat = 48) ↔ b = 48 := by
              have := beq_toNat b 48
              rw [e1] at this
              rw [← Nat.beq_eq, this, beq_iff_eq]
            by_cases h5 : b = 48
            · have h6 := e48.2 h5
              have h7 : ¬ (List.foldl (fun n b => 10 * n + (b.toNat - 48)) 0 (List.takeWhile isDigit (b :: r)) < 9223372036854775808 ∧ ((List.takeWhile isDigit (b :: r)).length = 1 ∨ b ≠ 48)) := fun ⟨_, x⟩ => by
                rcases x with x | x
                · exact h4 x
                · exact x h5
              have h5' := eq_true h5
              have h6' := eq_true h6
              simp only [h3, h4, h5', h6', ne_eq, not_true_eq_false, if_true, if_false, or_self, and_false]
            · have h6 : ¬ b.toNat = 48 := fun e => h5 (e48.1 e)
              simp only [h3, h4, h5, h6, ne_eq, not_false_eq_true, if_true, if_false, or_true, and_self]
        · simp only [Bool.false_eq_true, h3, if_false, false_and]
      · simp only [Bool.false_eq_true, h2, if_false]
        cases List.find? (fun x => x.isPrefixOf (b :: r)) signs <;> rfl
noncomputable def ctK (n : Nat) (fuel : Nat) : Bs → List AV → Nat → (List AV → Nat → Bool) → (Nat → Bool) → Bool :=
  Nat.rec (motive := fun _ => Bs → List AV → Nat → (List AV → Nat → Bool) → (Nat → Bool) → Bool) (fun _ _ _ _ _ => false)
    (fun _ ih s m c k z => skK s false fun r => List.rec (motive := fun _ => Bool) (revK (.int .i64 (.ofNat n) :: .int .i64 (.ofNat 0) :: .str [] :: .int .i64 (.ofNat 0) :: m) [] fun cs => natK (Nat.succ c) fun c => k cs c)
      (fun _ _ _ => natK (Nat.sub n (lenN r)) fun at_ => wdK r (fun kd t v q => natK (Nat.succ c) fun c => stepK (ih q (.int .i64 (.ofNat at_) :: .int .i64 (.ofNat v) :: .str t :: .int .i64 (.ofNat kd) :: m) c k z)) (z at_)) r) fuel
def cellsW : List (Nat × Wd) → List AV
  | [] => []
  | (i, w) :: l => [.int .i64 w.kind, .str w.text, .int .i64 w.n, .int .i64 i] ++ cellsW l
theorem ctK_inv (n : Nat) : ∀ (fuel : Nat) (s : Bs) (m : List AV) (c : Nat) (k : List AV → Nat → Bool) (z : Nat → Bool), ctK n fuel s m c k z = true →
    (match cutS n s with
    | .ok l => k (m.reverse ++ cellsW l ++ [.int .i64 0, .str [], .int .i64 0, .int .i64 n]) (c + l.length + 1)
    | .error e => z e) = true
  | 0, s, m, c, k, z, h => by have h : false = true := h; simp at h
  | fuel + 1, s, m, c, k, z, h => by
    have h : (skK s false fun r => List.rec (motive := fun _ => Bool) (revK (.int .i64 (.ofNat n) :: .int .i64 (.ofNat 0) :: .str [] :: .int .i64 (.ofNat 0) :: m) [] fun cs => natK (Nat.succ c) fun c => k cs c)
      (fun _ _ _ => natK (Nat.sub n (lenN r)) fun at_ => wdK r (fun kd t v q => natK (Nat.succ c) fun c => ctK n fuel q (.int .i64 (.ofNat at_) :: .int .i64 (.ofNat v) :: .str t :: .int .i64 (.ofNat kd) :: m) c k z) (z at_)) r) = true := h
    rw [skK_eq] at h
    simp only [Bool.false_eq_true, if_false] at h
    cases hb : betw s with
    | nil =>
      rw [hb] at h
      simp only [revK_eq, natK_eq] at h
      rw [cutS_end hb]
      simpa [cellsW] using h
    | cons b r =>
      rw [hb] at h
      simp only [natK_eq, lenN_eq, wdK_eq] at h
      cases hw : wordS (b :: r) with
      | none =>
        rw [hw] at h
        rw [cutS_bad hb hw]
        exact h
      | some w =>
        rw [hw] at h
        rw [cutS_word hb hw]
        have ih := ctK_inv n fuel _ _ _ _ _ h
        revert ih
        cases cutS n ((b :: r).drop w.text.length) with
        | ok l =>
          intro ih
          have e : c + (((n - (b :: r).length, w) :: l).length) + 1 = c.succ + l.length + 1 := by simp; omega
          simp only [e]
          simpa [cellsW] using ih
        | error e => exact fun ih => ih
noncomputable def cutOv (args : List AV) (H : FH) (k : AV → FH → Bool) : Bool :=
  oneKK args (fun a => a.onStr false fun s => natK (lenN s) fun n => ifK (Nat.ble n 140737488355328) (ifK (Nat.ble n 16384)
    (frcA s [] fun s => ctK n (Nat.succ n) s [] 0 (fun cs c => k (.tuple [.vsl cs c, .agg [.int .i64 (.ofNat 0), .int .i64 (.ofNat 0)]]) H) (fun e => k (.tuple [.nilsl, .agg [.int .i64 (.ofNat 7), .int .i64 (.ofNat e)]]) H))
    (k (.tuple [.nilsl, .agg [.int .i64 (.ofNat 2), .int .i64 (.ofNat n)]]) H)) false) false
def cutA (t : Bs) : AV := if 16384 < t.length then .tuple [.nilsl, .agg [.int .i64 2, .int .i64 t.length]] else match cutS t.length t with
  | .ok l => .tuple [.vsl (cellsW l ++ [.int .i64 0, .str [], .int .i64 0, .int .i64 t.length]) (l.length + 1), .agg [.int .i64 0, .int .i64 0]]
  | .error e => .tuple [.nilsl, .agg [.int .i64 7, .int .i64 e]]
theorem cutOv_inv {args : List AV} {H : FH} {k : AV → FH → Bool} (h : cutOv args H k = true) : ∃ s : Bs, args = [.str s] ∧ s.length ≤ 140737488355328 ∧ k (cutA s) H = true := by
  obtain ⟨a, rfl, h0⟩ := oneKK_inv h
  rcases AV.onStr_inv h0 with ⟨s, rfl, h1⟩ | ⟨h1, _⟩
  case inr => simp at h1
  clear h h0
  rw [natK_eq, lenN_eq] at h1
  obtain ⟨hb, h⟩ := ifK_inv h1
  clear h1
  have hb : s.length ≤ 140737488355328 := Nat.le_of_ble_eq_true hb
  refine ⟨s, rfl, hb, ?_⟩
  simp only [ifK_if, Nat.ble_eq] at h
  by_cases hl : s.length ≤ 16384
  · rw [if_pos hl, frcA_eq] at h
    have h1 := ctK_inv _ _ _ _ _ _ _ h
    simp only [List.reverse_nil, List.nil_append, Nat.zero_add] at h1
    unfold cutA
    rw [if_neg (by omega)]
    cases hc : cutS s.length s with
    | ok l => rw [hc] at h1; exact h1
    | error e => rw [hc] at h1; exact h1
  · rw [if_neg hl] at h
    unfold cutA
    rw [if_pos (by omega)]
    exact h
end Go.Lex

namespace Go.Abs
open Go
noncomputable def Env.asideF (E : Env) (H : AHeap) (w : World) : Env := by
  classical
  exact { φ := fun _ => none, K := E.K, F := fun B => if (∃ i x p, H.get i = some x ∧ E.φ i = some p ∧ p.b = B) then w.heap[B]? else E.F B, os := E.os, out := E.out }
theorem aside_live {E : Env} {H : AHeap} {w : World} {B i : Nat} {x : AObj} {p : Place} (hi : H.get i = some x) (hp : E.φ i = some p) (hb : p.b = B) : (E.asideF H w).F B = w.heap[B]? := by
  unfold Env.asideF
  exact if_pos ⟨i, x, p, hi, hp, hb⟩
theorem aside_cases (E : Env) (H : AHeap) (w : World) (B : Nat) : (E.asideF H w).F B = E.F B ∨ (∃ i x p, H.get i = some x ∧ E.φ i = some p ∧ p.b = B) := by
  by_cases h : ∃ i x p, H.get i = some x ∧ E.φ i = some p ∧ p.b = B
  · exact .inr h
  · left; unfold Env.asideF; exact if_neg h
theorem Does.frame {P : Program} {G : Nat → Option AV} {f : FuncId} {args : List AV} {n : Nat} {R : AV → AHeap → Prop} (h : Does P G f args (AHeap.empty n) R) (ha : AV.allLt 0 args = true) (hG : ∀ g a, G g = some a → a.idLt 0 = true)
    (hr : ∀ r H1, R r H1 → r.idLt 0 = true) (H : AHeap) : Does P G f args H fun r h => (∃ H1, R r H1) ∧ h = H :=
  ⟨fun E w vs hR hG' hv => by
    have hlive : ∀ i x p, H.get i = some x → E.φ i = some p → E.K p.b = none ∧ E.F p.b = none ∧ ∃ ob, w.heap[p.b]? = some ob ∧ ORel E p x ob := fun i x p hi hp => by
      obtain ⟨q, ob, h1, h2, h3, h4, h5⟩ := hR.live i x hi
      rw [hp] at h1; cases h1
      exact ⟨h2, h3, ob, h4, h5⟩
    have hR0 : Rel (E.asideF H w) (AHeap.empty n) w := by
      refine ⟨hR.os, hR.out, hR.K, fun B o hB => ?_, fun B => ?_, fun i p hp => ?_, fun i x hi => ?_, fun i j x y p q hi => ?_⟩
      · rcases aside_cases E H w B with e | ⟨i, x, p, hi, hp, rfl⟩
        · rw [e] at hB; exact hR.F B o hB
        · rw [aside_live hi hp rfl] at hB; exact hB
      · rcases aside_cases E H w B with e | ⟨i, x, p, hi, hp, rfl⟩
        · rw [e]; exact hR.KF B
        · exact .inl (hlive i x p hi hp).1
      · have : (none : Option Place) = some p := hp
        simp at this
      · simp [AHeap.empty] at hi
      · simp [AHeap.empty] at hi
    have kn : Knows (E.cut 0) (E.asideF H w) := ⟨fun i p hp => by simp [Env.cut] at hp, fun _ _ h => h⟩
    refine (h.run _ w vs hR0 ((GRel.cut hG' hG).mono kn) ((VRels.cut hv ha).mono kn)).mono ?_
    rintro v w' ⟨r, H1, E1, g1, g2, g3, g4⟩
    have hKE : ∀ B o, E.K B = some o → E1.K B = some o := g2.K
    have hF1 : E1.F = (E.asideF H w).F := g2.F
    have hkn : Knows E { E with K := E1.K } := ⟨fun _ _ h => h, hKE⟩
    refine ⟨r, H, { E with K := E1.K }, ⟨⟨H1, g1⟩, rfl⟩, ⟨fun _ _ h => h, hKE, rfl, rfl, rfl⟩, ?_, ?_⟩
    · exact VRel.mono (E := E1.cut 0) (E' := { E with K := E1.K }) ⟨fun i p hp => by simp [Env.cut] at hp, fun _ _ h => h⟩ (VRel.cut g3 (hr r H1 g1))
    · refine ⟨g4.os.trans g2.os, g4.out.trans g2.out, g4.K, fun B o hB => ?_, fun B => ?_, hR.dom, fun i x hi => ?_, hR.inj⟩
      · refine g4.F B o ?_
        rw [hF1]
        rcases aside_cases E H w B with e | ⟨i, x, p, hi, hp, rfl⟩
        · rw [e]; exact hB
        · have h2 := (hlive i x p hi hp).2.1
          have hB : E.F p.b = some o := hB
          rw [h2] at hB; simp at hB
      · rcases g4.KF B with e | e
        · exact .inl e
        · rw [hF1] at e
          rcases aside_cases E H w B with e' | ⟨i, x, p, hi, hp, rfl⟩
          · rw [e'] at e; exact .inr e
          · exact .inr (hlive i x p hi hp).2.1
      · obtain ⟨p, ob, h1, h2, h3, h4, h5⟩ := hR.live i x hi
        have hF0 : E1.F p.b = some ob := by rw [hF1, aside_live hi h1 rfl]; exact h4
        refine ⟨p, ob, h1, ?_, h3, g4.F _ _ hF0, h5.mono hkn⟩
        rcases g4.KF p.b with e | e
        · exact e
        · rw [hF0] at e; simp at e⟩
end Go.Abs

namespace Go.Abs
open Go
def optAll {α : Type} : List (Option α) → Option (List α)
  | [] => some []
  | none :: _ => none
  | some a :: l => (optAll l).map (a :: ·)
def AV.res (get : Nat → Option AObj) : Nat → AV → Option AV
  | 0, _ => none
  | n + 1, v => match v with
    | .ptr i o => match get i with
      | some (.cells cs) => (optAll ((cs.drop o).map (AV.res get n))).map .vptr
      | _ => none
    | .sl i o z len _ _ => match get i with
      | some (.cells cs) => (optAll (((cs.drop o).take (len * z)).map (AV.res get n))).map (.vsl · len)
      | _ => none
    | .vptr cs => (optAll (cs.map (AV.res get n))).map .vptr
    | .vsl cs len => (optAll (cs.map (AV.res get n))).map (.vsl · len)
    | .func f a b => match optAll (a.map (AV.res get n)), optAll (b.map (AV.res get n)) with
      | some a, some b => some (.func f a b)
      | _, _ => none
    | .iface t v => (AV.res get n v).map (.iface t)
    | .agg cs => (optAll (cs.map (AV.res get n))).map .agg
    | .tuple cs => (optAll (cs.map (AV.res get n))).map .tuple
    | .map _ => none
    | v => some v
def Env.all (E : Env) (w : World) : Env := { E with K := fun B => match E.F B with | some _ => none | none => w.heap[B]? }
theorem all_ext {E : Env} {H : AHeap} {w : World} (hR : Rel E H w) : Ext E (E.all w) := by
  refine ⟨fun _ _ h => h, fun B o hB => ?_, rfl, rfl, rfl⟩
  have hF : E.F B = none := by
    rcases hR.KF B with e | e
    · rw [hB] at e; simp at e
    · exact e
  show (match E.F B with | some _ => none | none => w.heap[B]?) = some o
  rw [hF]; exact hR.K B o hB
theorem all_rel {E : Env} {H : AHeap} {w : World} (hR : Rel E H w) : Rel (E.all w) (AHeap.empty H.next) w := by
  refine ⟨hR.os, hR.out, fun B o hB => ?_, hR.F, fun B => ?_, hR.dom, fun i x hi => by simp [AHeap.empty] at hi, fun i j x y p q hi => by simp [AHeap.empty] at hi⟩
  · have hB : (match E.F B with | some _ => none | none => w.heap[B]?) = some o := hB
    split at hB
    · simp at hB
    · exact hB
  · cases hF : E.F B with
    | none => exact .inr hF
    | some o =>
      left
      show (match E.F B with | some _ => none | none => w.heap[B]?) = none
      rw [hF]
theorem live_ink {E : Env} {H : AHeap} {w : World} (hR : Rel E H w) {i : Nat} {cs : List AV} {p : Place} (hi : H.get i = some (.cells cs)) (hp : E.φ i = some p) (o : Nat) :
    ∃ vs, InK (E.all w) p.b (p.s + o) vs ∧ VRels E (cs.drop o) vs := by
  obtain ⟨q, ob, h1, h2, h3, h4, c, e, fz, vs, rfl, _, h6, h7, _⟩ := hR.live i _ hi
  rw [hp] at h1; cases h1
  refine ⟨vs.drop o, .inr ⟨c, e, fz, ?_, ?_⟩, h6.drop o⟩
  · show (match E.F p.b with | some _ => none | none => w.heap[p.b]?) = _
    rw [h3]; exact h4
  · obtain ⟨t, ht⟩ := h7
    rw [← List.drop_drop, ← ht]
    by_cases ho : o ≤ vs.length
    · rw [List.drop_append_of_le_length ho]; exact List.prefix_append _ _
    · rw [List.drop_of_length_le (by omega)]; exact List.nil_prefix
theorem res_list {E' : Env} {E : Env} {get : Nat → Option AObj} {n : Nat} (ih : ∀ v u r, VRel E v u → v.res get n = some r → VRel E' r u) : ∀ {vs us rs}, VRels E vs us → optAll (vs.map (AV.res get n)) = some rs → VRels E' rs us
  | [], us, rs, h, hr => by
    cases h
    simp [optAll] at hr; subst hr; exact .nil
  | v :: vs, us, rs, h, hr => by
    cases h with
    | cons h t =>
      simp only [List.map_cons] at hr
      cases hv : AV.res get n v with
      | none => rw [hv] at hr; simp [optAll] at hr
      | some a =>
        rw [hv] at hr
        simp only [optAll, Option.map_eq_some_iff] at hr
        obtain ⟨l, hl, rfl⟩ := hr
        exact .cons (ih _ _ _ h hv) (res_list ih t hl)
theorem VRel.res {E : Env} {H : AHeap} {w : World} (hR : Rel E H w) : ∀ (n : Nat) (v : AV) (u : Value) (r : AV), VRel E v u → v.res H.get n = some r → VRel (E.all w) r u
  | 0, v, u, r, _, hr => by simp [AV.res] at hr
  | n + 1, v, u, r, h, hr => by
    have ih := VRel.res hR n
    have hk := (all_ext hR).knows
    cases h with
    | bool b => simp [AV.res] at hr; subst hr; exact .bool b
    | int k m => simp [AV.res] at hr; subst hr; exact .int k m
    | str s => simp [AV.res] at hr; subst hr; exact .str s
    | nilptr => simp [AV.res] at hr; subst hr; exact .nilptr
    | nilsl => simp [AV.res] at hr; subst hr; exact .nilsl
    | nilmap => simp [AV.res] at hr; subst hr; exact .nilmap
    | nilfunc => simp [AV.res] at hr; subst hr; exact .nilfunc
    | niliface => simp [AV.res] at hr; subst hr; exact .niliface
    | map h => simp [AV.res] at hr
    | vsl0 => simp [AV.res, optAll] at hr; subst hr; exact .vsl0
    | @ptr i o p h =>
      simp only [AV.res] at hr
      split at hr <;> try (simp at hr; done)
      rename_i cs hi
      simp only [Option.map_eq_some_iff] at hr
      obtain ⟨rs, hr, rfl⟩ := hr
      obtain ⟨vs, h1, h2⟩ := live_ink hR hi h o
      exact .vptr h1 (res_list ih h2 hr)
    | @sl i o z len cap c' opn p h hl hc ho hn =>
      simp only [AV.res] at hr
      split at hr <;> try (simp at hr; done)
      rename_i cs hi
      simp only [Option.map_eq_some_iff] at hr
      obtain ⟨rs, hr, rfl⟩ := hr
      obtain ⟨vs, h1, h2⟩ := live_ink hR hi h o
      refine .vsl (vs := vs.take (len * z)) ?_ (res_list ih (h2.take _) hr) (Nat.le_trans hl hc)
      rcases h1 with h1 | ⟨c, e, f, g1, g2⟩
      · left; rw [h1]; simp
      · exact .inr ⟨c, e, f, g1, (List.take_prefix _ _).trans g2⟩
    | vptr hK hv =>
      simp only [AV.res, Option.map_eq_some_iff] at hr
      obtain ⟨rs, hr, rfl⟩ := hr
      exact .vptr (hK.mono hk) (res_list ih hv hr)
    | vsl hK hv hl =>
      simp only [AV.res, Option.map_eq_some_iff] at hr
      obtain ⟨rs, hr, rfl⟩ := hr
      exact .vsl (hK.mono hk) (res_list ih hv hr) hl
    | func hf hc =>
      simp only [AV.res] at hr
      split at hr <;> try (simp at hr; done)
      rename_i a b ha hb
      simp only [Option.some.injEq] at hr; subst hr
      exact .func (res_list ih hf ha) (res_list ih hc hb)
    | iface h =>
      simp only [AV.res, Option.map_eq_some_iff] at hr
      obtain ⟨rs, hr, rfl⟩ := hr
      exact .iface (ih _ _ _ h hr)
    | agg h =>
      simp only [AV.res, Option.map_eq_some_iff] at hr
      obtain ⟨rs, hr, rfl⟩ := hr
      exact .agg (res_list ih h hr)
    | tuple h =>
      simp only [AV.res, Option.map_eq_some_iff] at hr
      obtain ⟨rs, hr, rfl⟩ := hr
      exact .tuple (res_list ih h hr)
theorem Ghost.res {n m : Nat} {v r : AV} {H : AHeap} (h : v.res H.get m = some r) : Ghost n v H r (AHeap.empty H.next) := fun _ _ _ _ _ hx hv hR => ⟨_, hx.trans (all_ext hR), VRel.res hR _ _ _ _ hv h, all_rel hR⟩
noncomputable def litK (lit : AV) (v : AV) (H : FH) : Bool := match v.res H.abs.get 1000 with
  | some r => r.beq lit
  | none => false
theorem lit_does {P : Program} {G : Nat → Option AV} {ov : Ov} {f : FuncId} {fuel n : Nat} {args : List AV} {lit : AV} (hm : P.follows .mixedOrders = true) (hp : plainFn P = true) (hov : OvGoodK P G ov) (hG : ∀ g a, G g = some a → a.idLt 0 = true)
    (ha : AV.allLt 0 args = true) (hl : lit.idLt 0 = true) (h : fcall ov P G fuel n f args FH.empty (litK lit) = true) (H : AHeap) : Does P G f args H fun r h => r = lit ∧ h = H := by
  obtain ⟨v, H', hd, _, hk⟩ := fcall_sound hm hp hov n f args FH.empty _ h
  rw [FH.abs_empty] at hd
  unfold litK at hk
  split at hk <;> try (simp at hk; done)
  rename_i r hr
  have hk := AV.beq_eq _ _ hk
  subst hk
  have h1 : Does P G f args (AHeap.empty 0) fun x _ => x = r := hd.ghost fun x h ⟨h1, h2⟩ => ⟨r, AHeap.empty H'.abs.next, by subst h1; subst h2; exact Ghost.res hr, rfl⟩
  exact (h1.frame ha hG (fun x _ hx => by rw [hx]; exact hl) H).mono fun x h ⟨⟨_, h2⟩, h3⟩ => ⟨h2, h3⟩
noncomputable def litOv (tab : List (List AV × AV)) (args : List AV) (H : FH) (k : AV → FH → Bool) : Bool :=
  List.rec (motive := fun _ => Bool) false (fun e _ ih => ifK (AV.beqs e.1 args) (k e.2 H) ih) tab
theorem litOv_inv {args : List AV} {H : FH} {k : AV → FH → Bool} : ∀ {tab : List (List AV × AV)}, litOv tab args H k = true → ∃ e ∈ tab, e.1 = args ∧ k e.2 H = true
  | [], h => by have h : false = true := h; simp at h
  | e :: tab, h => by
    have h : ifK (AV.beqs e.1 args) (k e.2 H) (litOv tab args H k) = true := h
    cases hb : AV.beqs e.1 args with
    | true => rw [hb] at h; exact ⟨e, by simp, AV.beqs_eq _ _ hb, h⟩
    | false =>
      rw [hb] at h
      obtain ⟨e', h1, h2⟩ := litOv_inv (tab := tab) h
      exact ⟨e', by simp [h1], h2⟩
theorem litOv_good {P : Program} {G : Nat → Option AV} {f : FuncId} {tab : List (List AV × AV)} (ht : ∀ e ∈ tab, ∀ H, Does P G f e.1 H fun r h => r = e.2 ∧ h = H) (args : List AV) (H : FH) (k : AV → FH → Bool) (h : litOv tab args H k = true) :
    ∃ v H', Does P G f args H.abs (fun r h => r = v ∧ h = FH.abs H') ∧ H.next ≤ H'.next ∧ k v H' = true := by
  obtain ⟨e, h1, rfl, h3⟩ := litOv_inv h
  exact ⟨e.2, H, ht e h1 H.abs, Nat.le_refl _, h3⟩
end Go.Abs

namespace Go.Abs
open Go
theorem VRel.resG {E E2 : Env} {get : Nat → Option AObj} (hk : Knows E E2) (hlv : ∀ i cs p, get i = some (.cells cs) → E.φ i = some p → ∀ o, ∃ vs, InK E2 p.b (p.s + o) vs ∧ VRels E (cs.drop o) vs) : ∀ (n : Nat) (v : AV) (u : Value) (r : AV), VRel E v u → v.res get n = some r → VRel E2 r u
  | 0, v, u, r, _, hr => by simp [AV.res] at hr
  | n + 1, v, u, r, h, hr => by
    have ih := VRel.resG hk hlv n
    cases h with
    | bool b => simp [AV.res] at hr; subst hr; exact .bool b
    | int k m => simp [AV.res] at hr; subst hr; exact .int k m
    | str s => simp [AV.res] at hr; subst hr; exact .str s
    | nilptr => simp [AV.res] at hr; subst hr; exact .nilptr
    | nilsl => simp [AV.res] at hr; subst hr; exact .nilsl
    | nilmap => simp [AV.res] at hr; subst hr; exact .nilmap
    | nilfunc => simp [AV.res] at hr; subst hr; exact .nilfunc
    | niliface => simp [AV.res] at hr; subst hr; exact .niliface
    | map h => simp [AV.res] at hr
    | vsl0 => simp [AV.res, optAll] at hr; subst hr; exact .vsl0
    | @ptr i o p h =>
      simp only [AV.res] at hr
      split at hr <;> try (simp at hr; done)
      rename_i cs hi
      simp only [Option.map_eq_some_iff] at hr
      obtain ⟨rs, hr, rfl⟩ := hr
      obtain ⟨vs, h1, h2⟩ := hlv _ _ _ hi h o
      exact .vptr h1 (res_list ih h2 hr)
    | @sl i o z len cap c' opn p h hl hc ho hn =>
      simp only [AV.res] at hr
      split at hr <;> try (simp at hr; done)
      rename_i cs hi
      simp only [Option.map_eq_some_iff] at hr
      obtain ⟨rs, hr, rfl⟩ := hr
      obtain ⟨vs, h1, h2⟩ := hlv _ _ _ hi h o
      refine .vsl (vs := vs.take (len * z)) ?_ (res_list ih (h2.take _) hr) (Nat.le_trans hl hc)
      rcases h1 with h1 | ⟨c, e, f, g1, g2⟩
      · left; rw [h1]; simp
      · exact .inr ⟨c, e, f, g1, (List.take_prefix _ _).trans g2⟩
    | vptr hK hv =>
      simp only [AV.res, Option.map_eq_some_iff] at hr
      obtain ⟨rs, hr, rfl⟩ := hr
      exact .vptr (hK.mono hk) (res_list ih hv hr)
    | vsl hK hv hl =>
      simp only [AV.res, Option.map_eq_some_iff] at hr
      obtain ⟨rs, hr, rfl⟩ := hr
      exact .vsl (hK.mono hk) (res_list ih hv hr) hl
    | func hf hc =>
      simp only [AV.res] at hr
      split at hr <;> try (simp at hr; done)
      rename_i a b ha hb
      simp only [Option.some.injEq] at hr; subst hr
      exact .func (res_list ih hf ha) (res_list ih hc hb)
    | iface h =>
      simp only [AV.res, Option.map_eq_some_iff] at hr
      obtain ⟨rs, hr, rfl⟩ := hr
      exact .iface (ih _ _ _ h hr)
    | agg h =>
      simp only [AV.res, Option.map_eq_some_iff] at hr
      obtain ⟨rs, hr, rfl⟩ := hr
      exact .agg (res_list ih h hr)
    | tuple h =>
      simp only [AV.res, Option.map_eq_some_iff] at hr
      obtain ⟨rs, hr, rfl⟩ := hr
      exact .tuple (res_list ih h hr)
noncomputable def Env.but (E : Env) (H2 : AHeap) (w : World) : Env := { E with K := fun B => match E.K B with
  | some o => some o
  | none => match E.F B with
    | some _ => none
    | none => by
      classical
      exact if (∃ i x p, H2.get i = some x ∧ E.φ i = some p ∧ p.b = B) then none else w.heap[B]? }
section
variable {E : Env} {H H2 : AHeap} {w : World}
theorem but_K {B : Nat} {o : Obj} (h : E.K B = some o) : (E.but H2 w).K B = some o := by
  show (match E.K B with | some o => some o | none => _) = some o
  rw [h]
theorem but_knows : Knows E (E.but H2 w) := ⟨fun _ _ h => h, fun _ _ h => but_K h⟩
theorem but_ext : Ext E (E.but H2 w) := ⟨fun _ _ h => h, fun _ _ h => but_K h, rfl, rfl, rfl⟩
theorem but_live (hR : Rel E H w) (hs : ∀ i x, H2.get i = some x → H.get i = some x) {i : Nat} {x : AObj} {p : Place} (hx : H2.get i = some x) (hp : E.φ i = some p) : (E.but H2 w).K p.b = none := by
  obtain ⟨q, ob, h1, h2, h3, h4, h5⟩ := hR.live i x (hs i x hx)
  rw [hp] at h1; cases h1
  show (match E.K p.b with | some o => some o | none => _) = none
  rw [h2]
  show (match E.F p.b with | some _ => none | none => _) = none
  rw [h3]
  exact if_pos ⟨i, x, p, hx, hp, rfl⟩
theorem but_new (hR : Rel E H w) (hs : ∀ i x, H2.get i = some x → H.get i = some x) {i : Nat} {x : AObj} {p : Place} (hx : H.get i = some x) (hn : H2.get i = none) (hp : E.φ i = some p) : (E.but H2 w).K p.b = w.heap[p.b]? := by
  obtain ⟨q, ob, h1, h2, h3, h4, h5⟩ := hR.live i x hx
  rw [hp] at h1; cases h1
  show (match E.K p.b with | some o => some o | none => _) = w.heap[p.b]?
  rw [h2]
  show (match E.F p.b with | some _ => none | none => _) = w.heap[p.b]?
  rw [h3]
  refine if_neg ?_
  rintro ⟨j, y, q, hy, hq, e⟩
  have := hR.inj j i y x q p (hs j y hy) hx hq hp e
  subst this
  rw [hn] at hy; simp at hy
theorem but_rel (hR : Rel E H w) (hs : ∀ i x, H2.get i = some x → H.get i = some x) (hn : H2.next = H.next) : Rel (E.but H2 w) H2 w := by
  refine ⟨hR.os, hR.out, fun B o hB => ?_, hR.F, fun B => ?_, fun i p hp => by rw [hn]; exact hR.dom i p hp, fun i x hi => ?_, fun i j x y p q hi hj => hR.inj i j x y p q (hs i x hi) (hs j y hj)⟩
  · have hB : (match E.K B with | some o => some o | none => match E.F B with | some _ => none | none => by classical exact if (∃ i x p, H2.get i = some x ∧ E.φ i = some p ∧ p.b = B) then none else w.heap[B]?) = some o := hB
    split at hB
    · rename_i o' h; cases hB; exact hR.K B o h
    · split at hB
      · simp at hB
      · split at hB
        · simp at hB
        · exact hB
  · cases hF : E.F B with
    | none => exact .inr hF
    | some o =>
      left
      rcases hR.KF B with e | e
      · show (match E.K B with | some o => some o | none => match E.F B with | some _ => none | none => _) = none
        rw [e, hF]
      · rw [hF] at e; simp at e
  · obtain ⟨p, ob, h1, h2, h3, h4, h5⟩ := hR.live i x (hs i x hi)
    exact ⟨p, ob, h1, but_live hR hs hi h1, h3, h4, h5.mono but_knows⟩
theorem but_ink (hR : Rel E H w) (hs : ∀ i x, H2.get i = some x → H.get i = some x) {i : Nat} {cs : List AV} {p : Place} (hi : H.get i = some (.cells cs)) (hn : H2.get i = none) (hp : E.φ i = some p) (o : Nat) :
    ∃ vs, InK (E.but H2 w) p.b (p.s + o) vs ∧ VRels E (cs.drop o) vs := by
  have hK := but_new hR hs hi hn hp
  obtain ⟨q, ob, h1, h2, h3, h4, c, e, fz, vs, rfl, _, h6, h7, _⟩ := hR.live i _ hi
  rw [hp] at h1; cases h1
  refine ⟨vs.drop o, .inr ⟨c, e, fz, hK.trans h4, ?_⟩, h6.drop o⟩
  obtain ⟨t, ht⟩ := h7
  rw [← List.drop_drop, ← ht]
  by_cases ho : o ≤ vs.length
  · rw [List.drop_append_of_le_length ho]; exact List.prefix_append _ _
  · rw [List.drop_of_length_le (by omega)]; exact List.nil_prefix
end
def offGet (g g2 : Nat → Option AObj) (i : Nat) : Option AObj := match g2 i with
  | some _ => none
  | none => g i
theorem Does.asFrozen {P : Program} {G : Nat → Option AV} {f : FuncId} {args rargs : List AV} {H H2 : AHeap} {Q : AV → AHeap → Prop} {n : Nat} (hs : ∀ i x, H2.get i = some x → H.get i = some x) (hn : H2.next = H.next)
    (hr : optAll (args.map (AV.res (offGet H.get H2.get) n)) = some rargs) (h : Does P G f rargs H2 Q) : Does P G f args H Q :=
  ⟨fun E w vs hR hG hv => by
    have hv2 : VRels (E.but H2 w) rargs vs := res_list (VRel.resG but_knows (fun i cs p hi hp o => by
      unfold offGet at hi
      split at hi
      · simp at hi
      · rename_i h2
        exact but_ink hR hs hi h2 hp o) n) hv hr
    refine (h.run (E.but H2 w) w vs (but_rel hR hs hn) (hG.mono but_knows) hv2).mono fun v w' ⟨r, H', E', g, e2, e3, e4⟩ => ?_
    exact ⟨r, H', E', g, but_ext.trans e2, e3, e4⟩⟩
def AV.refs (get : Nat → Option AObj) : Nat → AV → List Nat
  | 0, _ => []
  | n + 1, v => match v with
    | .ptr i o => match get i with
      | some (.cells cs) => i :: (cs.drop o).flatMap (AV.refs get n)
      | _ => []
    | .sl i o z len _ _ => match get i with
      | some (.cells cs) => i :: ((cs.drop o).take (len * z)).flatMap (AV.refs get n)
      | _ => []
    | .vptr cs => cs.flatMap (AV.refs get n)
    | .vsl cs _ => cs.flatMap (AV.refs get n)
    | .iface _ v => AV.refs get n v
    | .agg cs => cs.flatMap (AV.refs get n)
    | .tuple cs => cs.flatMap (AV.refs get n)
    | _ => []
noncomputable def killsK : List Nat → FH → (FH → Bool) → Bool :=
  fun l => List.rec (motive := fun _ => FH → (FH → Bool) → Bool) (fun H k => k H) (fun i _ ih H k => H.killK i (fun H => ih H k) false) l
theorem killsK_inv : ∀ {l : List Nat} {H : FH} {k : FH → Bool}, killsK l H k = true → ∃ H' : FH, (∀ i x, H'.abs.get i = some x → H.abs.get i = some x) ∧ H'.abs.next = H.abs.next ∧ k H' = true
  | [], H, k, h => ⟨H, fun _ _ h => h, rfl, h⟩
  | i :: l, H, k, h => by
    have h : H.killK i (fun H => killsK l H k) false = true := h
    obtain ⟨H1, h1, h2⟩ := FH.killK_inv h
    obtain ⟨H', h3, h4, h5⟩ := killsK_inv h2
    refine ⟨H', fun j x hj => ?_, by rw [h4, h1]; rfl, h5⟩
    have := h3 j x hj
    rw [h1] at this
    have this : (if j = i then none else H.abs.get j) = some x := this
    split at this
    · simp at this
    · exact this
noncomputable def resOv (tab : List (List AV × AV)) (args : List AV) (H : FH) (k : AV → FH → Bool) : Bool :=
  killsK (args.flatMap (AV.refs H.abs.get 1000)) H fun H2 => match optAll (args.map (AV.res (offGet H.abs.get H2.abs.get) 1000)) with
    | some rargs => litOv tab rargs H2 k
    | none => false
theorem resOv_good {P : Program} {G : Nat → Option AV} {f : FuncId} {tab : List (List AV × AV)} (ht : ∀ e ∈ tab, ∀ H, Does P G f e.1 H fun r h => r = e.2 ∧ h = H) (args : List AV) (H : FH) (k : AV → FH → Bool) (h : resOv tab args H k = true) :
    ∃ v H', Does P G f args H.abs (fun r h => r = v ∧ h = FH.abs H') ∧ H.next ≤ H'.next ∧ k v H' = true := by
  unfold resOv at h
  obtain ⟨H2, h1, h2, h⟩ := killsK_inv h
  split at h <;> try (simp at h; done)
  rename_i rargs hr
  obtain ⟨e, h3, rfl, h5⟩ := litOv_inv h
  exact ⟨e.2, H2, Does.asFrozen h1 h2 hr (ht e h3 _), Nat.le_of_eq h2.symm, h5⟩
end Go.Abs

namespace Go.Abs
open Go
attribute [simp] awanted ayield acallee aop aallocC alookup afind asame keyed atup amaplen amapput apure aval tput ofConst ofConst1 ofConsts abin aint2 ashift astr2 aeqIn aeqFields aun aconv aslice abounds abound afieldAddr afield aindexAddr aindex aextract alen acap amin amax abuild afill aplaces aagg apart' aread aat acut afirst alenOf abytes aalloc arep aeff aappend acopy aclear ares aresults aresult avals apairs aopt splice Region.isConst undefA isSeq
@[simp] theorem eff_same (H : AHeap) : H.eff .same = H := rfl
@[simp] theorem eff_put (H : AHeap) (i : Nat) (x : AObj) : H.eff (.put i x) = H.set i x := rfl
@[simp] theorem eff_new (H : AHeap) (x : AObj) : H.eff (.new x) = H.push x := rfl
@[simp] theorem eff_move (H : AHeap) (i : Nat) (x : AObj) : H.eff (.move i x) = (H.kill i).push x := rfl
@[simp] theorem scalar_bool (b : Bool) : (AV.bool b).scalar = true := rfl
@[simp] theorem scalar_int (k : IntKind) (n : Int) : (AV.int k n).scalar = true := rfl
@[simp] theorem scalar_str (s : List UInt8) : (AV.str s).scalar = true := rfl
@[simp] theorem scalar_nilptr : AV.nilptr.scalar = true := rfl
@[simp] theorem scalar_ptr (i o : Nat) : (AV.ptr i o).scalar = true := rfl
@[simp] theorem scalar_vptr (c : List AV) : (AV.vptr c).scalar = true := rfl
@[simp] theorem scalar_nilsl : AV.nilsl.scalar = true := rfl
@[simp] theorem scalar_sl (i o z l c : Nat) (b : Bool) : (AV.sl i o z l c b).scalar = true := rfl
@[simp] theorem scalar_vsl (c : List AV) (n : Nat) : (AV.vsl c n).scalar = true := rfl
@[simp] theorem scalar_nilmap : AV.nilmap.scalar = true := rfl
@[simp] theorem scalar_func (f : Fn) (a b : List AV) : (AV.func f a b).scalar = true := rfl
@[simp] theorem scalar_nilfunc : AV.nilfunc.scalar = true := rfl
@[simp] theorem scalar_iface (t : TypeId) (v : AV) : (AV.iface t v).scalar = true := rfl
@[simp] theorem scalar_niliface : AV.niliface.scalar = true := rfl
@[simp] theorem cells_agg (c : List AV) : (AV.agg c).cells = c := rfl
@[simp] theorem cells_bool (b : Bool) : (AV.bool b).cells = [.bool b] := rfl
@[simp] theorem cells_int (k : IntKind) (n : Int) : (AV.int k n).cells = [.int k n] := rfl
@[simp] theorem cells_str (s : List UInt8) : (AV.str s).cells = [.str s] := rfl
@[simp] theorem cells_nilptr : AV.nilptr.cells = [.nilptr] := rfl
@[simp] theorem cells_ptr (i o : Nat) : (AV.ptr i o).cells = [.ptr i o] := rfl
@[simp] theorem cells_vptr (c : List AV) : (AV.vptr c).cells = [.vptr c] := rfl
@[simp] theorem cells_nilsl : AV.nilsl.cells = [.nilsl] := rfl
@[simp] theorem cells_sl (i o z l c : Nat) (b : Bool) : (AV.sl i o z l c b).cells = [.sl i o z l c b] := rfl
@[simp] theorem cells_vsl (c : List AV) (n : Nat) : (AV.vsl c n).cells = [.vsl c n] := rfl
@[simp] theorem cells_nilmap : AV.nilmap.cells = [.nilmap] := rfl
@[simp] theorem cells_func (f : Fn) (a b : List AV) : (AV.func f a b).cells = [.func f a b] := rfl
@[simp] theorem cells_nilfunc : AV.nilfunc.cells = [.nilfunc] := rfl
@[simp] theorem cells_iface (t : TypeId) (v : AV) : (AV.iface t v).cells = [.iface t v] := rfl
@[simp] theorem cells_niliface : AV.niliface.cells = [.niliface] := rfl
@[simp] theorem cells_tuple (v : List AV) : (AV.tuple v).cells = [.tuple v] := rfl
theorem next_lt {H : AHeap} (hw : H.Wf) {i : Nat} {x : AObj} (h : H.get i = some x) : i < H.next := (hw i x h).1
@[simp] theorem push_set (H : AHeap) (x y : AObj) : (H.push x).set H.next y = H.push y := by
  refine AHeap.ext' rfl fun i => ?_
  simp only [AHeap.get_set, AHeap.get_push]
  split <;> rfl
@[simp] theorem set_set (H : AHeap) (i : Nat) (x y : AObj) : (H.set i x).set i y = H.set i y := AHeap.set_set H i x y
@[simp] theorem int_beq (a b : Int) : (a == b) = decide (a = b) := by
  rw [Bool.eq_iff_iff]; simp
end Go.Abs

namespace Go.Proofs
open Go Go.Abs
@[simp] theorem Tryz.asize0 : asize Tryz.prog 0 = some 1 := by kernel_rfl
@[simp] theorem Tryz.info0 : Tryz.prog.info? 0 = some Tryz.t0 := by kernel_rfl
@[simp] theorem Tryz.tsize0 : Tryz.t0.size = 1 := by kernel_rfl
@[simp] theorem Tryz.tbytes0 : Tryz.t0.bytes = 0 := by kernel_rfl
@[simp] theorem Tryz.builder0 : builderTy Tryz.prog 0 = false := by kernel_rfl
@[simp] theorem Tryz.azero0 : azero Tryz.prog 0 = some (.tuple []) := by kernel_rfl
@[simp] theorem Tryz.asize1 : asize Tryz.prog 1 = some 1 := by kernel_rfl
@[simp] theorem Tryz.info1 : Tryz.prog.info? 1 = some Tryz.t1 := by kernel_rfl
@[simp] theorem Tryz.tsize1 : Tryz.t1.size = 1 := by kernel_rfl
@[simp] theorem Tryz.tbytes1 : Tryz.t1.bytes = 8 := by kernel_rfl
@[simp] theorem Tryz.builder1 : builderTy Tryz.prog 1 = false := by kernel_rfl
@[simp] theorem Tryz.azero1 : azero Tryz.prog 1 = some (.nilfunc) := by kernel_rfl
@[simp] theorem Tryz.asize2 : asize Tryz.prog 2 = some 1 := by kernel_rfl
@[simp] theorem Tryz.info2 : Tryz.prog.info? 2 = some Tryz.t2 := by kernel_rfl
@[simp] theorem Tryz.tsize2 : Tryz.t2.size = 1 := by kernel_rfl
@[simp] theorem Tryz.tbytes2 : Tryz.t2.bytes = 8 := by kernel_rfl
@[simp] theorem Tryz.builder2 : builderTy Tryz.prog 2 = false := by kernel_rfl
@[simp] theorem Tryz.azero2 : azero Tryz.prog 2 = some (.int .i64 (0)) := by kernel_rfl
@[simp] theorem Tryz.asize3 : asize Tryz.prog 3 = some 1 := by kernel_rfl
@[simp] theorem Tryz.info3 : Tryz.prog.info? 3 = some Tryz.t3 := by kernel_rfl
@[simp] theorem Tryz.tsize3 : Tryz.t3.size = 1 := by kernel_rfl
@[simp] theorem Tryz.tbytes3 : Tryz.t3.bytes = 8 := by kernel_rfl
@[simp] theorem Tryz.builder3 : builderTy Tryz.prog 3 = false := by kernel_rfl
@[simp] theorem Tryz.azero3 : azero Tryz.prog 3 = some (.int .i64 (0)) := by kernel_rfl
@[simp] theorem Tryz.asize4 : asize Tryz.prog 4 = some 1 := by kernel_rfl
@[simp] theorem Tryz.info4 : Tryz.prog.info? 4 = some Tryz.t4 := by kernel_rfl
@[simp] theorem Tryz.tsize4 : Tryz.t4.size = 1 := by kernel_rfl
@[simp] theorem Tryz.tbytes4 : Tryz.t4.bytes = 1 := by kernel_rfl
@[simp] theorem Tryz.builder4 : builderTy Tryz.prog 4 = false := by kernel_rfl
@[simp] theorem Tryz.azero4 : azero Tryz.prog 4 = some (.bool false) := by kernel_rfl
@[simp] theorem Tryz.asize5 : asize Tryz.prog 5 = some 1 := by kernel_rfl
@[simp] theorem Tryz.info5 : Tryz.prog.info? 5 = some Tryz.t5 := by kernel_rfl
@[simp] theorem Tryz.tsize5 : Tryz.t5.size = 1 := by kernel_rfl
@[simp] theorem Tryz.tbytes5 : Tryz.t5.bytes = 1 := by kernel_rfl
@[simp] theorem Tryz.builder5 : builderTy Tryz.prog 5 = false := by kernel_rfl
@[simp] theorem Tryz.azero5 : azero Tryz.prog 5 = some (.int .u8 (0)) := by kernel_rfl
@[simp] theorem Tryz.asize6 : asize Tryz.prog 6 = some 1 := by kernel_rfl
@[simp] theorem Tryz.info6 : Tryz.prog.info? 6 = some Tryz.t6 := by kernel_rfl
@[simp] theorem Tryz.tsize6 : Tryz.t6.size = 1 := by kernel_rfl
@[simp] theorem Tryz.tbytes6 : Tryz.t6.bytes = 1 := by kernel_rfl
@[simp] theorem Tryz.builder6 : builderTy Tryz.prog 6 = false := by kernel_rfl
@[simp] theorem Tryz.azero6 : azero Tryz.prog 6 = some (.int .u8 (0)) := by kernel_rfl
@[simp] theorem Tryz.asize7 : asize Tryz.prog 7 = some 4 := by kernel_rfl
@[simp] theorem Tryz.info7 : Tryz.prog.info? 7 = some Tryz.t7 := by kernel_rfl
@[simp] theorem Tryz.tsize7 : Tryz.t7.size = 4 := by kernel_rfl
@[simp] theorem Tryz.tbytes7 : Tryz.t7.bytes = 24 := by kernel_rfl
@[simp] theorem Tryz.builder7 : builderTy Tryz.prog 7 = false := by kernel_rfl
@[simp] theorem Tryz.azero7 : azero Tryz.prog 7 = some (.agg [.int .i64 (0), .int .i64 (0), .bool false, .int .u8 (0)]) := by kernel_rfl
@[simp] theorem Tryz.asize8 : asize Tryz.prog 8 = some 4 := by kernel_rfl
@[simp] theorem Tryz.info8 : Tryz.prog.info? 8 = some Tryz.t8 := by kernel_rfl
@[simp] theorem Tryz.tsize8 : Tryz.t8.size = 4 := by kernel_rfl
@[simp] theorem Tryz.tbytes8 : Tryz.t8.bytes = 24 := by kernel_rfl
@[simp] theorem Tryz.builder8 : builderTy Tryz.prog 8 = false := by kernel_rfl
@[simp] theorem Tryz.azero8 : azero Tryz.prog 8 = some (.agg [.int .i64 (0), .int .i64 (0), .bool false, .int .u8 (0)]) := by kernel_rfl
@[simp] theorem Tryz.asize9 : asize Tryz.prog 9 = some 1 := by kernel_rfl
@[simp] theorem Tryz.info9 : Tryz.prog.info? 9 = some Tryz.t9 := by kernel_rfl
@[simp] theorem Tryz.tsize9 : Tryz.t9.size = 1 := by kernel_rfl
@[simp] theorem Tryz.tbytes9 : Tryz.t9.bytes = 16 := by kernel_rfl
@[simp] theorem Tryz.builder9 : builderTy Tryz.prog 9 = false := by kernel_rfl
@[simp] theorem Tryz.azero9 : azero Tryz.prog 9 = some (.str []) := by kernel_rfl
@[simp] theorem Tryz.asize10 : asize Tryz.prog 10 = some 1 := by kernel_rfl
@[simp] theorem Tryz.info10 : Tryz.prog.info? 10 = some Tryz.t10 := by kernel_rfl
@[simp] theorem Tryz.tsize10 : Tryz.t10.size = 1 := by kernel_rfl
@[simp] theorem Tryz.tbytes10 : Tryz.t10.bytes = 16 := by kernel_rfl
@[simp] theorem Tryz.builder10 : builderTy Tryz.prog 10 = false := by kernel_rfl
@[simp] theorem Tryz.azero10 : azero Tryz.prog 10 = some (.str []) := by kernel_rfl
@[simp] theorem Tryz.asize11 : asize Tryz.prog 11 = some 1 := by kernel_rfl
@[simp] theorem Tryz.info11 : Tryz.prog.info? 11 = some Tryz.t11 := by kernel_rfl
@[simp] theorem Tryz.tsize11 : Tryz.t11.size = 1 := by kernel_rfl
@[simp] theorem Tryz.tbytes11 : Tryz.t11.bytes = 16 := by kernel_rfl
@[simp] theorem Tryz.builder11 : builderTy Tryz.prog 11 = false := by kernel_rfl
@[simp] theorem Tryz.azero11 : azero Tryz.prog 11 = some (.str []) := by kernel_rfl
@[simp] theorem Tryz.asize12 : asize Tryz.prog 12 = some 1 := by kernel_rfl
@[simp] theorem Tryz.info12 : Tryz.prog.info? 12 = some Tryz.t12 := by kernel_rfl
@[simp] theorem Tryz.tsize12 : Tryz.t12.size = 1 := by kernel_rfl
@[simp] theorem Tryz.tbytes12 : Tryz.t12.bytes = 8 := by kernel_rfl
@[simp] theorem Tryz.builder12 : builderTy Tryz.prog 12 = false := by kernel_rfl
@[simp] theorem Tryz.azero12 : azero Tryz.prog 12 = some (.int .u64 (0)) := by kernel_rfl
@[simp] theorem Tryz.asize13 : asize Tryz.prog 13 = some 2 := by kernel_rfl
@[simp] theorem Tryz.info13 : Tryz.prog.info? 13 = some Tryz.t13 := by kernel_rfl
@[simp] theorem Tryz.tsize13 : Tryz.t13.size = 2 := by kernel_rfl
@[simp] theorem Tryz.tbytes13 : Tryz.t13.bytes = 24 := by kernel_rfl
@[simp] theorem Tryz.builder13 : builderTy Tryz.prog 13 = false := by kernel_rfl
@[simp] theorem Tryz.azero13 : azero Tryz.prog 13 = some (.agg [.str [], .int .u64 (0)]) := by kernel_rfl
@[simp] theorem Tryz.asize14 : asize Tryz.prog 14 = some 2 := by kernel_rfl
@[simp] theorem Tryz.info14 : Tryz.prog.info? 14 = some Tryz.t14 := by kernel_rfl
@[simp] theorem Tryz.tsize14 : Tryz.t14.size = 2 := by kernel_rfl
@[simp] theorem Tryz.tbytes14 : Tryz.t14.bytes = 24 := by kernel_rfl
@[simp] theorem Tryz.builder14 : builderTy Tryz.prog 14 = false := by kernel_rfl
@[simp] theorem Tryz.azero14 : azero Tryz.prog 14 = some (.agg [.str [], .int .u64 (0)]) := by kernel_rfl
@[simp] theorem Tryz.asize15 : asize Tryz.prog 15 = some 1 := by kernel_rfl
@[simp] theorem Tryz.info15 : Tryz.prog.info? 15 = some Tryz.t15 := by kernel_rfl
@[simp] theorem Tryz.tsize15 : Tryz.t15.size = 1 := by kernel_rfl
@[simp] theorem Tryz.tbytes15 : Tryz.t15.bytes = 8 := by kernel_rfl
@[simp] theorem Tryz.builder15 : builderTy Tryz.prog 15 = false := by kernel_rfl
@[simp] theorem Tryz.azero15 : azero Tryz.prog 15 = some (.nilptr) := by kernel_rfl
@[simp] theorem Tryz.asize16 : asize Tryz.prog 16 = some 1 := by kernel_rfl
@[simp] theorem Tryz.info16 : Tryz.prog.info? 16 = some Tryz.t16 := by kernel_rfl
@[simp] theorem Tryz.tsize16 : Tryz.t16.size = 1 := by kernel_rfl
@[simp] theorem Tryz.tbytes16 : Tryz.t16.bytes = 8 := by kernel_rfl
@[simp] theorem Tryz.builder16 : builderTy Tryz.prog 16 = false := by kernel_rfl
@[simp] theorem Tryz.azero16 : azero Tryz.prog 16 = some (.nilptr) := by kernel_rfl
@[simp] theorem Tryz.asize17 : asize Tryz.prog 17 = some 1 := by kernel_rfl
@[simp] theorem Tryz.info17 : Tryz.prog.info? 17 = some Tryz.t17 := by kernel_rfl
@[simp] theorem Tryz.tsize17 : Tryz.t17.size = 1 := by kernel_rfl
@[simp] theorem Tryz.tbytes17 : Tryz.t17.bytes = 8 := by kernel_rfl
@[simp] theorem Tryz.builder17 : builderTy Tryz.prog 17 = false := by kernel_rfl
@[simp] theorem Tryz.azero17 : azero Tryz.prog 17 = some (.nilptr) := by kernel_rfl
@[simp] theorem Tryz.asize18 : asize Tryz.prog 18 = some 1 := by kernel_rfl
@[simp] theorem Tryz.info18 : Tryz.prog.info? 18 = some Tryz.t18 := by kernel_rfl
@[simp] theorem Tryz.tsize18 : Tryz.t18.size = 1 := by kernel_rfl
@[simp] theorem Tryz.tbytes18 : Tryz.t18.bytes = 8 := by kernel_rfl
@[simp] theorem Tryz.builder18 : builderTy Tryz.prog 18 = false := by kernel_rfl
@[simp] theorem Tryz.azero18 : azero Tryz.prog 18 = some (.agg [.nilptr]) := by kernel_rfl
@[simp] theorem Tryz.asize19 : asize Tryz.prog 19 = some 1 := by kernel_rfl
@[simp] theorem Tryz.info19 : Tryz.prog.info? 19 = some Tryz.t19 := by kernel_rfl
@[simp] theorem Tryz.tsize19 : Tryz.t19.size = 1 := by kernel_rfl
@[simp] theorem Tryz.tbytes19 : Tryz.t19.bytes = 8 := by kernel_rfl
@[simp] theorem Tryz.builder19 : builderTy Tryz.prog 19 = false := by kernel_rfl
@[simp] theorem Tryz.azero19 : azero Tryz.prog 19 = some (.agg [.nilptr]) := by kernel_rfl
@[simp] theorem Tryz.asize20 : asize Tryz.prog 20 = some 1 := by kernel_rfl
@[simp] theorem Tryz.info20 : Tryz.prog.info? 20 = some Tryz.t20 := by kernel_rfl
@[simp] theorem Tryz.tsize20 : Tryz.t20.size = 1 := by kernel_rfl
@[simp] theorem Tryz.tbytes20 : Tryz.t20.bytes = 16 := by kernel_rfl
@[simp] theorem Tryz.builder20 : builderTy Tryz.prog 20 = false := by kernel_rfl
@[simp] theorem Tryz.azero20 : azero Tryz.prog 20 = some (.niliface) := by kernel_rfl
@[simp] theorem Tryz.asize21 : asize Tryz.prog 21 = some 1 := by kernel_rfl
@[simp] theorem Tryz.info21 : Tryz.prog.info? 21 = some Tryz.t21 := by kernel_rfl
@[simp] theorem Tryz.tsize21 : Tryz.t21.size = 1 := by kernel_rfl
@[simp] theorem Tryz.tbytes21 : Tryz.t21.bytes = 4 := by kernel_rfl
@[simp] theorem Tryz.builder21 : builderTy Tryz.prog 21 = false := by kernel_rfl
@[simp] theorem Tryz.azero21 : azero Tryz.prog 21 = some (.int .i32 (0)) := by kernel_rfl
@[simp] theorem Tryz.asize22 : asize Tryz.prog 22 = some 1 := by kernel_rfl
@[simp] theorem Tryz.info22 : Tryz.prog.info? 22 = some Tryz.t22 := by kernel_rfl
@[simp] theorem Tryz.tsize22 : Tryz.t22.size = 1 := by kernel_rfl
@[simp] theorem Tryz.tbytes22 : Tryz.t22.bytes = 8 := by kernel_rfl
@[simp] theorem Tryz.builder22 : builderTy Tryz.prog 22 = false := by kernel_rfl
@[simp] theorem Tryz.azero22 : azero Tryz.prog 22 = some (.nilfunc) := by kernel_rfl
@[simp] theorem Tryz.asize23 : asize Tryz.prog 23 = some 1 := by kernel_rfl
@[simp] theorem Tryz.info23 : Tryz.prog.info? 23 = some Tryz.t23 := by kernel_rfl
@[simp] theorem Tryz.tsize23 : Tryz.t23.size = 1 := by kernel_rfl
@[simp] theorem Tryz.tbytes23 : Tryz.t23.bytes = 8 := by kernel_rfl
@[simp] theorem Tryz.builder23 : builderTy Tryz.prog 23 = false := by kernel_rfl
@[simp] theorem Tryz.azero23 : azero Tryz.prog 23 = some (.nilptr) := by kernel_rfl
@[simp] theorem Tryz.asize24 : asize Tryz.prog 24 = some 1 := by kernel_rfl
@[simp] theorem Tryz.info24 : Tryz.prog.info? 24 = some Tryz.t24 := by kernel_rfl
@[simp] theorem Tryz.tsize24 : Tryz.t24.size = 1 := by kernel_rfl
@[simp] theorem Tryz.tbytes24 : Tryz.t24.bytes = 8 := by kernel_rfl
@[simp] theorem Tryz.builder24 : builderTy Tryz.prog 24 = false := by kernel_rfl
@[simp] theorem Tryz.azero24 : azero Tryz.prog 24 = some (.nilfunc) := by kernel_rfl
@[simp] theorem Tryz.asize25 : asize Tryz.prog 25 = some 1 := by kernel_rfl
@[simp] theorem Tryz.info25 : Tryz.prog.info? 25 = some Tryz.t25 := by kernel_rfl
@[simp] theorem Tryz.tsize25 : Tryz.t25.size = 1 := by kernel_rfl
@[simp] theorem Tryz.tbytes25 : Tryz.t25.bytes = 24 := by kernel_rfl
@[simp] theorem Tryz.builder25 : builderTy Tryz.prog 25 = false := by kernel_rfl
@[simp] theorem Tryz.azero25 : azero Tryz.prog 25 = some (.nilsl) := by kernel_rfl
@[simp] theorem Tryz.asize26 : asize Tryz.prog 26 = some 1 := by kernel_rfl
@[simp] theorem Tryz.info26 : Tryz.prog.info? 26 = some Tryz.t26 := by kernel_rfl
@[simp] theorem Tryz.tsize26 : Tryz.t26.size = 1 := by kernel_rfl
@[simp] theorem Tryz.tbytes26 : Tryz.t26.bytes = 24 := by kernel_rfl
@[simp] theorem Tryz.builder26 : builderTy Tryz.prog 26 = false := by kernel_rfl
@[simp] theorem Tryz.azero26 : azero Tryz.prog 26 = some (.nilsl) := by kernel_rfl
@[simp] theorem Tryz.asize27 : asize Tryz.prog 27 = some 1 := by kernel_rfl
@[simp] theorem Tryz.info27 : Tryz.prog.info? 27 = some Tryz.t27 := by kernel_rfl
@[simp] theorem Tryz.tsize27 : Tryz.t27.size = 1 := by kernel_rfl
@[simp] theorem Tryz.tbytes27 : Tryz.t27.bytes = 24 := by kernel_rfl
@[simp] theorem Tryz.builder27 : builderTy Tryz.prog 27 = false := by kernel_rfl
@[simp] theorem Tryz.azero27 : azero Tryz.prog 27 = some (.nilsl) := by kernel_rfl
@[simp] theorem Tryz.asize28 : asize Tryz.prog 28 = some 6 := by kernel_rfl
@[simp] theorem Tryz.info28 : Tryz.prog.info? 28 = some Tryz.t28 := by kernel_rfl
@[simp] theorem Tryz.tsize28 : Tryz.t28.size = 6 := by kernel_rfl
@[simp] theorem Tryz.tbytes28 : Tryz.t28.bytes = 144 := by kernel_rfl
@[simp] theorem Tryz.builder28 : builderTy Tryz.prog 28 = false := by kernel_rfl
@[simp] theorem Tryz.azero28 : azero Tryz.prog 28 = some (.agg [.nilsl, .nilsl, .nilsl, .nilsl, .nilsl, .nilsl]) := by kernel_rfl
@[simp] theorem Tryz.asize29 : asize Tryz.prog 29 = some 6 := by kernel_rfl
@[simp] theorem Tryz.info29 : Tryz.prog.info? 29 = some Tryz.t29 := by kernel_rfl
@[simp] theorem Tryz.tsize29 : Tryz.t29.size = 6 := by kernel_rfl
@[simp] theorem Tryz.tbytes29 : Tryz.t29.bytes = 144 := by kernel_rfl
@[simp] theorem Tryz.builder29 : builderTy Tryz.prog 29 = false := by kernel_rfl
@[simp] theorem Tryz.azero29 : azero Tryz.prog 29 = some (.agg [.nilsl, .nilsl, .nilsl, .nilsl, .nilsl, .nilsl]) := by kernel_rfl
@[simp] theorem Tryz.asize30 : asize Tryz.prog 30 = some 1 := by kernel_rfl
@[simp] theorem Tryz.info30 : Tryz.prog.info? 30 = some Tryz.t30 := by kernel_rfl
@[simp] theorem Tryz.tsize30 : Tryz.t30.size = 1 := by kernel_rfl
@[simp] theorem Tryz.tbytes30 : Tryz.t30.bytes = 8 := by kernel_rfl
@[simp] theorem Tryz.builder30 : builderTy Tryz.prog 30 = false := by kernel_rfl
@[simp] theorem Tryz.azero30 : azero Tryz.prog 30 = some (.nilfunc) := by kernel_rfl
@[simp] theorem Tryz.asize32 : asize Tryz.prog 32 = some 1 := by kernel_rfl
@[simp] theorem Tryz.info32 : Tryz.prog.info? 32 = some Tryz.t32 := by kernel_rfl
@[simp] theorem Tryz.tsize32 : Tryz.t32.size = 1 := by kernel_rfl
@[simp] theorem Tryz.tbytes32 : Tryz.t32.bytes = 8 := by kernel_rfl
@[simp] theorem Tryz.builder32 : builderTy Tryz.prog 32 = false := by kernel_rfl
@[simp] theorem Tryz.azero32 : azero Tryz.prog 32 = some (.nilptr) := by kernel_rfl
@[simp] theorem Tryz.asize33 : asize Tryz.prog 33 = some 1 := by kernel_rfl
@[simp] theorem Tryz.info33 : Tryz.prog.info? 33 = some Tryz.t33 := by kernel_rfl
@[simp] theorem Tryz.tsize33 : Tryz.t33.size = 1 := by kernel_rfl
@[simp] theorem Tryz.tbytes33 : Tryz.t33.bytes = 8 := by kernel_rfl
@[simp] theorem Tryz.builder33 : builderTy Tryz.prog 33 = false := by kernel_rfl
@[simp] theorem Tryz.azero33 : azero Tryz.prog 33 = some (.int .i64 (0)) := by kernel_rfl
@[simp] theorem Tryz.asize34 : asize Tryz.prog 34 = some 1 := by kernel_rfl
@[simp] theorem Tryz.info34 : Tryz.prog.info? 34 = some Tryz.t34 := by kernel_rfl
@[simp] theorem Tryz.tsize34 : Tryz.t34.size = 1 := by kernel_rfl
@[simp] theorem Tryz.tbytes34 : Tryz.t34.bytes = 0 := by kernel_rfl
@[simp] theorem Tryz.builder34 : builderTy Tryz.prog 34 = false := by kernel_rfl
@[simp] theorem Tryz.azero34 : azero Tryz.prog 34 = some (.tuple [.nilptr, .int .i64 (0)]) := by kernel_rfl
@[simp] theorem Tryz.asize36 : asize Tryz.prog 36 = some 1 := by kernel_rfl
@[simp] theorem Tryz.info36 : Tryz.prog.info? 36 = some Tryz.t36 := by kernel_rfl
@[simp] theorem Tryz.tsize36 : Tryz.t36.size = 1 := by kernel_rfl
@[simp] theorem Tryz.tbytes36 : Tryz.t36.bytes = 8 := by kernel_rfl
@[simp] theorem Tryz.builder36 : builderTy Tryz.prog 36 = false := by kernel_rfl
@[simp] theorem Tryz.azero36 : azero Tryz.prog 36 = some (.int .i64 (0)) := by kernel_rfl
@[simp] theorem Tryz.asize37 : asize Tryz.prog 37 = some 1 := by kernel_rfl
@[simp] theorem Tryz.info37 : Tryz.prog.info? 37 = some Tryz.t37 := by kernel_rfl
@[simp] theorem Tryz.tsize37 : Tryz.t37.size = 1 := by kernel_rfl
@[simp] theorem Tryz.tbytes37 : Tryz.t37.bytes = 24 := by kernel_rfl
@[simp] theorem Tryz.builder37 : builderTy Tryz.prog 37 = false := by kernel_rfl
@[simp] theorem Tryz.azero37 : azero Tryz.prog 37 = some (.nilsl) := by kernel_rfl
@[simp] theorem Tryz.asize38 : asize Tryz.prog 38 = some 1 := by kernel_rfl
@[simp] theorem Tryz.info38 : Tryz.prog.info? 38 = some Tryz.t38 := by kernel_rfl
@[simp] theorem Tryz.tsize38 : Tryz.t38.size = 1 := by kernel_rfl
@[simp] theorem Tryz.tbytes38 : Tryz.t38.bytes = 0 := by kernel_rfl
@[simp] theorem Tryz.builder38 : builderTy Tryz.prog 38 = false := by kernel_rfl
@[simp] theorem Tryz.azero38 : azero Tryz.prog 38 = some (.tuple [.nilsl, .int .i64 (0)]) := by kernel_rfl
@[simp] theorem Tryz.asize40 : asize Tryz.prog 40 = some 1 := by kernel_rfl
@[simp] theorem Tryz.info40 : Tryz.prog.info? 40 = some Tryz.t40 := by kernel_rfl
@[simp] theorem Tryz.tsize40 : Tryz.t40.size = 1 := by kernel_rfl
@[simp] theorem Tryz.tbytes40 : Tryz.t40.bytes = 8 := by kernel_rfl
@[simp] theorem Tryz.builder40 : builderTy Tryz.prog 40 = false := by kernel_rfl
@[simp] theorem Tryz.azero40 : azero Tryz.prog 40 = some (.int .u64 (0)) := by kernel_rfl
@[simp] theorem Tryz.asize41 : asize Tryz.prog 41 = some 1 := by kernel_rfl
@[simp] theorem Tryz.info41 : Tryz.prog.info? 41 = some Tryz.t41 := by kernel_rfl
@[simp] theorem Tryz.tsize41 : Tryz.t41.size = 1 := by kernel_rfl
@[simp] theorem Tryz.tbytes41 : Tryz.t41.bytes = 24 := by kernel_rfl
@[simp] theorem Tryz.builder41 : builderTy Tryz.prog 41 = false := by kernel_rfl
@[simp] theorem Tryz.azero41 : azero Tryz.prog 41 = some (.nilsl) := by kernel_rfl
@[simp] theorem Tryz.asize43 : asize Tryz.prog 43 = some 1 := by kernel_rfl
@[simp] theorem Tryz.info43 : Tryz.prog.info? 43 = some Tryz.t43 := by kernel_rfl
@[simp] theorem Tryz.tsize43 : Tryz.t43.size = 1 := by kernel_rfl
@[simp] theorem Tryz.tbytes43 : Tryz.t43.bytes = 24 := by kernel_rfl
@[simp] theorem Tryz.builder43 : builderTy Tryz.prog 43 = false := by kernel_rfl
@[simp] theorem Tryz.azero43 : azero Tryz.prog 43 = some (.nilsl) := by kernel_rfl
@[simp] theorem Tryz.asize44 : asize Tryz.prog 44 = some 32 := by kernel_rfl
@[simp] theorem Tryz.info44 : Tryz.prog.info? 44 = some Tryz.t44 := by kernel_rfl
@[simp] theorem Tryz.tsize44 : Tryz.t44.size = 32 := by kernel_rfl
@[simp] theorem Tryz.tbytes44 : Tryz.t44.bytes = 32 := by kernel_rfl
@[simp] theorem Tryz.builder44 : builderTy Tryz.prog 44 = false := by kernel_rfl
@[simp] theorem Tryz.azero44 : azero Tryz.prog 44 = some (.agg [.int .u8 (0), .int .u8 (0), .int .u8 (0), .int .u8 (0), .int .u8 (0), .int .u8 (0), .int .u8 (0), .int .u8 (0), .int .u8 (0), .int .u8 (0), .int .u8 (0), .int .u8 (0), .int .u8 (0), .int .u8 (0), .int .u8 (0), .int .u8 (0), .int .u8 (0), .int .u8 (0), .int .u8 (0), .int .u8 (0), .int .u8 (0), .int .u8 (0), .int .u8 (0), .int .u8 (0), .int .u8 (0), .int .u8 (0), .int .u8 (0), .int .u8 (0), .int .u8 (0), .int .u8 (0), .int .u8 (0), .int .u8 (0)]) := by kernel_rfl
@[simp] theorem Tryz.asize45 : asize Tryz.prog 45 = some 1 := by kernel_rfl
@[simp] theorem Tryz.info45 : Tryz.prog.info? 45 = some Tryz.t45 := by kernel_rfl
@[simp] theorem Tryz.tsize45 : Tryz.t45.size = 1 := by kernel_rfl
@[simp] theorem Tryz.tbytes45 : Tryz.t45.bytes = 0 := by kernel_rfl
@[simp] theorem Tryz.builder45 : builderTy Tryz.prog 45 = false := by kernel_rfl
@[simp] theorem Tryz.asize48 : asize Tryz.prog 48 = some 1 := by kernel_rfl
@[simp] theorem Tryz.info48 : Tryz.prog.info? 48 = some Tryz.t48 := by kernel_rfl
@[simp] theorem Tryz.tsize48 : Tryz.t48.size = 1 := by kernel_rfl
@[simp] theorem Tryz.tbytes48 : Tryz.t48.bytes = 8 := by kernel_rfl
@[simp] theorem Tryz.builder48 : builderTy Tryz.prog 48 = false := by kernel_rfl
@[simp] theorem Tryz.azero48 : azero Tryz.prog 48 = some (.nilfunc) := by kernel_rfl
@[simp] theorem Tryz.asize50 : asize Tryz.prog 50 = some 1 := by kernel_rfl
@[simp] theorem Tryz.info50 : Tryz.prog.info? 50 = some Tryz.t50 := by kernel_rfl
@[simp] theorem Tryz.tsize50 : Tryz.t50.size = 1 := by kernel_rfl
@[simp] theorem Tryz.tbytes50 : Tryz.t50.bytes = 24 := by kernel_rfl
@[simp] theorem Tryz.builder50 : builderTy Tryz.prog 50 = false := by kernel_rfl
@[simp] theorem Tryz.azero50 : azero Tryz.prog 50 = some (.nilsl) := by kernel_rfl
@[simp] theorem Tryz.asize52 : asize Tryz.prog 52 = some 1 := by kernel_rfl
@[simp] theorem Tryz.info52 : Tryz.prog.info? 52 = some Tryz.t52 := by kernel_rfl
@[simp] theorem Tryz.tsize52 : Tryz.t52.size = 1 := by kernel_rfl
@[simp] theorem Tryz.tbytes52 : Tryz.t52.bytes = 24 := by kernel_rfl
@[simp] theorem Tryz.builder52 : builderTy Tryz.prog 52 = false := by kernel_rfl
@[simp] theorem Tryz.azero52 : azero Tryz.prog 52 = some (.nilsl) := by kernel_rfl
@[simp] theorem Tryz.asize54 : asize Tryz.prog 54 = some 3 := by kernel_rfl
@[simp] theorem Tryz.info54 : Tryz.prog.info? 54 = some Tryz.t54 := by kernel_rfl
@[simp] theorem Tryz.tsize54 : Tryz.t54.size = 3 := by kernel_rfl
@[simp] theorem Tryz.tbytes54 : Tryz.t54.bytes = 40 := by kernel_rfl
@[simp] theorem Tryz.builder54 : builderTy Tryz.prog 54 = false := by kernel_rfl
@[simp] theorem Tryz.azero54 : azero Tryz.prog 54 = some (.agg [.int .i64 (0), .int .u64 (0), .nilsl]) := by kernel_rfl
@[simp] theorem Tryz.asize55 : asize Tryz.prog 55 = some 3 := by kernel_rfl
@[simp] theorem Tryz.info55 : Tryz.prog.info? 55 = some Tryz.t55 := by kernel_rfl
@[simp] theorem Tryz.tsize55 : Tryz.t55.size = 3 := by kernel_rfl
@[simp] theorem Tryz.tbytes55 : Tryz.t55.bytes = 40 := by kernel_rfl
@[simp] theorem Tryz.builder55 : builderTy Tryz.prog 55 = false := by kernel_rfl
@[simp] theorem Tryz.azero55 : azero Tryz.prog 55 = some (.agg [.int .i64 (0), .int .u64 (0), .nilsl]) := by kernel_rfl
@[simp] theorem Tryz.asize56 : asize Tryz.prog 56 = some 1 := by kernel_rfl
@[simp] theorem Tryz.info56 : Tryz.prog.info? 56 = some Tryz.t56 := by kernel_rfl
@[simp] theorem Tryz.tsize56 : Tryz.t56.size = 1 := by kernel_rfl
@[simp] theorem Tryz.tbytes56 : Tryz.t56.bytes = 8 := by kernel_rfl
@[simp] theorem Tryz.builder56 : builderTy Tryz.prog 56 = false := by kernel_rfl
@[simp] theorem Tryz.azero56 : azero Tryz.prog 56 = some (.nilfunc) := by kernel_rfl
@[simp] theorem Tryz.asize57 : asize Tryz.prog 57 = some 3 := by kernel_rfl
@[simp] theorem Tryz.info57 : Tryz.prog.info? 57 = some Tryz.t57 := by kernel_rfl
@[simp] theorem Tryz.tsize57 : Tryz.t57.size = 3 := by kernel_rfl
@[simp] theorem Tryz.tbytes57 : Tryz.t57.bytes = 40 := by kernel_rfl
@[simp] theorem Tryz.builder57 : builderTy Tryz.prog 57 = false := by kernel_rfl
@[simp] theorem Tryz.azero57 : azero Tryz.prog 57 = some (.agg [.int .u64 (0), .int .u64 (0), .nilsl]) := by kernel_rfl
@[simp] theorem Tryz.asize58 : asize Tryz.prog 58 = some 3 := by kernel_rfl
@[simp] theorem Tryz.info58 : Tryz.prog.info? 58 = some Tryz.t58 := by kernel_rfl
@[simp] theorem Tryz.tsize58 : Tryz.t58.size = 3 := by kernel_rfl
@[simp] theorem Tryz.tbytes58 : Tryz.t58.bytes = 40 := by kernel_rfl
@[simp] theorem Tryz.builder58 : builderTy Tryz.prog 58 = false := by kernel_rfl
@[simp] theorem Tryz.azero58 : azero Tryz.prog 58 = some (.agg [.int .u64 (0), .int .u64 (0), .nilsl]) := by kernel_rfl
@[simp] theorem Tryz.asize61 : asize Tryz.prog 61 = some 9 := by kernel_rfl
@[simp] theorem Tryz.info61 : Tryz.prog.info? 61 = some Tryz.t61 := by kernel_rfl
@[simp] theorem Tryz.tsize61 : Tryz.t61.size = 9 := by kernel_rfl
@[simp] theorem Tryz.tbytes61 : Tryz.t61.bytes = 168 := by kernel_rfl
@[simp] theorem Tryz.builder61 : builderTy Tryz.prog 61 = false := by kernel_rfl
@[simp] theorem Tryz.azero61 : azero Tryz.prog 61 = some (.agg [.nilsl, .nilsl, .bool false, .nilsl, .nilsl, .bool false, .nilsl, .nilsl, .bool false]) := by kernel_rfl
@[simp] theorem Tryz.asize62 : asize Tryz.prog 62 = some 13 := by kernel_rfl
@[simp] theorem Tryz.info62 : Tryz.prog.info? 62 = some Tryz.t62 := by kernel_rfl
@[simp] theorem Tryz.tsize62 : Tryz.t62.size = 13 := by kernel_rfl
@[simp] theorem Tryz.tbytes62 : Tryz.t62.bytes = 192 := by kernel_rfl
@[simp] theorem Tryz.builder62 : builderTy Tryz.prog 62 = false := by kernel_rfl
@[simp] theorem Tryz.azero62 : azero Tryz.prog 62 = some (.agg [.nilsl, .nilsl, .bool false, .nilsl, .nilsl, .bool false, .nilsl, .nilsl, .bool false, .bool false, .bool false, .int .i64 (0), .int .i64 (0)]) := by kernel_rfl
@[simp] theorem Tryz.asize63 : asize Tryz.prog 63 = some 13 := by kernel_rfl
@[simp] theorem Tryz.info63 : Tryz.prog.info? 63 = some Tryz.t63 := by kernel_rfl
@[simp] theorem Tryz.tsize63 : Tryz.t63.size = 13 := by kernel_rfl
@[simp] theorem Tryz.tbytes63 : Tryz.t63.bytes = 192 := by kernel_rfl
@[simp] theorem Tryz.builder63 : builderTy Tryz.prog 63 = false := by kernel_rfl
@[simp] theorem Tryz.azero63 : azero Tryz.prog 63 = some (.agg [.nilsl, .nilsl, .bool false, .nilsl, .nilsl, .bool false, .nilsl, .nilsl, .bool false, .bool false, .bool false, .int .i64 (0), .int .i64 (0)]) := by kernel_rfl
@[simp] theorem Tryz.asize64 : asize Tryz.prog 64 = some 2 := by kernel_rfl
@[simp] theorem Tryz.info64 : Tryz.prog.info? 64 = some Tryz.t64 := by kernel_rfl
@[simp] theorem Tryz.tsize64 : Tryz.t64.size = 2 := by kernel_rfl
@[simp] theorem Tryz.tbytes64 : Tryz.t64.bytes = 16 := by kernel_rfl
@[simp] theorem Tryz.builder64 : builderTy Tryz.prog 64 = false := by kernel_rfl
@[simp] theorem Tryz.azero64 : azero Tryz.prog 64 = some (.agg [.int .i64 (0), .int .i64 (0)]) := by kernel_rfl
@[simp] theorem Tryz.asize65 : asize Tryz.prog 65 = some 2 := by kernel_rfl
@[simp] theorem Tryz.info65 : Tryz.prog.info? 65 = some Tryz.t65 := by kernel_rfl
@[simp] theorem Tryz.tsize65 : Tryz.t65.size = 2 := by kernel_rfl
@[simp] theorem Tryz.tbytes65 : Tryz.t65.bytes = 16 := by kernel_rfl
@[simp] theorem Tryz.builder65 : builderTy Tryz.prog 65 = false := by kernel_rfl
@[simp] theorem Tryz.azero65 : azero Tryz.prog 65 = some (.agg [.int .i64 (0), .int .i64 (0)]) := by kernel_rfl
@[simp] theorem Tryz.asize68 : asize Tryz.prog 68 = some 1 := by kernel_rfl
@[simp] theorem Tryz.info68 : Tryz.prog.info? 68 = some Tryz.t68 := by kernel_rfl
@[simp] theorem Tryz.tsize68 : Tryz.t68.size = 1 := by kernel_rfl
@[simp] theorem Tryz.tbytes68 : Tryz.t68.bytes = 8 := by kernel_rfl
@[simp] theorem Tryz.builder68 : builderTy Tryz.prog 68 = false := by kernel_rfl
@[simp] theorem Tryz.azero68 : azero Tryz.prog 68 = some (.nilptr) := by kernel_rfl
@[simp] theorem Tryz.asize71 : asize Tryz.prog 71 = some 1 := by kernel_rfl
@[simp] theorem Tryz.info71 : Tryz.prog.info? 71 = some Tryz.t71 := by kernel_rfl
@[simp] theorem Tryz.tsize71 : Tryz.t71.size = 1 := by kernel_rfl
@[simp] theorem Tryz.tbytes71 : Tryz.t71.bytes = 8 := by kernel_rfl
@[simp] theorem Tryz.builder71 : builderTy Tryz.prog 71 = false := by kernel_rfl
@[simp] theorem Tryz.azero71 : azero Tryz.prog 71 = some (.nilptr) := by kernel_rfl
@[simp] theorem Tryz.asize72 : asize Tryz.prog 72 = some 1 := by kernel_rfl
@[simp] theorem Tryz.info72 : Tryz.prog.info? 72 = some Tryz.t72 := by kernel_rfl
@[simp] theorem Tryz.tsize72 : Tryz.t72.size = 1 := by kernel_rfl
@[simp] theorem Tryz.tbytes72 : Tryz.t72.bytes = 0 := by kernel_rfl
@[simp] theorem Tryz.builder72 : builderTy Tryz.prog 72 = false := by kernel_rfl
@[simp] theorem Tryz.azero72 : azero Tryz.prog 72 = some (.tuple [.nilptr, .int .i64 (0)]) := by kernel_rfl
@[simp] theorem Tryz.asize74 : asize Tryz.prog 74 = some 1 := by kernel_rfl
@[simp] theorem Tryz.info74 : Tryz.prog.info? 74 = some Tryz.t74 := by kernel_rfl
@[simp] theorem Tryz.tsize74 : Tryz.t74.size = 1 := by kernel_rfl
@[simp] theorem Tryz.tbytes74 : Tryz.t74.bytes = 8 := by kernel_rfl
@[simp] theorem Tryz.builder74 : builderTy Tryz.prog 74 = false := by kernel_rfl
@[simp] theorem Tryz.azero74 : azero Tryz.prog 74 = some (.nilptr) := by kernel_rfl
@[simp] theorem Tryz.asize80 : asize Tryz.prog 80 = some 1 := by kernel_rfl
@[simp] theorem Tryz.info80 : Tryz.prog.info? 80 = some Tryz.t80 := by kernel_rfl
@[simp] theorem Tryz.tsize80 : Tryz.t80.size = 1 := by kernel_rfl
@[simp] theorem Tryz.tbytes80 : Tryz.t80.bytes = 8 := by kernel_rfl
@[simp] theorem Tryz.builder80 : builderTy Tryz.prog 80 = false := by kernel_rfl
@[simp] theorem Tryz.azero80 : azero Tryz.prog 80 = some (.nilfunc) := by kernel_rfl
@[simp] theorem Tryz.asize82 : asize Tryz.prog 82 = some 1 := by kernel_rfl
@[simp] theorem Tryz.info82 : Tryz.prog.info? 82 = some Tryz.t82 := by kernel_rfl
@[simp] theorem Tryz.tsize82 : Tryz.t82.size = 1 := by kernel_rfl
@[simp] theorem Tryz.tbytes82 : Tryz.t82.bytes = 24 := by kernel_rfl
@[simp] theorem Tryz.builder82 : builderTy Tryz.prog 82 = false := by kernel_rfl
@[simp] theorem Tryz.azero82 : azero Tryz.prog 82 = some (.nilsl) := by kernel_rfl
@[simp] theorem Tryz.asize83 : asize Tryz.prog 83 = some 14 := by kernel_rfl
@[simp] theorem Tryz.info83 : Tryz.prog.info? 83 = some Tryz.t83 := by kernel_rfl
@[simp] theorem Tryz.tsize83 : Tryz.t83.size = 14 := by kernel_rfl
@[simp] theorem Tryz.tbytes83 : Tryz.t83.bytes = 176 := by kernel_rfl
@[simp] theorem Tryz.builder83 : builderTy Tryz.prog 83 = false := by kernel_rfl
@[simp] theorem Tryz.azero83 : azero Tryz.prog 83 = some (.agg [.nilptr, .nilptr, .nilptr, .nilptr, .nilsl, .int .u64 (0), .int .i64 (0), .int .i64 (0), .int .i64 (0), .nilsl, .nilsl, .nilsl, .int .i64 (0), .bool false]) := by kernel_rfl
@[simp] theorem Tryz.asize84 : asize Tryz.prog 84 = some 14 := by kernel_rfl
@[simp] theorem Tryz.info84 : Tryz.prog.info? 84 = some Tryz.t84 := by kernel_rfl
@[simp] theorem Tryz.tsize84 : Tryz.t84.size = 14 := by kernel_rfl
@[simp] theorem Tryz.tbytes84 : Tryz.t84.bytes = 176 := by kernel_rfl
@[simp] theorem Tryz.builder84 : builderTy Tryz.prog 84 = false := by kernel_rfl
@[simp] theorem Tryz.azero84 : azero Tryz.prog 84 = some (.agg [.nilptr, .nilptr, .nilptr, .nilptr, .nilsl, .int .u64 (0), .int .i64 (0), .int .i64 (0), .int .i64 (0), .nilsl, .nilsl, .nilsl, .int .i64 (0), .bool false]) := by kernel_rfl
@[simp] theorem Tryz.asize85 : asize Tryz.prog 85 = some 1 := by kernel_rfl
@[simp] theorem Tryz.info85 : Tryz.prog.info? 85 = some Tryz.t85 := by kernel_rfl
@[simp] theorem Tryz.tsize85 : Tryz.t85.size = 1 := by kernel_rfl
@[simp] theorem Tryz.tbytes85 : Tryz.t85.bytes = 24 := by kernel_rfl
@[simp] theorem Tryz.builder85 : builderTy Tryz.prog 85 = false := by kernel_rfl
@[simp] theorem Tryz.azero85 : azero Tryz.prog 85 = some (.nilsl) := by kernel_rfl
@[simp] theorem Tryz.asize88 : asize Tryz.prog 88 = some 1 := by kernel_rfl
@[simp] theorem Tryz.info88 : Tryz.prog.info? 88 = some Tryz.t88 := by kernel_rfl
@[simp] theorem Tryz.tsize88 : Tryz.t88.size = 1 := by kernel_rfl
@[simp] theorem Tryz.tbytes88 : Tryz.t88.bytes = 8 := by kernel_rfl
@[simp] theorem Tryz.builder88 : builderTy Tryz.prog 88 = false := by kernel_rfl
@[simp] theorem Tryz.azero88 : azero Tryz.prog 88 = some (.nilfunc) := by kernel_rfl
@[simp] theorem Tryz.asize94 : asize Tryz.prog 94 = some 2 := by kernel_rfl
@[simp] theorem Tryz.info94 : Tryz.prog.info? 94 = some Tryz.t94 := by kernel_rfl
@[simp] theorem Tryz.tsize94 : Tryz.t94.size = 2 := by kernel_rfl
@[simp] theorem Tryz.tbytes94 : Tryz.t94.bytes = 48 := by kernel_rfl
@[simp] theorem Tryz.builder94 : builderTy Tryz.prog 94 = false := by kernel_rfl
@[simp] theorem Tryz.azero94 : azero Tryz.prog 94 = some (.agg [.nilsl, .nilsl]) := by kernel_rfl
@[simp] theorem Tryz.asize95 : asize Tryz.prog 95 = some 2 := by kernel_rfl
@[simp] theorem Tryz.info95 : Tryz.prog.info? 95 = some Tryz.t95 := by kernel_rfl
@[simp] theorem Tryz.tsize95 : Tryz.t95.size = 2 := by kernel_rfl
@[simp] theorem Tryz.tbytes95 : Tryz.t95.bytes = 48 := by kernel_rfl
@[simp] theorem Tryz.builder95 : builderTy Tryz.prog 95 = false := by kernel_rfl
@[simp] theorem Tryz.azero95 : azero Tryz.prog 95 = some (.agg [.nilsl, .nilsl]) := by kernel_rfl
@[simp] theorem Tryz.asize96 : asize Tryz.prog 96 = some 1 := by kernel_rfl
@[simp] theorem Tryz.info96 : Tryz.prog.info? 96 = some Tryz.t96 := by kernel_rfl
@[simp] theorem Tryz.tsize96 : Tryz.t96.size = 1 := by kernel_rfl
@[simp] theorem Tryz.tbytes96 : Tryz.t96.bytes = 8 := by kernel_rfl
@[simp] theorem Tryz.builder96 : builderTy Tryz.prog 96 = false := by kernel_rfl
@[simp] theorem Tryz.azero96 : azero Tryz.prog 96 = some (.nilfunc) := by kernel_rfl
@[simp] theorem Tryz.asize97 : asize Tryz.prog 97 = some 9 := by kernel_rfl
@[simp] theorem Tryz.info97 : Tryz.prog.info? 97 = some Tryz.t97 := by kernel_rfl
@[simp] theorem Tryz.tsize97 : Tryz.t97.size = 9 := by kernel_rfl
@[simp] theorem Tryz.tbytes97 : Tryz.t97.bytes = 104 := by kernel_rfl
@[simp] theorem Tryz.builder97 : builderTy Tryz.prog 97 = false := by kernel_rfl
@[simp] theorem Tryz.azero97 : azero Tryz.prog 97 = some (.agg [.int .i64 (0), .int .i64 (0), .int .i64 (0), .int .u64 (0), .int .u64 (0), .int .u64 (0), .int .u64 (0), .nilsl, .nilsl]) := by kernel_rfl
@[simp] theorem Tryz.asize98 : asize Tryz.prog 98 = some 9 := by kernel_rfl
@[simp] theorem Tryz.info98 : Tryz.prog.info? 98 = some Tryz.t98 := by kernel_rfl
@[simp] theorem Tryz.tsize98 : Tryz.t98.size = 9 := by kernel_rfl
@[simp] theorem Tryz.tbytes98 : Tryz.t98.bytes = 104 := by kernel_rfl
@[simp] theorem Tryz.builder98 : builderTy Tryz.prog 98 = false := by kernel_rfl
@[simp] theorem Tryz.azero98 : azero Tryz.prog 98 = some (.agg [.int .i64 (0), .int .i64 (0), .int .i64 (0), .int .u64 (0), .int .u64 (0), .int .u64 (0), .int .u64 (0), .nilsl, .nilsl]) := by kernel_rfl
@[simp] theorem Tryz.asize102 : asize Tryz.prog 102 = some 1 := by kernel_rfl
@[simp] theorem Tryz.info102 : Tryz.prog.info? 102 = some Tryz.t102 := by kernel_rfl
@[simp] theorem Tryz.tsize102 : Tryz.t102.size = 1 := by kernel_rfl
@[simp] theorem Tryz.tbytes102 : Tryz.t102.bytes = 24 := by kernel_rfl
@[simp] theorem Tryz.builder102 : builderTy Tryz.prog 102 = false := by kernel_rfl
@[simp] theorem Tryz.azero102 : azero Tryz.prog 102 = some (.nilsl) := by kernel_rfl
@[simp] theorem Tryz.asize107 : asize Tryz.prog 107 = some 1 := by kernel_rfl
@[simp] theorem Tryz.info107 : Tryz.prog.info? 107 = some Tryz.t107 := by kernel_rfl
@[simp] theorem Tryz.tsize107 : Tryz.t107.size = 1 := by kernel_rfl
@[simp] theorem Tryz.tbytes107 : Tryz.t107.bytes = 24 := by kernel_rfl
@[simp] theorem Tryz.builder107 : builderTy Tryz.prog 107 = false := by kernel_rfl
@[simp] theorem Tryz.azero107 : azero Tryz.prog 107 = some (.nilsl) := by kernel_rfl
@[simp] theorem Tryz.asize110 : asize Tryz.prog 110 = some 1 := by kernel_rfl
@[simp] theorem Tryz.info110 : Tryz.prog.info? 110 = some Tryz.t110 := by kernel_rfl
@[simp] theorem Tryz.tsize110 : Tryz.t110.size = 1 := by kernel_rfl
@[simp] theorem Tryz.tbytes110 : Tryz.t110.bytes = 24 := by kernel_rfl
@[simp] theorem Tryz.builder110 : builderTy Tryz.prog 110 = false := by kernel_rfl
@[simp] theorem Tryz.azero110 : azero Tryz.prog 110 = some (.nilsl) := by kernel_rfl
@[simp] theorem Tryz.asize111 : asize Tryz.prog 111 = some 1 := by kernel_rfl
@[simp] theorem Tryz.info111 : Tryz.prog.info? 111 = some Tryz.t111 := by kernel_rfl
@[simp] theorem Tryz.tsize111 : Tryz.t111.size = 1 := by kernel_rfl
@[simp] theorem Tryz.tbytes111 : Tryz.t111.bytes = 24 := by kernel_rfl
@[simp] theorem Tryz.builder111 : builderTy Tryz.prog 111 = false := by kernel_rfl
@[simp] theorem Tryz.azero111 : azero Tryz.prog 111 = some (.nilsl) := by kernel_rfl
@[simp] theorem Tryz.asize112 : asize Tryz.prog 112 = some 6 := by kernel_rfl
@[simp] theorem Tryz.info112 : Tryz.prog.info? 112 = some Tryz.t112 := by kernel_rfl
@[simp] theorem Tryz.tsize112 : Tryz.t112.size = 6 := by kernel_rfl
@[simp] theorem Tryz.tbytes112 : Tryz.t112.bytes = 120 := by kernel_rfl
@[simp] theorem Tryz.builder112 : builderTy Tryz.prog 112 = false := by kernel_rfl
@[simp] theorem Tryz.azero112 : azero Tryz.prog 112 = some (.agg [.str [], .nilsl, .nilsl, .nilsl, .nilsl, .int .i64 (0)]) := by kernel_rfl
@[simp] theorem Tryz.asize113 : asize Tryz.prog 113 = some 6 := by kernel_rfl
@[simp] theorem Tryz.info113 : Tryz.prog.info? 113 = some Tryz.t113 := by kernel_rfl
@[simp] theorem Tryz.tsize113 : Tryz.t113.size = 6 := by kernel_rfl
@[simp] theorem Tryz.tbytes113 : Tryz.t113.bytes = 120 := by kernel_rfl
@[simp] theorem Tryz.builder113 : builderTy Tryz.prog 113 = false := by kernel_rfl
@[simp] theorem Tryz.azero113 : azero Tryz.prog 113 = some (.agg [.str [], .nilsl, .nilsl, .nilsl, .nilsl, .int .i64 (0)]) := by kernel_rfl
@[simp] theorem Tryz.asize118 : asize Tryz.prog 118 = some 1 := by kernel_rfl
@[simp] theorem Tryz.info118 : Tryz.prog.info? 118 = some Tryz.t118 := by kernel_rfl
@[simp] theorem Tryz.tsize118 : Tryz.t118.size = 1 := by kernel_rfl
@[simp] theorem Tryz.tbytes118 : Tryz.t118.bytes = 8 := by kernel_rfl
@[simp] theorem Tryz.builder118 : builderTy Tryz.prog 118 = false := by kernel_rfl
@[simp] theorem Tryz.azero118 : azero Tryz.prog 118 = some (.nilmap) := by kernel_rfl
@[simp] theorem Tryz.asize119 : asize Tryz.prog 119 = some 1 := by kernel_rfl
@[simp] theorem Tryz.info119 : Tryz.prog.info? 119 = some Tryz.t119 := by kernel_rfl
@[simp] theorem Tryz.tsize119 : Tryz.t119.size = 1 := by kernel_rfl
@[simp] theorem Tryz.tbytes119 : Tryz.t119.bytes = 8 := by kernel_rfl
@[simp] theorem Tryz.builder119 : builderTy Tryz.prog 119 = false := by kernel_rfl
@[simp] theorem Tryz.azero119 : azero Tryz.prog 119 = some (.nilmap) := by kernel_rfl
@[simp] theorem Tryz.asize120 : asize Tryz.prog 120 = some 11 := by kernel_rfl
@[simp] theorem Tryz.info120 : Tryz.prog.info? 120 = some Tryz.t120 := by kernel_rfl
@[simp] theorem Tryz.tsize120 : Tryz.t120.size = 11 := by kernel_rfl
@[simp] theorem Tryz.tbytes120 : Tryz.t120.bytes = 120 := by kernel_rfl
@[simp] theorem Tryz.builder120 : builderTy Tryz.prog 120 = false := by kernel_rfl
@[simp] theorem Tryz.azero120 : azero Tryz.prog 120 = some (.agg [.int .i64 (0), .int .i64 (0), .int .u64 (0), .int .u64 (0), .nilsl, .int .i64 (0), .bool false, .int .i64 (0), .nilmap, .nilmap, .nilsl]) := by kernel_rfl
@[simp] theorem Tryz.asize121 : asize Tryz.prog 121 = some 11 := by kernel_rfl
@[simp] theorem Tryz.info121 : Tryz.prog.info? 121 = some Tryz.t121 := by kernel_rfl
@[simp] theorem Tryz.tsize121 : Tryz.t121.size = 11 := by kernel_rfl
@[simp] theorem Tryz.tbytes121 : Tryz.t121.bytes = 120 := by kernel_rfl
@[simp] theorem Tryz.builder121 : builderTy Tryz.prog 121 = false := by kernel_rfl
@[simp] theorem Tryz.azero121 : azero Tryz.prog 121 = some (.agg [.int .i64 (0), .int .i64 (0), .int .u64 (0), .int .u64 (0), .nilsl, .int .i64 (0), .bool false, .int .i64 (0), .nilmap, .nilmap, .nilsl]) := by kernel_rfl
@[simp] theorem Tryz.asize122 : asize Tryz.prog 122 = some 2 := by kernel_rfl
@[simp] theorem Tryz.info122 : Tryz.prog.info? 122 = some Tryz.t122 := by kernel_rfl
@[simp] theorem Tryz.tsize122 : Tryz.t122.size = 2 := by kernel_rfl
@[simp] theorem Tryz.tbytes122 : Tryz.t122.bytes = 16 := by kernel_rfl
@[simp] theorem Tryz.builder122 : builderTy Tryz.prog 122 = false := by kernel_rfl
@[simp] theorem Tryz.azero122 : azero Tryz.prog 122 = some (.agg [.int .i64 (0), .int .i64 (0)]) := by kernel_rfl
@[simp] theorem Tryz.asize127 : asize Tryz.prog 127 = some 8 := by kernel_rfl
@[simp] theorem Tryz.info127 : Tryz.prog.info? 127 = some Tryz.t127 := by kernel_rfl
@[simp] theorem Tryz.tsize127 : Tryz.t127.size = 8 := by kernel_rfl
@[simp] theorem Tryz.tbytes127 : Tryz.t127.bytes = 176 := by kernel_rfl
@[simp] theorem Tryz.builder127 : builderTy Tryz.prog 127 = false := by kernel_rfl
@[simp] theorem Tryz.azero127 : azero Tryz.prog 127 = some (.agg [.nilsl, .nilsl, .nilsl, .nilsl, .nilsl, .nilsl, .nilsl, .int .i64 (0)]) := by kernel_rfl
@[simp] theorem Tryz.asize128 : asize Tryz.prog 128 = some 8 := by kernel_rfl
@[simp] theorem Tryz.info128 : Tryz.prog.info? 128 = some Tryz.t128 := by kernel_rfl
@[simp] theorem Tryz.tsize128 : Tryz.t128.size = 8 := by kernel_rfl
@[simp] theorem Tryz.tbytes128 : Tryz.t128.bytes = 176 := by kernel_rfl
@[simp] theorem Tryz.builder128 : builderTy Tryz.prog 128 = false := by kernel_rfl
@[simp] theorem Tryz.azero128 : azero Tryz.prog 128 = some (.agg [.nilsl, .nilsl, .nilsl, .nilsl, .nilsl, .nilsl, .nilsl, .int .i64 (0)]) := by kernel_rfl
@[simp] theorem Tryz.asize135 : asize Tryz.prog 135 = some 5 := by kernel_rfl
@[simp] theorem Tryz.info135 : Tryz.prog.info? 135 = some Tryz.t135 := by kernel_rfl
@[simp] theorem Tryz.tsize135 : Tryz.t135.size = 5 := by kernel_rfl
@[simp] theorem Tryz.tbytes135 : Tryz.t135.bytes = 56 := by kernel_rfl
@[simp] theorem Tryz.builder135 : builderTy Tryz.prog 135 = false := by kernel_rfl
@[simp] theorem Tryz.azero135 : azero Tryz.prog 135 = some (.agg [.nilptr, .nilsl, .int .i64 (0), .int .i64 (0), .bool false]) := by kernel_rfl
@[simp] theorem Tryz.asize136 : asize Tryz.prog 136 = some 5 := by kernel_rfl
@[simp] theorem Tryz.info136 : Tryz.prog.info? 136 = some Tryz.t136 := by kernel_rfl
@[simp] theorem Tryz.tsize136 : Tryz.t136.size = 5 := by kernel_rfl
@[simp] theorem Tryz.tbytes136 : Tryz.t136.bytes = 56 := by kernel_rfl
@[simp] theorem Tryz.builder136 : builderTy Tryz.prog 136 = false := by kernel_rfl
@[simp] theorem Tryz.azero136 : azero Tryz.prog 136 = some (.agg [.nilptr, .nilsl, .int .i64 (0), .int .i64 (0), .bool false]) := by kernel_rfl
@[simp] theorem Tryz.asize144 : asize Tryz.prog 144 = some 5 := by kernel_rfl
@[simp] theorem Tryz.info144 : Tryz.prog.info? 144 = some Tryz.t144 := by kernel_rfl
@[simp] theorem Tryz.tsize144 : Tryz.t144.size = 5 := by kernel_rfl
@[simp] theorem Tryz.tbytes144 : Tryz.t144.bytes = 56 := by kernel_rfl
@[simp] theorem Tryz.builder144 : builderTy Tryz.prog 144 = false := by kernel_rfl
@[simp] theorem Tryz.azero144 : azero Tryz.prog 144 = some (.agg [.int .u64 (0), .int .u64 (0), .int .u64 (0), .int .u64 (0), .nilsl]) := by kernel_rfl
@[simp] theorem Tryz.asize160 : asize Tryz.prog 160 = some 1 := by kernel_rfl
@[simp] theorem Tryz.info160 : Tryz.prog.info? 160 = some Tryz.t160 := by kernel_rfl
@[simp] theorem Tryz.tsize160 : Tryz.t160.size = 1 := by kernel_rfl
@[simp] theorem Tryz.tbytes160 : Tryz.t160.bytes = 8 := by kernel_rfl
@[simp] theorem Tryz.builder160 : builderTy Tryz.prog 160 = false := by kernel_rfl
@[simp] theorem Tryz.azero160 : azero Tryz.prog 160 = some (.nilfunc) := by kernel_rfl
@[simp] theorem Tryz.asize168 : asize Tryz.prog 168 = some 1 := by kernel_rfl
@[simp] theorem Tryz.info168 : Tryz.prog.info? 168 = some Tryz.t168 := by kernel_rfl
@[simp] theorem Tryz.tsize168 : Tryz.t168.size = 1 := by kernel_rfl
@[simp] theorem Tryz.tbytes168 : Tryz.t168.bytes = 8 := by kernel_rfl
@[simp] theorem Tryz.builder168 : builderTy Tryz.prog 168 = false := by kernel_rfl
@[simp] theorem Tryz.azero168 : azero Tryz.prog 168 = some (.nilfunc) := by kernel_rfl
@[simp] theorem Tryz.asize169 : asize Tryz.prog 169 = some 1 := by kernel_rfl
@[simp] theorem Tryz.info169 : Tryz.prog.info? 169 = some Tryz.t169 := by kernel_rfl
@[simp] theorem Tryz.tsize169 : Tryz.t169.size = 1 := by kernel_rfl
@[simp] theorem Tryz.tbytes169 : Tryz.t169.bytes = 8 := by kernel_rfl
@[simp] theorem Tryz.builder169 : builderTy Tryz.prog 169 = false := by kernel_rfl
@[simp] theorem Tryz.azero169 : azero Tryz.prog 169 = some (.nilfunc) := by kernel_rfl
@[simp] theorem Tryz.asize171 : asize Tryz.prog 171 = some 2 := by kernel_rfl
@[simp] theorem Tryz.info171 : Tryz.prog.info? 171 = some Tryz.t171 := by kernel_rfl
@[simp] theorem Tryz.tsize171 : Tryz.t171.size = 2 := by kernel_rfl
@[simp] theorem Tryz.tbytes171 : Tryz.t171.bytes = 32 := by kernel_rfl
@[simp] theorem Tryz.builder171 : builderTy Tryz.prog 171 = false := by kernel_rfl
@[simp] theorem Tryz.azero171 : azero Tryz.prog 171 = some (.agg [.int .u64 (0), .nilsl]) := by kernel_rfl
@[simp] theorem Tryz.asize172 : asize Tryz.prog 172 = some 2 := by kernel_rfl
@[simp] theorem Tryz.info172 : Tryz.prog.info? 172 = some Tryz.t172 := by kernel_rfl
@[simp] theorem Tryz.tsize172 : Tryz.t172.size = 2 := by kernel_rfl
@[simp] theorem Tryz.tbytes172 : Tryz.t172.bytes = 32 := by kernel_rfl
@[simp] theorem Tryz.builder172 : builderTy Tryz.prog 172 = false := by kernel_rfl
@[simp] theorem Tryz.azero172 : azero Tryz.prog 172 = some (.agg [.int .u64 (0), .nilsl]) := by kernel_rfl
@[simp] theorem Tryz.asize176 : asize Tryz.prog 176 = some 1 := by kernel_rfl
@[simp] theorem Tryz.info176 : Tryz.prog.info? 176 = some Tryz.t176 := by kernel_rfl
@[simp] theorem Tryz.tsize176 : Tryz.t176.size = 1 := by kernel_rfl
@[simp] theorem Tryz.tbytes176 : Tryz.t176.bytes = 8 := by kernel_rfl
@[simp] theorem Tryz.builder176 : builderTy Tryz.prog 176 = false := by kernel_rfl
@[simp] theorem Tryz.azero176 : azero Tryz.prog 176 = some (.nilfunc) := by kernel_rfl
@[simp] theorem Tryz.asize184 : asize Tryz.prog 184 = some 1 := by kernel_rfl
@[simp] theorem Tryz.info184 : Tryz.prog.info? 184 = some Tryz.t184 := by kernel_rfl
@[simp] theorem Tryz.tsize184 : Tryz.t184.size = 1 := by kernel_rfl
@[simp] theorem Tryz.tbytes184 : Tryz.t184.bytes = 8 := by kernel_rfl
@[simp] theorem Tryz.builder184 : builderTy Tryz.prog 184 = false := by kernel_rfl
@[simp] theorem Tryz.azero184 : azero Tryz.prog 184 = some (.nilptr) := by kernel_rfl
@[simp] theorem Tryz.asize185 : asize Tryz.prog 185 = some 5 := by kernel_rfl
@[simp] theorem Tryz.info185 : Tryz.prog.info? 185 = some Tryz.t185 := by kernel_rfl
@[simp] theorem Tryz.tsize185 : Tryz.t185.size = 5 := by kernel_rfl
@[simp] theorem Tryz.tbytes185 : Tryz.t185.bytes = 56 := by kernel_rfl
@[simp] theorem Tryz.builder185 : builderTy Tryz.prog 185 = false := by kernel_rfl
@[simp] theorem Tryz.azero185 : azero Tryz.prog 185 = some (.agg [.str [], .int .i64 (0), .str [], .bool false, .int .i64 (0)]) := by kernel_rfl
@[simp] theorem Tryz.asize186 : asize Tryz.prog 186 = some 5 := by kernel_rfl
@[simp] theorem Tryz.info186 : Tryz.prog.info? 186 = some Tryz.t186 := by kernel_rfl
@[simp] theorem Tryz.tsize186 : Tryz.t186.size = 5 := by kernel_rfl
@[simp] theorem Tryz.tbytes186 : Tryz.t186.bytes = 56 := by kernel_rfl
@[simp] theorem Tryz.builder186 : builderTy Tryz.prog 186 = false := by kernel_rfl
@[simp] theorem Tryz.azero186 : azero Tryz.prog 186 = some (.agg [.str [], .int .i64 (0), .str [], .bool false, .int .i64 (0)]) := by kernel_rfl
@[simp] theorem Tryz.asize187 : asize Tryz.prog 187 = some 12 := by kernel_rfl
@[simp] theorem Tryz.info187 : Tryz.prog.info? 187 = some Tryz.t187 := by kernel_rfl
@[simp] theorem Tryz.tsize187 : Tryz.t187.size = 12 := by kernel_rfl
@[simp] theorem Tryz.tbytes187 : Tryz.t187.bytes = 192 := by kernel_rfl
@[simp] theorem Tryz.builder187 : builderTy Tryz.prog 187 = false := by kernel_rfl
@[simp] theorem Tryz.azero187 : azero Tryz.prog 187 = some (.agg [.str [], .nilsl, .nilsl, .nilsl, .nilsl, .int .i64 (0), .str [], .str [], .int .i64 (0), .str [], .bool false, .int .i64 (0)]) := by kernel_rfl
@[simp] theorem Tryz.asize188 : asize Tryz.prog 188 = some 12 := by kernel_rfl
@[simp] theorem Tryz.info188 : Tryz.prog.info? 188 = some Tryz.t188 := by kernel_rfl
@[simp] theorem Tryz.tsize188 : Tryz.t188.size = 12 := by kernel_rfl
@[simp] theorem Tryz.tbytes188 : Tryz.t188.bytes = 192 := by kernel_rfl
@[simp] theorem Tryz.builder188 : builderTy Tryz.prog 188 = false := by kernel_rfl
@[simp] theorem Tryz.azero188 : azero Tryz.prog 188 = some (.agg [.str [], .nilsl, .nilsl, .nilsl, .nilsl, .int .i64 (0), .str [], .str [], .int .i64 (0), .str [], .bool false, .int .i64 (0)]) := by kernel_rfl
@[simp] theorem Tryz.asize196 : asize Tryz.prog 196 = some 1 := by kernel_rfl
@[simp] theorem Tryz.info196 : Tryz.prog.info? 196 = some Tryz.t196 := by kernel_rfl
@[simp] theorem Tryz.tsize196 : Tryz.t196.size = 1 := by kernel_rfl
@[simp] theorem Tryz.tbytes196 : Tryz.t196.bytes = 24 := by kernel_rfl
@[simp] theorem Tryz.builder196 : builderTy Tryz.prog 196 = false := by kernel_rfl
@[simp] theorem Tryz.azero196 : azero Tryz.prog 196 = some (.nilsl) := by kernel_rfl
@[simp] theorem Tryz.asize200 : asize Tryz.prog 200 = some 1 := by kernel_rfl
@[simp] theorem Tryz.info200 : Tryz.prog.info? 200 = some Tryz.t200 := by kernel_rfl
@[simp] theorem Tryz.tsize200 : Tryz.t200.size = 1 := by kernel_rfl
@[simp] theorem Tryz.tbytes200 : Tryz.t200.bytes = 24 := by kernel_rfl
@[simp] theorem Tryz.builder200 : builderTy Tryz.prog 200 = false := by kernel_rfl
@[simp] theorem Tryz.azero200 : azero Tryz.prog 200 = some (.nilsl) := by kernel_rfl
@[simp] theorem Tryz.asize201 : asize Tryz.prog 201 = some 5 := by kernel_rfl
@[simp] theorem Tryz.info201 : Tryz.prog.info? 201 = some Tryz.t201 := by kernel_rfl
@[simp] theorem Tryz.tsize201 : Tryz.t201.size = 5 := by kernel_rfl
@[simp] theorem Tryz.tbytes201 : Tryz.t201.bytes = 72 := by kernel_rfl
@[simp] theorem Tryz.builder201 : builderTy Tryz.prog 201 = false := by kernel_rfl
@[simp] theorem Tryz.azero201 : azero Tryz.prog 201 = some (.agg [.str [], .str [], .int .i64 (0), .int .i64 (0), .nilsl]) := by kernel_rfl
@[simp] theorem Tryz.asize202 : asize Tryz.prog 202 = some 5 := by kernel_rfl
@[simp] theorem Tryz.info202 : Tryz.prog.info? 202 = some Tryz.t202 := by kernel_rfl
@[simp] theorem Tryz.tsize202 : Tryz.t202.size = 5 := by kernel_rfl
@[simp] theorem Tryz.tbytes202 : Tryz.t202.bytes = 72 := by kernel_rfl
@[simp] theorem Tryz.builder202 : builderTy Tryz.prog 202 = false := by kernel_rfl
@[simp] theorem Tryz.azero202 : azero Tryz.prog 202 = some (.agg [.str [], .str [], .int .i64 (0), .int .i64 (0), .nilsl]) := by kernel_rfl
@[simp] theorem Tryz.asize203 : asize Tryz.prog 203 = some 7 := by kernel_rfl
@[simp] theorem Tryz.info203 : Tryz.prog.info? 203 = some Tryz.t203 := by kernel_rfl
@[simp] theorem Tryz.tsize203 : Tryz.t203.size = 7 := by kernel_rfl
@[simp] theorem Tryz.tbytes203 : Tryz.t203.bytes = 96 := by kernel_rfl
@[simp] theorem Tryz.builder203 : builderTy Tryz.prog 203 = false := by kernel_rfl
@[simp] theorem Tryz.azero203 : azero Tryz.prog 203 = some (.agg [.str [], .str [], .str [], .int .i64 (0), .int .i64 (0), .nilsl, .int .i64 (0)]) := by kernel_rfl
@[simp] theorem Tryz.asize204 : asize Tryz.prog 204 = some 7 := by kernel_rfl
@[simp] theorem Tryz.info204 : Tryz.prog.info? 204 = some Tryz.t204 := by kernel_rfl
@[simp] theorem Tryz.tsize204 : Tryz.t204.size = 7 := by kernel_rfl
@[simp] theorem Tryz.tbytes204 : Tryz.t204.bytes = 96 := by kernel_rfl
@[simp] theorem Tryz.builder204 : builderTy Tryz.prog 204 = false := by kernel_rfl
@[simp] theorem Tryz.azero204 : azero Tryz.prog 204 = some (.agg [.str [], .str [], .str [], .int .i64 (0), .int .i64 (0), .nilsl, .int .i64 (0)]) := by kernel_rfl
@[simp] theorem Tryz.asize205 : asize Tryz.prog 205 = some 1 := by kernel_rfl
@[simp] theorem Tryz.info205 : Tryz.prog.info? 205 = some Tryz.t205 := by kernel_rfl
@[simp] theorem Tryz.tsize205 : Tryz.t205.size = 1 := by kernel_rfl
@[simp] theorem Tryz.tbytes205 : Tryz.t205.bytes = 24 := by kernel_rfl
@[simp] theorem Tryz.builder205 : builderTy Tryz.prog 205 = false := by kernel_rfl
@[simp] theorem Tryz.azero205 : azero Tryz.prog 205 = some (.nilsl) := by kernel_rfl
@[simp] theorem Tryz.asize206 : asize Tryz.prog 206 = some 1 := by kernel_rfl
@[simp] theorem Tryz.info206 : Tryz.prog.info? 206 = some Tryz.t206 := by kernel_rfl
@[simp] theorem Tryz.tsize206 : Tryz.t206.size = 1 := by kernel_rfl
@[simp] theorem Tryz.tbytes206 : Tryz.t206.bytes = 24 := by kernel_rfl
@[simp] theorem Tryz.builder206 : builderTy Tryz.prog 206 = false := by kernel_rfl
@[simp] theorem Tryz.azero206 : azero Tryz.prog 206 = some (.nilsl) := by kernel_rfl
@[simp] theorem Tryz.asize207 : asize Tryz.prog 207 = some 8 := by kernel_rfl
@[simp] theorem Tryz.info207 : Tryz.prog.info? 207 = some Tryz.t207 := by kernel_rfl
@[simp] theorem Tryz.tsize207 : Tryz.t207.size = 8 := by kernel_rfl
@[simp] theorem Tryz.tbytes207 : Tryz.t207.bytes = 128 := by kernel_rfl
@[simp] theorem Tryz.builder207 : builderTy Tryz.prog 207 = false := by kernel_rfl
@[simp] theorem Tryz.azero207 : azero Tryz.prog 207 = some (.agg [.str [], .str [], .int .i64 (0), .int .i64 (0), .nilsl, .nilsl, .nilsl, .bool false]) := by kernel_rfl
@[simp] theorem Tryz.asize208 : asize Tryz.prog 208 = some 8 := by kernel_rfl
@[simp] theorem Tryz.info208 : Tryz.prog.info? 208 = some Tryz.t208 := by kernel_rfl
@[simp] theorem Tryz.tsize208 : Tryz.t208.size = 8 := by kernel_rfl
@[simp] theorem Tryz.tbytes208 : Tryz.t208.bytes = 128 := by kernel_rfl
@[simp] theorem Tryz.builder208 : builderTy Tryz.prog 208 = false := by kernel_rfl
@[simp] theorem Tryz.azero208 : azero Tryz.prog 208 = some (.agg [.str [], .str [], .int .i64 (0), .int .i64 (0), .nilsl, .nilsl, .nilsl, .bool false]) := by kernel_rfl
@[simp] theorem Tryz.asize216 : asize Tryz.prog 216 = some 4 := by kernel_rfl
@[simp] theorem Tryz.info216 : Tryz.prog.info? 216 = some Tryz.t216 := by kernel_rfl
@[simp] theorem Tryz.tsize216 : Tryz.t216.size = 4 := by kernel_rfl
@[simp] theorem Tryz.tbytes216 : Tryz.t216.bytes = 32 := by kernel_rfl
@[simp] theorem Tryz.builder216 : builderTy Tryz.prog 216 = false := by kernel_rfl
@[simp] theorem Tryz.azero216 : azero Tryz.prog 216 = some (.agg [.int .i64 (0), .int .i64 (0), .int .i64 (0), .int .i64 (0)]) := by kernel_rfl
@[simp] theorem Tryz.asize217 : asize Tryz.prog 217 = some 4 := by kernel_rfl
@[simp] theorem Tryz.info217 : Tryz.prog.info? 217 = some Tryz.t217 := by kernel_rfl
@[simp] theorem Tryz.tsize217 : Tryz.t217.size = 4 := by kernel_rfl
@[simp] theorem Tryz.tbytes217 : Tryz.t217.bytes = 32 := by kernel_rfl
@[simp] theorem Tryz.builder217 : builderTy Tryz.prog 217 = false := by kernel_rfl
@[simp] theorem Tryz.azero217 : azero Tryz.prog 217 = some (.agg [.int .i64 (0), .int .i64 (0), .int .i64 (0), .int .i64 (0)]) := by kernel_rfl
@[simp] theorem Tryz.asize241 : asize Tryz.prog 241 = some 1 := by kernel_rfl
@[simp] theorem Tryz.info241 : Tryz.prog.info? 241 = some Tryz.t241 := by kernel_rfl
@[simp] theorem Tryz.tsize241 : Tryz.t241.size = 1 := by kernel_rfl
@[simp] theorem Tryz.tbytes241 : Tryz.t241.bytes = 8 := by kernel_rfl
@[simp] theorem Tryz.builder241 : builderTy Tryz.prog 241 = false := by kernel_rfl
@[simp] theorem Tryz.azero241 : azero Tryz.prog 241 = some (.int .u64 (0)) := by kernel_rfl
@[simp] theorem Tryz.asize256 : asize Tryz.prog 256 = some 1 := by kernel_rfl
@[simp] theorem Tryz.info256 : Tryz.prog.info? 256 = some Tryz.t256 := by kernel_rfl
@[simp] theorem Tryz.tsize256 : Tryz.t256.size = 1 := by kernel_rfl
@[simp] theorem Tryz.tbytes256 : Tryz.t256.bytes = 8 := by kernel_rfl
@[simp] theorem Tryz.builder256 : builderTy Tryz.prog 256 = false := by kernel_rfl
@[simp] theorem Tryz.azero256 : azero Tryz.prog 256 = some (.nilfunc) := by kernel_rfl
@[simp] theorem Tryz.asize263 : asize Tryz.prog 263 = some 1 := by kernel_rfl
@[simp] theorem Tryz.info263 : Tryz.prog.info? 263 = some Tryz.t263 := by kernel_rfl
@[simp] theorem Tryz.tsize263 : Tryz.t263.size = 1 := by kernel_rfl
@[simp] theorem Tryz.tbytes263 : Tryz.t263.bytes = 24 := by kernel_rfl
@[simp] theorem Tryz.builder263 : builderTy Tryz.prog 263 = false := by kernel_rfl
@[simp] theorem Tryz.azero263 : azero Tryz.prog 263 = some (.nilsl) := by kernel_rfl
@[simp] theorem Tryz.asize264 : asize Tryz.prog 264 = some 1 := by kernel_rfl
@[simp] theorem Tryz.info264 : Tryz.prog.info? 264 = some Tryz.t264 := by kernel_rfl
@[simp] theorem Tryz.tsize264 : Tryz.t264.size = 1 := by kernel_rfl
@[simp] theorem Tryz.tbytes264 : Tryz.t264.bytes = 0 := by kernel_rfl
@[simp] theorem Tryz.builder264 : builderTy Tryz.prog 264 = false := by kernel_rfl
@[simp] theorem Tryz.asize266 : asize Tryz.prog 266 = some 1 := by kernel_rfl
@[simp] theorem Tryz.info266 : Tryz.prog.info? 266 = some Tryz.t266 := by kernel_rfl
@[simp] theorem Tryz.tsize266 : Tryz.t266.size = 1 := by kernel_rfl
@[simp] theorem Tryz.tbytes266 : Tryz.t266.bytes = 8 := by kernel_rfl
@[simp] theorem Tryz.builder266 : builderTy Tryz.prog 266 = false := by kernel_rfl
@[simp] theorem Tryz.azero266 : azero Tryz.prog 266 = some (.nilptr) := by kernel_rfl
@[simp] theorem Tryz.asize267 : asize Tryz.prog 267 = some 6 := by kernel_rfl
@[simp] theorem Tryz.info267 : Tryz.prog.info? 267 = some Tryz.t267 := by kernel_rfl
@[simp] theorem Tryz.tsize267 : Tryz.t267.size = 6 := by kernel_rfl
@[simp] theorem Tryz.tbytes267 : Tryz.t267.bytes = 64 := by kernel_rfl
@[simp] theorem Tryz.builder267 : builderTy Tryz.prog 267 = false := by kernel_rfl
@[simp] theorem Tryz.azero267 : azero Tryz.prog 267 = some (.agg [.nilsl, .int .i64 (0), .int .i64 (0), .int .i64 (0), .int .i64 (0), .int .i64 (0)]) := by kernel_rfl
@[simp] theorem Tryz.asize268 : asize Tryz.prog 268 = some 6 := by kernel_rfl
@[simp] theorem Tryz.info268 : Tryz.prog.info? 268 = some Tryz.t268 := by kernel_rfl
@[simp] theorem Tryz.tsize268 : Tryz.t268.size = 6 := by kernel_rfl
@[simp] theorem Tryz.tbytes268 : Tryz.t268.bytes = 64 := by kernel_rfl
@[simp] theorem Tryz.builder268 : builderTy Tryz.prog 268 = false := by kernel_rfl
@[simp] theorem Tryz.azero268 : azero Tryz.prog 268 = some (.agg [.nilsl, .int .i64 (0), .int .i64 (0), .int .i64 (0), .int .i64 (0), .int .i64 (0)]) := by kernel_rfl
@[simp] theorem Tryz.asize269 : asize Tryz.prog 269 = some 4 := by kernel_rfl
@[simp] theorem Tryz.info269 : Tryz.prog.info? 269 = some Tryz.t269 := by kernel_rfl
@[simp] theorem Tryz.tsize269 : Tryz.t269.size = 4 := by kernel_rfl
@[simp] theorem Tryz.tbytes269 : Tryz.t269.bytes = 40 := by kernel_rfl
@[simp] theorem Tryz.builder269 : builderTy Tryz.prog 269 = false := by kernel_rfl
@[simp] theorem Tryz.azero269 : azero Tryz.prog 269 = some (.agg [.int .i64 (0), .str [], .int .i64 (0), .int .i64 (0)]) := by kernel_rfl
@[simp] theorem Tryz.asize270 : asize Tryz.prog 270 = some 4 := by kernel_rfl
@[simp] theorem Tryz.info270 : Tryz.prog.info? 270 = some Tryz.t270 := by kernel_rfl
@[simp] theorem Tryz.tsize270 : Tryz.t270.size = 4 := by kernel_rfl
@[simp] theorem Tryz.tbytes270 : Tryz.t270.bytes = 40 := by kernel_rfl
@[simp] theorem Tryz.builder270 : builderTy Tryz.prog 270 = false := by kernel_rfl
@[simp] theorem Tryz.azero270 : azero Tryz.prog 270 = some (.agg [.int .i64 (0), .str [], .int .i64 (0), .int .i64 (0)]) := by kernel_rfl
@[simp] theorem Tryz.asize287 : asize Tryz.prog 287 = some 1 := by kernel_rfl
@[simp] theorem Tryz.info287 : Tryz.prog.info? 287 = some Tryz.t287 := by kernel_rfl
@[simp] theorem Tryz.tsize287 : Tryz.t287.size = 1 := by kernel_rfl
@[simp] theorem Tryz.tbytes287 : Tryz.t287.bytes = 8 := by kernel_rfl
@[simp] theorem Tryz.builder287 : builderTy Tryz.prog 287 = false := by kernel_rfl
@[simp] theorem Tryz.azero287 : azero Tryz.prog 287 = some (.nilfunc) := by kernel_rfl
@[simp] theorem Tryz.asize299 : asize Tryz.prog 299 = some 10 := by kernel_rfl
@[simp] theorem Tryz.info299 : Tryz.prog.info? 299 = some Tryz.t299 := by kernel_rfl
@[simp] theorem Tryz.tsize299 : Tryz.t299.size = 10 := by kernel_rfl
@[simp] theorem Tryz.tbytes299 : Tryz.t299.bytes = 144 := by kernel_rfl
@[simp] theorem Tryz.builder299 : builderTy Tryz.prog 299 = false := by kernel_rfl
@[simp] theorem Tryz.azero299 : azero Tryz.prog 299 = some (.agg [.int .i64 (0), .int .i64 (0), .str [], .str [], .int .i64 (0), .int .i64 (0), .nilsl, .nilsl, .nilsl, .bool false]) := by kernel_rfl
@[simp] theorem Tryz.asize300 : asize Tryz.prog 300 = some 10 := by kernel_rfl
@[simp] theorem Tryz.info300 : Tryz.prog.info? 300 = some Tryz.t300 := by kernel_rfl
@[simp] theorem Tryz.tsize300 : Tryz.t300.size = 10 := by kernel_rfl
@[simp] theorem Tryz.tbytes300 : Tryz.t300.bytes = 144 := by kernel_rfl
@[simp] theorem Tryz.builder300 : builderTy Tryz.prog 300 = false := by kernel_rfl
@[simp] theorem Tryz.azero300 : azero Tryz.prog 300 = some (.agg [.int .i64 (0), .int .i64 (0), .str [], .str [], .int .i64 (0), .int .i64 (0), .nilsl, .nilsl, .nilsl, .bool false]) := by kernel_rfl
@[simp] theorem Tryz.asize327 : asize Tryz.prog 327 = some 1 := by kernel_rfl
@[simp] theorem Tryz.info327 : Tryz.prog.info? 327 = some Tryz.t327 := by kernel_rfl
@[simp] theorem Tryz.tsize327 : Tryz.t327.size = 1 := by kernel_rfl
@[simp] theorem Tryz.tbytes327 : Tryz.t327.bytes = 4 := by kernel_rfl
@[simp] theorem Tryz.builder327 : builderTy Tryz.prog 327 = false := by kernel_rfl
@[simp] theorem Tryz.azero327 : azero Tryz.prog 327 = some (.int .u32 (0)) := by kernel_rfl
@[simp] theorem Tryz.asize340 : asize Tryz.prog 340 = some 1 := by kernel_rfl
@[simp] theorem Tryz.info340 : Tryz.prog.info? 340 = some Tryz.t340 := by kernel_rfl
@[simp] theorem Tryz.tsize340 : Tryz.t340.size = 1 := by kernel_rfl
@[simp] theorem Tryz.tbytes340 : Tryz.t340.bytes = 8 := by kernel_rfl
@[simp] theorem Tryz.builder340 : builderTy Tryz.prog 340 = false := by kernel_rfl
@[simp] theorem Tryz.azero340 : azero Tryz.prog 340 = some (.nilfunc) := by kernel_rfl
@[simp] theorem Tryz.asize342 : asize Tryz.prog 342 = some 1 := by kernel_rfl
@[simp] theorem Tryz.info342 : Tryz.prog.info? 342 = some Tryz.t342 := by kernel_rfl
@[simp] theorem Tryz.tsize342 : Tryz.t342.size = 1 := by kernel_rfl
@[simp] theorem Tryz.tbytes342 : Tryz.t342.bytes = 0 := by kernel_rfl
@[simp] theorem Tryz.builder342 : builderTy Tryz.prog 342 = false := by kernel_rfl
@[simp] theorem Tryz.asize346 : asize Tryz.prog 346 = some 1 := by kernel_rfl
@[simp] theorem Tryz.info346 : Tryz.prog.info? 346 = some Tryz.t346 := by kernel_rfl
@[simp] theorem Tryz.tsize346 : Tryz.t346.size = 1 := by kernel_rfl
@[simp] theorem Tryz.tbytes346 : Tryz.t346.bytes = 8 := by kernel_rfl
@[simp] theorem Tryz.builder346 : builderTy Tryz.prog 346 = false := by kernel_rfl
@[simp] theorem Tryz.azero346 : azero Tryz.prog 346 = some (.nilfunc) := by kernel_rfl
@[simp] theorem Tryz.asize370 : asize Tryz.prog 370 = some 2 := by kernel_rfl
@[simp] theorem Tryz.info370 : Tryz.prog.info? 370 = some Tryz.t370 := by kernel_rfl
@[simp] theorem Tryz.tsize370 : Tryz.t370.size = 2 := by kernel_rfl
@[simp] theorem Tryz.tbytes370 : Tryz.t370.bytes = 24 := by kernel_rfl
@[simp] theorem Tryz.builder370 : builderTy Tryz.prog 370 = false := by kernel_rfl
@[simp] theorem Tryz.azero370 : azero Tryz.prog 370 = some (.agg [.str [], .bool false]) := by kernel_rfl
@[simp] theorem Tryz.asize371 : asize Tryz.prog 371 = some 2 := by kernel_rfl
@[simp] theorem Tryz.info371 : Tryz.prog.info? 371 = some Tryz.t371 := by kernel_rfl
@[simp] theorem Tryz.tsize371 : Tryz.t371.size = 2 := by kernel_rfl
@[simp] theorem Tryz.tbytes371 : Tryz.t371.bytes = 24 := by kernel_rfl
@[simp] theorem Tryz.builder371 : builderTy Tryz.prog 371 = false := by kernel_rfl
@[simp] theorem Tryz.azero371 : azero Tryz.prog 371 = some (.agg [.str [], .bool false]) := by kernel_rfl
@[simp] theorem Tryz.asize375 : asize Tryz.prog 375 = some 1 := by kernel_rfl
@[simp] theorem Tryz.info375 : Tryz.prog.info? 375 = some Tryz.t375 := by kernel_rfl
@[simp] theorem Tryz.tsize375 : Tryz.t375.size = 1 := by kernel_rfl
@[simp] theorem Tryz.tbytes375 : Tryz.t375.bytes = 0 := by kernel_rfl
@[simp] theorem Tryz.builder375 : builderTy Tryz.prog 375 = false := by kernel_rfl
@[simp] theorem Tryz.azero375 : azero Tryz.prog 375 = some (.tuple [.int .i64 (0), .bool false, .bool false]) := by kernel_rfl
@[simp] theorem Tryz.asize434 : asize Tryz.prog 434 = some 1 := by kernel_rfl
@[simp] theorem Tryz.info434 : Tryz.prog.info? 434 = some Tryz.t434 := by kernel_rfl
@[simp] theorem Tryz.tsize434 : Tryz.t434.size = 1 := by kernel_rfl
@[simp] theorem Tryz.tbytes434 : Tryz.t434.bytes = 16 := by kernel_rfl
@[simp] theorem Tryz.builder434 : builderTy Tryz.prog 434 = false := by kernel_rfl
@[simp] theorem Tryz.azero434 : azero Tryz.prog 434 = some (.niliface) := by kernel_rfl
@[simp] theorem Tryz.asize435 : asize Tryz.prog 435 = some 1 := by kernel_rfl
@[simp] theorem Tryz.info435 : Tryz.prog.info? 435 = some Tryz.t435 := by kernel_rfl
@[simp] theorem Tryz.tsize435 : Tryz.t435.size = 1 := by kernel_rfl
@[simp] theorem Tryz.tbytes435 : Tryz.t435.bytes = 16 := by kernel_rfl
@[simp] theorem Tryz.builder435 : builderTy Tryz.prog 435 = false := by kernel_rfl
@[simp] theorem Tryz.azero435 : azero Tryz.prog 435 = some (.niliface) := by kernel_rfl
@[simp] theorem Tryz.asize436 : asize Tryz.prog 436 = some 1 := by kernel_rfl
@[simp] theorem Tryz.info436 : Tryz.prog.info? 436 = some Tryz.t436 := by kernel_rfl
@[simp] theorem Tryz.tsize436 : Tryz.t436.size = 1 := by kernel_rfl
@[simp] theorem Tryz.tbytes436 : Tryz.t436.bytes = 0 := by kernel_rfl
@[simp] theorem Tryz.builder436 : builderTy Tryz.prog 436 = false := by kernel_rfl
@[simp] theorem Tryz.azero436 : azero Tryz.prog 436 = some (.tuple [.int .i64 (0), .niliface]) := by kernel_rfl
@[simp] theorem Tryz.asize455 : asize Tryz.prog 455 = some 256 := by kernel_rfl
@[simp] theorem Tryz.info455 : Tryz.prog.info? 455 = some Tryz.t455 := by kernel_rfl
@[simp] theorem Tryz.tsize455 : Tryz.t455.size = 256 := by kernel_rfl
@[simp] theorem Tryz.tbytes455 : Tryz.t455.bytes = 256 := by kernel_rfl
@[simp] theorem Tryz.builder455 : builderTy Tryz.prog 455 = false := by kernel_rfl
@[simp] theorem Tryz.asize456 : asize Tryz.prog 456 = some 256 := by kernel_rfl
@[simp] theorem Tryz.info456 : Tryz.prog.info? 456 = some Tryz.t456 := by kernel_rfl
@[simp] theorem Tryz.tsize456 : Tryz.t456.size = 256 := by kernel_rfl
@[simp] theorem Tryz.tbytes456 : Tryz.t456.bytes = 256 := by kernel_rfl
@[simp] theorem Tryz.builder456 : builderTy Tryz.prog 456 = false := by kernel_rfl
@[simp] theorem Tryz.asize457 : asize Tryz.prog 457 = some 1 := by kernel_rfl
@[simp] theorem Tryz.info457 : Tryz.prog.info? 457 = some Tryz.t457 := by kernel_rfl
@[simp] theorem Tryz.tsize457 : Tryz.t457.size = 1 := by kernel_rfl
@[simp] theorem Tryz.tbytes457 : Tryz.t457.bytes = 0 := by kernel_rfl
@[simp] theorem Tryz.builder457 : builderTy Tryz.prog 457 = false := by kernel_rfl
@[simp] theorem Tryz.asize460 : asize Tryz.prog 460 = some 1 := by kernel_rfl
@[simp] theorem Tryz.info460 : Tryz.prog.info? 460 = some Tryz.t460 := by kernel_rfl
@[simp] theorem Tryz.tsize460 : Tryz.t460.size = 1 := by kernel_rfl
@[simp] theorem Tryz.tbytes460 : Tryz.t460.bytes = 8 := by kernel_rfl
@[simp] theorem Tryz.builder460 : builderTy Tryz.prog 460 = false := by kernel_rfl
@[simp] theorem Tryz.azero460 : azero Tryz.prog 460 = some (.nilptr) := by kernel_rfl
@[simp] theorem Tryz.asize470 : asize Tryz.prog 470 = some 1 := by kernel_rfl
@[simp] theorem Tryz.info470 : Tryz.prog.info? 470 = some Tryz.t470 := by kernel_rfl
@[simp] theorem Tryz.tsize470 : Tryz.t470.size = 1 := by kernel_rfl
@[simp] theorem Tryz.tbytes470 : Tryz.t470.bytes = 8 := by kernel_rfl
@[simp] theorem Tryz.builder470 : builderTy Tryz.prog 470 = false := by kernel_rfl
@[simp] theorem Tryz.azero470 : azero Tryz.prog 470 = some (.int .i64 (0)) := by kernel_rfl
@[simp] theorem Tryz.asize471 : asize Tryz.prog 471 = some 1 := by kernel_rfl
@[simp] theorem Tryz.info471 : Tryz.prog.info? 471 = some Tryz.t471 := by kernel_rfl
@[simp] theorem Tryz.tsize471 : Tryz.t471.size = 1 := by kernel_rfl
@[simp] theorem Tryz.tbytes471 : Tryz.t471.bytes = 0 := by kernel_rfl
@[simp] theorem Tryz.builder471 : builderTy Tryz.prog 471 = false := by kernel_rfl
@[simp] theorem Tryz.azero471 : azero Tryz.prog 471 = some (.tuple [.int .u64 (0), .niliface]) := by kernel_rfl
@[simp] theorem Tryz.asize473 : asize Tryz.prog 473 = some 1 := by kernel_rfl
@[simp] theorem Tryz.info473 : Tryz.prog.info? 473 = some Tryz.t473 := by kernel_rfl
@[simp] theorem Tryz.tsize473 : Tryz.t473.size = 1 := by kernel_rfl
@[simp] theorem Tryz.tbytes473 : Tryz.t473.bytes = 8 := by kernel_rfl
@[simp] theorem Tryz.builder473 : builderTy Tryz.prog 473 = false := by kernel_rfl
@[simp] theorem Tryz.azero473 : azero Tryz.prog 473 = some (.nilptr) := by kernel_rfl
@[simp] theorem Tryz.asize485 : asize Tryz.prog 485 = some 3 := by kernel_rfl
@[simp] theorem Tryz.info485 : Tryz.prog.info? 485 = some Tryz.t485 := by kernel_rfl
@[simp] theorem Tryz.tsize485 : Tryz.t485.size = 3 := by kernel_rfl
@[simp] theorem Tryz.tbytes485 : Tryz.t485.bytes = 48 := by kernel_rfl
@[simp] theorem Tryz.builder485 : builderTy Tryz.prog 485 = false := by kernel_rfl
@[simp] theorem Tryz.azero485 : azero Tryz.prog 485 = some (.agg [.str [], .str [], .niliface]) := by kernel_rfl
@[simp] theorem Tryz.asize486 : asize Tryz.prog 486 = some 3 := by kernel_rfl
@[simp] theorem Tryz.info486 : Tryz.prog.info? 486 = some Tryz.t486 := by kernel_rfl
@[simp] theorem Tryz.tsize486 : Tryz.t486.size = 3 := by kernel_rfl
@[simp] theorem Tryz.tbytes486 : Tryz.t486.bytes = 48 := by kernel_rfl
@[simp] theorem Tryz.builder486 : builderTy Tryz.prog 486 = false := by kernel_rfl
@[simp] theorem Tryz.azero486 : azero Tryz.prog 486 = some (.agg [.str [], .str [], .niliface]) := by kernel_rfl
@[simp] theorem Tryz.asize496 : asize Tryz.prog 496 = some 1 := by kernel_rfl
@[simp] theorem Tryz.info496 : Tryz.prog.info? 496 = some Tryz.t496 := by kernel_rfl
@[simp] theorem Tryz.tsize496 : Tryz.t496.size = 1 := by kernel_rfl
@[simp] theorem Tryz.tbytes496 : Tryz.t496.bytes = 8 := by kernel_rfl
@[simp] theorem Tryz.builder496 : builderTy Tryz.prog 496 = false := by kernel_rfl
@[simp] theorem Tryz.azero496 : azero Tryz.prog 496 = some (.nilptr) := by kernel_rfl
@[simp] theorem Tryz.asize503 : asize Tryz.prog 503 = some 4 := by kernel_rfl
@[simp] theorem Tryz.info503 : Tryz.prog.info? 503 = some Tryz.t503 := by kernel_rfl
@[simp] theorem Tryz.tsize503 : Tryz.t503.size = 4 := by kernel_rfl
@[simp] theorem Tryz.tbytes503 : Tryz.t503.bytes = 40 := by kernel_rfl
@[simp] theorem Tryz.builder503 : builderTy Tryz.prog 503 = false := by kernel_rfl
@[simp] theorem Tryz.azero503 : azero Tryz.prog 503 = some (.agg [.nilptr, .nilptr, .nilptr, .str []]) := by kernel_rfl
@[simp] theorem Tryz.asize504 : asize Tryz.prog 504 = some 4 := by kernel_rfl
@[simp] theorem Tryz.info504 : Tryz.prog.info? 504 = some Tryz.t504 := by kernel_rfl
@[simp] theorem Tryz.tsize504 : Tryz.t504.size = 4 := by kernel_rfl
@[simp] theorem Tryz.tbytes504 : Tryz.t504.bytes = 40 := by kernel_rfl
@[simp] theorem Tryz.builder504 : builderTy Tryz.prog 504 = false := by kernel_rfl
@[simp] theorem Tryz.azero504 : azero Tryz.prog 504 = some (.agg [.nilptr, .nilptr, .nilptr, .str []]) := by kernel_rfl
@[simp] theorem Tryz.asize505 : asize Tryz.prog 505 = some 0 := by kernel_rfl
@[simp] theorem Tryz.info505 : Tryz.prog.info? 505 = some Tryz.t505 := by kernel_rfl
@[simp] theorem Tryz.tsize505 : Tryz.t505.size = 0 := by kernel_rfl
@[simp] theorem Tryz.tbytes505 : Tryz.t505.bytes = 0 := by kernel_rfl
@[simp] theorem Tryz.builder505 : builderTy Tryz.prog 505 = false := by kernel_rfl
@[simp] theorem Tryz.azero505 : azero Tryz.prog 505 = some (.agg []) := by kernel_rfl
@[simp] theorem Tryz.asize506 : asize Tryz.prog 506 = some 0 := by kernel_rfl
@[simp] theorem Tryz.info506 : Tryz.prog.info? 506 = some Tryz.t506 := by kernel_rfl
@[simp] theorem Tryz.tsize506 : Tryz.t506.size = 0 := by kernel_rfl
@[simp] theorem Tryz.tbytes506 : Tryz.t506.bytes = 0 := by kernel_rfl
@[simp] theorem Tryz.builder506 : builderTy Tryz.prog 506 = false := by kernel_rfl
@[simp] theorem Tryz.azero506 : azero Tryz.prog 506 = some (.agg []) := by kernel_rfl
@[simp] theorem Tryz.asize507 : asize Tryz.prog 507 = some 0 := by kernel_rfl
@[simp] theorem Tryz.info507 : Tryz.prog.info? 507 = some Tryz.t507 := by kernel_rfl
@[simp] theorem Tryz.tsize507 : Tryz.t507.size = 0 := by kernel_rfl
@[simp] theorem Tryz.tbytes507 : Tryz.t507.bytes = 0 := by kernel_rfl
@[simp] theorem Tryz.builder507 : builderTy Tryz.prog 507 = false := by kernel_rfl
@[simp] theorem Tryz.azero507 : azero Tryz.prog 507 = some (.agg []) := by kernel_rfl
@[simp] theorem Tryz.asize508 : asize Tryz.prog 508 = some 1 := by kernel_rfl
@[simp] theorem Tryz.info508 : Tryz.prog.info? 508 = some Tryz.t508 := by kernel_rfl
@[simp] theorem Tryz.tsize508 : Tryz.t508.size = 1 := by kernel_rfl
@[simp] theorem Tryz.tbytes508 : Tryz.t508.bytes = 1 := by kernel_rfl
@[simp] theorem Tryz.builder508 : builderTy Tryz.prog 508 = false := by kernel_rfl
@[simp] theorem Tryz.azero508 : azero Tryz.prog 508 = some (.int .u8 (0)) := by kernel_rfl
@[simp] theorem Tryz.asize509 : asize Tryz.prog 509 = some 1 := by kernel_rfl
@[simp] theorem Tryz.info509 : Tryz.prog.info? 509 = some Tryz.t509 := by kernel_rfl
@[simp] theorem Tryz.tsize509 : Tryz.t509.size = 1 := by kernel_rfl
@[simp] theorem Tryz.tbytes509 : Tryz.t509.bytes = 1 := by kernel_rfl
@[simp] theorem Tryz.builder509 : builderTy Tryz.prog 509 = false := by kernel_rfl
@[simp] theorem Tryz.azero509 : azero Tryz.prog 509 = some (.int .u8 (0)) := by kernel_rfl
@[simp] theorem Tryz.asize510 : asize Tryz.prog 510 = some 1 := by kernel_rfl
@[simp] theorem Tryz.info510 : Tryz.prog.info? 510 = some Tryz.t510 := by kernel_rfl
@[simp] theorem Tryz.tsize510 : Tryz.t510.size = 1 := by kernel_rfl
@[simp] theorem Tryz.tbytes510 : Tryz.t510.bytes = 8 := by kernel_rfl
@[simp] theorem Tryz.builder510 : builderTy Tryz.prog 510 = false := by kernel_rfl
@[simp] theorem Tryz.azero510 : azero Tryz.prog 510 = some (.nilfunc) := by kernel_rfl
@[simp] theorem Tryz.asize511 : asize Tryz.prog 511 = some 1 := by kernel_rfl
@[simp] theorem Tryz.info511 : Tryz.prog.info? 511 = some Tryz.t511 := by kernel_rfl
@[simp] theorem Tryz.tsize511 : Tryz.t511.size = 1 := by kernel_rfl
@[simp] theorem Tryz.tbytes511 : Tryz.t511.bytes = 4 := by kernel_rfl
@[simp] theorem Tryz.builder511 : builderTy Tryz.prog 511 = false := by kernel_rfl
@[simp] theorem Tryz.azero511 : azero Tryz.prog 511 = some (.int .i32 (0)) := by kernel_rfl
@[simp] theorem Tryz.asize512 : asize Tryz.prog 512 = some 1 := by kernel_rfl
@[simp] theorem Tryz.info512 : Tryz.prog.info? 512 = some Tryz.t512 := by kernel_rfl
@[simp] theorem Tryz.tsize512 : Tryz.t512.size = 1 := by kernel_rfl
@[simp] theorem Tryz.tbytes512 : Tryz.t512.bytes = 4 := by kernel_rfl
@[simp] theorem Tryz.builder512 : builderTy Tryz.prog 512 = false := by kernel_rfl
@[simp] theorem Tryz.azero512 : azero Tryz.prog 512 = some (.int .i32 (0)) := by kernel_rfl
@[simp] theorem Tryz.asize513 : asize Tryz.prog 513 = some 11 := by kernel_rfl
@[simp] theorem Tryz.info513 : Tryz.prog.info? 513 = some Tryz.t513 := by kernel_rfl
@[simp] theorem Tryz.tsize513 : Tryz.t513.size = 11 := by kernel_rfl
@[simp] theorem Tryz.tbytes513 : Tryz.t513.bytes = 48 := by kernel_rfl
@[simp] theorem Tryz.builder513 : builderTy Tryz.prog 513 = false := by kernel_rfl
@[simp] theorem Tryz.azero513 : azero Tryz.prog 513 = some (.agg [.int .u64 (0), .int .u64 (0), .int .u32 (0), .int .u8 (0), .int .u8 (0), .int .u8 (0), .int .u8 (0), .nilfunc, .nilptr, .int .i32 (0), .int .i32 (0)]) := by kernel_rfl
@[simp] theorem Tryz.asize514 : asize Tryz.prog 514 = some 11 := by kernel_rfl
@[simp] theorem Tryz.info514 : Tryz.prog.info? 514 = some Tryz.t514 := by kernel_rfl
@[simp] theorem Tryz.tsize514 : Tryz.t514.size = 11 := by kernel_rfl
@[simp] theorem Tryz.tbytes514 : Tryz.t514.bytes = 48 := by kernel_rfl
@[simp] theorem Tryz.builder514 : builderTy Tryz.prog 514 = false := by kernel_rfl
@[simp] theorem Tryz.azero514 : azero Tryz.prog 514 = some (.agg [.int .u64 (0), .int .u64 (0), .int .u32 (0), .int .u8 (0), .int .u8 (0), .int .u8 (0), .int .u8 (0), .nilfunc, .nilptr, .int .i32 (0), .int .i32 (0)]) := by kernel_rfl
end Go.Proofs

namespace Go.Proofs.YtnhomjhfaoipmaaGreatDoor
open Go Go.Abs Go.Lex
set_option linter.unusedSimpArgs false
variable {G : Nat → Option AV}
theorem hasPrefixL (s p : List UInt8) (H : AHeap) : Does Tryz.prog G 311 [.str s, .str p] H fun r H' => r = .bool (p.isPrefixOf s) ∧ H' = H := by
  refine does_f Tryz.call311 Tryz.func311 rfl (by simp [Tryz.f311]) ?_
  by_cases h : p.length ≤ s.length
  · have h1 : (p.length : Int) ≤ s.length := by omega
    simp [h, h1]
    rw [Bool.eq_iff_iff, List.isPrefixOf_iff_prefix, List.prefix_iff_eq_take]
    simp
    exact eq_comm
  · have h1 : ¬ (p.length : Int) ≤ s.length := by omega
    have h2 : p.isPrefixOf s = false := by
      rw [Bool.eq_false_iff]
      intro e
      exact h (List.isPrefixOf_iff_prefix.1 e).length_le
    simp [h, h1, h2]
theorem hasPrefix (s p : List UInt8) (H : AHeap) : Does Tryz.prog G 262 [.str s, .str p] H fun r H' => r = .bool (p.isPrefixOf s) ∧ H' = H := by
  refine does_f Tryz.call262 Tryz.func262 rfl (by simp [Tryz.f262]) ?_
  simp
  refine does_use (hasPrefixL s p H) ?_
  rintro _ _ ⟨rfl, rfl⟩
  simp
theorem asciiContains (H : AHeap) (i : Nat) (cs : List AV) (b : UInt8) (v : Bool) (h : H.get i = some (.cells cs)) (hl : cs.length = 256) (hv : cs[b.toNat]? = some (.bool v)) :
    Does Tryz.prog G 352 [.ptr i 0, .int .u8 b.toNat] H fun r H' => r = .bool v ∧ H' = H := by
  have hb := b.toNat_lt
  have h1 : (b.toNat : Int) < 256 := by omega
  have h2 : b.toNat ≤ 256 := by omega
  refine does_f Tryz.call352 Tryz.func352 rfl (by simp [Tryz.f352]) ?_
  simp [h, hl, hv, h1, h2]
def asciiCells (l : List UInt8) : List AV := (List.range 256).map fun k => .bool (l.any fun b => b.toNat == k)
@[simp] theorem asciiCells_length (l : List UInt8) : (asciiCells l).length = 256 := by simp [asciiCells]
theorem asciiCells_get (l : List UInt8) (b : UInt8) : (asciiCells l)[b.toNat]? = some (.bool (l.contains b)) := by
  have hb := b.toNat_lt
  simp only [asciiCells, List.getElem?_map]
  rw [List.getElem?_range hb]
  simp only [Option.map_some, Option.some.injEq, AV.bool.injEq]
  rw [Bool.eq_iff_iff]
  simp only [List.any_eq_true, beq_iff_eq, List.contains_iff_mem]
  constructor
  · rintro ⟨x, hx, e⟩
    rw [← UInt8.toNat_inj.1 e]; exact hx
  · intro h; exact ⟨b, h, rfl⟩
theorem asciiCells_set (l : List UInt8) (b : UInt8) : (asciiCells l).set b.toNat (.bool true) = asciiCells (l ++ [b]) := by
  apply List.ext_getElem?
  intro k
  rw [List.getElem?_set]
  simp only [asciiCells, List.getElem?_map, List.length_map, List.length_range]
  by_cases hk : k < 256
  · rw [List.getElem?_range hk]
    by_cases e : b.toNat = k
    · subst e; simp [hk]
    · rw [if_neg e]
      simp [e]
  · have : (List.range 256)[k]? = none := List.getElem?_eq_none (by simp; omega)
    rw [this]
    split <;> simp
    omega
end Go.Proofs.YtnhomjhfaoipmaaGreatDoor

namespace Go.Abs
open Go
theorem aws_loop {X : Ctx} {c : Code} {Q : Post} {T : Nat → AV} {H : AHeap} (I : Nat → (Nat → AV) → AHeap → Prop) (n : Nat) (h0 : I n T H)
    (round : ∀ n T H, I n T H → @AWf ⟨X⟩ ⟨c⟩ ⟨QThen (fun T' H' => ∃ m, m < n ∧ I m T' H') Q⟩ ⟨T⟩ H) : @AWs ⟨X⟩ ⟨.loop c⟩ ⟨Q⟩ ⟨T⟩ H :=
  aw_loop I n h0 fun n T H h => awf_of (round n T H h)
theorem aw_wf {P : Program} {G : Nat → Option AV} {N : Nat} {c : Code} {Q : Post} {T : Nat → AV} {H : AHeap} (h : H.Wf → (∀ t, (T t).idLt H.next = true) → AW P G N c Q T H) : AW P G N c Q T H := by
  intro E0 a w hG hs
  obtain ⟨⟨E, hx, hR, hT⟩, hd⟩ := hs
  exact h hR.wf (fun t => VRel.idLt hR.dom (hT.rel t)) E0 a w hG ⟨⟨E, hx, hR, hT⟩, hd⟩
theorem aws_loopw {X : Ctx} {c : Code} {Q : Post} {T : Nat → AV} {H : AHeap} (I : Nat → (Nat → AV) → AHeap → Prop) (n : Nat) (h0 : I n T H)
    (round : ∀ n T H, I n T H → H.Wf → (∀ t, (T t).idLt H.next = true) → @AWf ⟨X⟩ ⟨c⟩ ⟨QThen (fun T' H' => ∃ m, m < n ∧ I m T' H') Q⟩ ⟨T⟩ H) : @AWs ⟨X⟩ ⟨.loop c⟩ ⟨Q⟩ ⟨T⟩ H :=
  aw_loop I n h0 fun n T H h => aw_wf fun hw ht => awf_of (round n T H h hw ht)
theorem over_empty (H : AHeap) : (AHeap.empty 0).over H = H := by
  refine AHeap.ext' rfl fun i => ?_
  show (match H.get i with | some x => some x | none => none) = H.get i
  cases H.get i <;> rfl
theorem Does.closed {P : Program} {f : FuncId} {b : Bool} (h : Does P (fun _ => none) f [] (AHeap.empty 0) fun r _ => r = .bool b) (H : AHeap) : Does P (fun _ => none) f [] H fun r H' => r = .bool b ∧ H' = H := by
  refine ⟨fun E w vs hR hG hv => ?_⟩
  have hR' : Rel E ((AHeap.empty 0).over H) w := by rw [over_empty]; exact hR
  have ha : Rel (E.aside H w 0) (AHeap.empty 0) w := Rel.aside hR' (fun _ _ _ => Nat.zero_le _) (fun i x hi => by simp [AHeap.empty] at hi) (fun i x hi => by simp [AHeap.empty] at hi)
  cases hv
  refine (h.run _ w [] ha (fun _ _ h => by simp at h) .nil).mono ?_
  rintro v w' ⟨r, H', E', rfl, hx, hvr, hR2⟩
  cases hvr
  refine ⟨.bool b, H, E, ⟨rfl, rfl⟩, Ext.refl E, .bool b, ?_⟩
  refine ⟨hR2.os.trans hx.os, hR2.out.trans hx.out, fun B o hB => hR2.K _ _ (hx.K B o hB), fun B o hB => ?_, hR.KF, hR.dom, fun i x hi => ?_, hR.inj⟩
  · refine hR2.F _ _ ?_
    rw [hx.F]
    simp only [Env.aside, hB]
  · obtain ⟨p, ob, g1, g2, g3, g4, g5⟩ := hR.live i x hi
    refine ⟨p, ob, g1, g2, g3, hR2.F _ _ ?_, g5⟩
    rw [hx.F]
    simp only [Env.aside, g3]
    rw [if_pos ⟨i, x, p, hi, g1, rfl⟩]
    exact g4
end Go.Abs

namespace Go.Proofs.YtnhomjhfaoipmaaGreatDoor
open Go Go.Abs Go.Lex
set_option linter.unusedSimpArgs false
variable {G : Nat → Option AV}
@[simp] theorem take_ascii (l : List UInt8) : List.take 256 (asciiCells l) = asciiCells l := by rw [List.take_of_length_le]; simp
@[simp] theorem zeroSet : azero Tryz.prog 456 = some (.agg (asciiCells [])) := by kernel_rfl
@[simp] theorem drop_ascii (l : List UInt8) : List.drop 256 (asciiCells l) = [] := by rw [List.drop_of_length_le]; simp
@[simp] theorem ascii_scalar (l : List UInt8) : (∀ x ∈ asciiCells l, x.scalar = true) = True := by
  simp only [eq_iff_iff, iff_true]
  intro x hx
  simp only [asciiCells, List.mem_map] at hx
  obtain ⟨k, _, rfl⟩ := hx
  rfl
theorem ascii_splice (l : List UInt8) (c : UInt8) : List.take c.toNat (asciiCells l) ++ AV.bool true :: List.drop (c.toNat + 1) (asciiCells l) = asciiCells (l ++ [c]) := by
  have hc := c.toNat_lt
  rw [← asciiCells_set, List.set_eq_take_append_cons_drop, if_pos (by rw [asciiCells_length]; omega)]
theorem makeSet (chars : List UInt8) (hc : ∀ b ∈ chars, b.toNat < 128) (hl : chars.length ≤ 1000000) (H : AHeap) : Does Tryz.prog G 337 [.str chars] H fun r H' => r = .tuple [.agg (asciiCells chars), .bool true] ∧ H' = H.push (.cells (asciiCells chars)) := by
  refine does_f Tryz.call337 Tryz.func337 rfl (by simp [Tryz.f337]) ?_
  simp
  refine aws_loop (fun m T' H' => ∃ a b, chars = a ++ b ∧ m = b.length ∧ T' 0 = .str chars ∧ T' 2 = .ptr H.next 0 ∧ T' 4 = .int .i64 a.length ∧ H' = H.push (.cells (asciiCells a))) chars.length ⟨[], chars, rfl, rfl, by simp⟩ ?_
  rintro m T H' ⟨a, b, rfl, rfl, h0, h2, h4, rfl⟩
  cases b with
  | nil => simp [h0, h2, h4]
  | cons c b =>
    have hlt : (a.length : Int) < a.length + (b.length + 1) := by omega
    have hc1 : c.toNat < 128 := hc c (by simp)
    have hc2 : ¬ (128 : Int) ≤ c.toNat := by omega
    have hc3 : (c.toNat : Int) < 256 := by omega
    have hc4 : c.toNat ≤ 255 := by omega
    have hw : IntKind.i64.wrap ((a.length : Int) + 1) = a.length + 1 := by
      simp only [List.length_append, List.length_cons] at hl
      exact IntWalk.i64_in _ (by omega)
    simp [h0, h2, h4, hlt, hc2, hc3, hc4, ascii_splice, hw]
    refine ⟨b.length, by omega, a ++ [c], b, by simp, rfl, ?_⟩
    simp
theorem trimASCII (s set : List UInt8) (p : UInt8 → Bool) (hp : ∀ b, set.contains b = p b) (i : Nat) (H : AHeap) (h : H.get i = some (.cells (asciiCells set))) : Does Tryz.prog G 338 [.str s, .ptr i 0] H fun r H' => r = .str (s.dropWhile p) ∧ H' = H := by
  refine does_f Tryz.call338 Tryz.func338 rfl (by simp [Tryz.f338]) ?_
  simp
  refine aws_loop (fun m T' H' => ∃ q : List UInt8, s.dropWhile p = q.dropWhile p ∧ m = q.length ∧ T' 0 = .str q ∧ T' 1 = .ptr i 0 ∧ H' = H) s.length ⟨s, rfl, rfl, by simp⟩ ?_
  rintro m T H' ⟨q, hq, rfl, h0, h1, rfl⟩
  rw [hq]
  cases q with
  | nil => simp [h0, h1]
  | cons b q =>
    have hl : (0 : Int) < q.length + 1 := by omega
    have hl2 : (1 : Int) ≤ q.length + 1 := by omega
    simp [h0, h1, hl]
    refine does_use (asciiContains H' i _ b _ h (by simp) (asciiCells_get set b)) ?_
    rintro _ _ ⟨rfl, rfl⟩
    rw [hp]
    cases hb : p b with
    | true =>
      simp [h0, h1, hb, hl, hl2]
    | false => simp [h0, h1, hb]
theorem trimLeft (s set : List UInt8) (p : UInt8 → Bool) (hp : ∀ b, set.contains b = p b) (hc : ∀ b ∈ set, b.toNat < 128) (hl : set.length ≤ 1000000) (h2 : 2 ≤ set.length) (H : AHeap) : Does Tryz.prog G 310 [.str s, .str set] H fun r H' => r = .str (s.dropWhile p) ∧ H' = H := by
  refine Does.forgot (R := fun r H' => r = .str (s.dropWhile p) ∧ ∀ j x, H.get j = some x → H'.get j = some x) ?_ ?_
  · refine Does.wf Tryz.call310 fun hw _ => ?_
    have old : ∀ j x, H.get j = some x → j ≠ H.next ∧ j ≠ H.next + 1 := fun j x hj => by have := next_lt hw hj; omega
    refine does_f Tryz.call310 Tryz.func310 rfl (by simp [Tryz.f310]) ?_
    have hne : set ≠ [] := fun e => by subst e; simp at h2
    have hn1 : ¬ (set.length : Int) = 1 := by omega
    cases hs : s with
    | nil => simp
    | cons b q =>
      rw [← hs]
      have hs1 : s.isEmpty = false := by rw [hs]; rfl
      have hs2 : set.isEmpty = false := by cases set <;> simp_all
      simp [hs1, hs2, hn1]
      refine does_use (makeSet set hc hl H) ?_
      rintro _ _ ⟨rfl, rfl⟩
      simp
      refine does_use (trimASCII s set p hp _ _ (by simp)) ?_
      rintro _ _ ⟨rfl, rfl⟩
      simp
      intro j x hj
      simp [hj, old j x hj]
  · rintro hw ha r H1 ⟨rfl, h⟩
    exact ⟨h, rfl, rfl, rfl⟩
theorem isIdx : IsIdx Tryz.prog 340 := ⟨⟨Tryz.f340, Tryz.func340, by kernel_rfl, by kernel_rfl, by kernel_rfl, by kernel_rfl⟩⟩
def idxB (s : List UInt8) (c : UInt8) : Int := match s.findIdx? (fun b => b == c) with
  | some i => i
  | none => -1
theorem idxB_eq (c : UInt8) : ∀ s : List UInt8, Go.Lib.indexByte s c = idxB s c
  | [] => rfl
  | b :: s => by
    rw [indexByte_cases, idxB_eq c s]
    unfold idxB
    rw [List.findIdx?_cons]
    by_cases h : b = c
    · subst h; simp
    · simp only [h, if_false, beq_iff_eq]
      cases hf : List.findIdx? (fun b => b == c) s with
      | none => simp
      | some i =>
        simp only [Option.map_some]
        rw [if_neg (by omega)]
        omega
theorem indexByteL (s : List UInt8) (c : UInt8) (H : AHeap) : Does Tryz.prog G 312 [.str s, .int .u8 c.toNat] H fun r H' => r = .int .i64 (idxB s c) ∧ H' = H := by
  refine does_f Tryz.call312 Tryz.func312 rfl (by simp [Tryz.f312]) ?_
  simp
  refine does_use (idx_does isIdx s c.toNat H) ?_
  rintro _ _ ⟨rfl, rfl⟩
  have e : ((c.toNat : Int).toNat).toUInt8 = c := by simp
  rw [e, idxB_eq]
  simp
theorem indexByte (s : List UInt8) (c : UInt8) (H : AHeap) : Does Tryz.prog G 263 [.str s, .int .u8 c.toNat] H fun r H' => r = .int .i64 (idxB s c) ∧ H' = H := by
  refine does_f Tryz.call263 Tryz.func263 rfl (by simp [Tryz.f263]) ?_
  simp
  refine does_use (indexByteL s c H) ?_
  rintro _ _ ⟨rfl, rfl⟩
  simp
theorem index1L (s : List UInt8) (c : UInt8) (H : AHeap) : Does Tryz.prog G 341 [.str s, .str [c]] H fun r H' => r = .int .i64 (idxB s c) ∧ H' = H := by
  refine does_f Tryz.call341 Tryz.func341 rfl (by simp [Tryz.f341]) ?_
  by_cases h : [c] = s
  · subst h
    simp [idxB]
  · have h1 : ([c] == s) = false := by simpa using h
    simp [h1]
    refine does_use (indexByteL s c H) ?_
    rintro _ _ ⟨rfl, rfl⟩
    simp
theorem contains1 (s : List UInt8) (c : UInt8) (H : AHeap) : Does Tryz.prog G 264 [.str s, .str [c]] H fun r H' => r = .bool (s.contains c) ∧ H' = H := by
  have hk : ∀ H : AHeap, Does Tryz.prog G 313 [.str s, .str [c]] H fun r H' => r = .int .i64 (idxB s c) ∧ H' = H := by
    intro H
    refine does_f Tryz.call313 Tryz.func313 rfl (by simp [Tryz.f313]) ?_
    simp
    refine does_use (index1L s c H) ?_
    rintro _ _ ⟨rfl, rfl⟩
    simp
  refine does_f Tryz.call264 Tryz.func264 rfl (by simp [Tryz.f264]) ?_
  simp
  refine does_use (hk H) ?_
  rintro _ _ ⟨rfl, rfl⟩
  simp
  unfold idxB
  cases hf : s.findIdx? (fun b => b == c) with
  | none =>
    rw [List.findIdx?_eq_none_iff] at hf
    have : c ∉ s := fun h => by have := hf c h; simp at this
    simp [this]
  | some i =>
    have h := List.findIdx?_eq_some_iff_getElem.1 hf
    obtain ⟨hi, h1, _⟩ := h
    have : c ∈ s := by
      have e : s[i] = c := by simpa using h1
      rw [← e]; exact List.getElem_mem hi
    simp [this]
end Go.Proofs.YtnhomjhfaoipmaaGreatDoor

namespace Go.Proofs.YtnhomjhfaoipmaaGreatDoor
open Go Go.Abs Go.Lex
set_option linter.unusedSimpArgs false
variable {G : Nat → Option AV}
theorem sliceIndex (l : List Bs) (s : Bs) (i c : Nat) (op : Bool) (H : AHeap) (hi : H.get i = some (.cells (l.map .str))) (hl : l.length ≤ 1000000) :
    Does Tryz.prog G 327 [.sl i 0 1 l.length c op, .str s] H fun r H' => (if l.contains s then ∃ k : Nat, r = .int .i64 k else r = .int .i64 (-1)) ∧ H' = H := by
  refine does_f Tryz.call327 Tryz.func327 rfl (by simp [Tryz.f327]) ?_
  simp
  refine aws_loop (fun m T' H' => ∃ a b, l = a ++ b ∧ m = b.length ∧ s ∉ a ∧ T' 0 = .sl i 0 1 l.length c op ∧ T' 1 = .str s ∧ T' 7 = .int .i64 l.length ∧ T' 8 = .int .i64 a.length ∧ H' = H) l.length ⟨[], l, rfl, rfl, by simp, by simp⟩ ?_
  rintro m T H' ⟨a, b, rfl, rfl, hn, h0, h1, h7, h8, rfl⟩
  simp only [List.length_append] at hl h0 h7
  cases b with
  | nil => simp [h0, h1, h7, h8, hn]
  | cons t b =>
    simp only [List.length_cons] at hl
    have hlt : (a.length : Int) < a.length + (b.length + 1) := by omega
    have hle : a.length ≤ a.length + (b.length + 1) := by omega
    have hw : IntKind.i64.wrap ((a.length : Int) + 1) = a.length + 1 := IntWalk.i64_in _ (by omega)
    have hd : List.drop a.length (List.map AV.str a) = [] := by rw [List.drop_of_length_le]; simp
    by_cases e : s = t
    · subst e
      simp [h0, h1, h7, h8, hi, hlt, hle, hw, hd]
      exact ⟨a.length, rfl⟩
    · have e1 : (s == t) = false := by simpa using e
      simp [h0, h1, h7, h8, hi, hlt, hle, hw, hd, e1]
      exact ⟨b.length, by omega, a ++ [t], b, by simp, rfl, by simp [hn, e], by simp⟩
theorem sliceContains (l : List Bs) (s : Bs) (i c : Nat) (op : Bool) (H : AHeap) (hi : H.get i = some (.cells (l.map .str))) (hl : l.length ≤ 1000000) :
    Does Tryz.prog G 289 [.sl i 0 1 l.length c op, .str s] H fun r H' => r = .bool (l.contains s) ∧ H' = H := by
  refine does_f Tryz.call289 Tryz.func289 rfl (by simp [Tryz.f289]) ?_
  simp
  refine does_use (sliceIndex l s i c op H hi hl) ?_
  rintro r _ ⟨hr, rfl⟩
  cases hc : l.contains s with
  | true =>
    rw [hc, if_pos rfl] at hr
    obtain ⟨k, rfl⟩ := hr
    simp
  | false =>
    rw [hc] at hr
    simp only [Bool.false_eq_true, if_false] at hr
    subst hr
    simp
set_option maxRecDepth 100000 in
theorem kept_does (s : Bs) (H : AHeap) : Does Tryz.prog G 265 [.str s] H fun r H' => r = .bool (kept s) ∧ H' = H := by
  refine Does.forgot (R := fun r H' => r = .bool (kept s) ∧ ∀ j x, H.get j = some x → H'.get j = some x) ?_ ?_
  · refine Does.wf Tryz.call265 fun hw _ => ?_
    have old : ∀ j x, H.get j = some x → j ≠ H.next := fun j x hj => by have := next_lt hw hj; omega
    refine does_f Tryz.call265 Tryz.func265 rfl (by simp [Tryz.f265]) ?_
    simp
    refine does_use (sliceContains keptWords s H.next 21 false (H.push (.cells (keptWords.map .str))) (by simp) (by decide)) ?_
    rintro _ _ ⟨rfl, rfl⟩
    simp [kept]
    intro j x hj
    simp [hj, old j x hj]
  · rintro hw ha r H1 ⟨rfl, h⟩
    exact ⟨h, rfl, rfl, rfl⟩
theorem while_does (s set : Bs) (p : UInt8 → Bool) (hp : ∀ b, set.contains b = p b) (hc : ∀ b ∈ set, b.toNat < 128) (hl : set.length ≤ 1000000) (h2 : 2 ≤ set.length) (hs : s.length ≤ 1000000) (H : AHeap) :
    Does Tryz.prog G 261 [.str s, .str set] H fun r H' => r = .int .i64 (s.takeWhile p).length ∧ H' = H := by
  refine does_f Tryz.call261 Tryz.func261 rfl (by simp [Tryz.f261]) ?_
  simp
  refine does_use (trimLeft s set p hp hc hl h2 H) ?_
  rintro _ _ ⟨rfl, rfl⟩
  have e : s.length = (s.takeWhile p).length + (s.dropWhile p).length := by rw [← List.length_append, List.takeWhile_append_dropWhile]
  have hw : IntKind.i64.wrap ((s.length : Int) - (s.dropWhile p).length) = (s.takeWhile p).length := by
    rw [IntWalk.i64_in _ (by omega)]; omega
  simp [hw]
set_option maxRecDepth 100000 in
theorem sign_does (s : Bs) (H : AHeap) : Does Tryz.prog G 267 [.str s] H fun r H' => (match signOf s with | some t => r = .tuple [.agg [.int .i64 4, .str t, .int .i64 0, .int .i64 0], .bool true] | none => r = .tuple [.agg [.int .i64 0, .str [], .int .i64 0, .int .i64 0], .bool false]) ∧ H' = H := by
  refine Does.forgot (R := fun r H' => (match signOf s with | some t => r = .tuple [.agg [.int .i64 4, .str t, .int .i64 0, .int .i64 0], .bool true] | none => r = .tuple [.agg [.int .i64 0, .str [], .int .i64 0, .int .i64 0], .bool false]) ∧ ∀ j x, H.get j = some x → H'.get j = some x) ?_ ?_
  · refine Does.wf Tryz.call267 fun hw _ => ?_
    have old : ∀ j x, H.get j = some x → j ≠ H.next ∧ j ≠ H.next + 1 := fun j x hj => by have := next_lt hw hj; omega
    have hkeep : ∀ x y, ∀ j z, H.get j = some z → ((H.push x).push y).get j = some z := fun x y j z hj => by simp [hj, old j z hj]
    refine does_f Tryz.call267 Tryz.func267 rfl (by simp [Tryz.f267]) ?_
    simp
    refine aws_loop (fun m T' H' => ∃ a b, signs = a ++ b ∧ m = b.length ∧ a.find? (fun x => x.isPrefixOf s) = none ∧ T' 0 = .str s ∧ T' 2 = .ptr H.next 0 ∧ T' 6 = .sl (H.next + 1) 0 1 16 16 false ∧ T' 7 = .int .i64 16 ∧ T' 8 = .int .i64 a.length ∧ T' 3 = .bool false ∧
      H' = (H.push (.cells [.int .i64 0, .str [], .int .i64 0, .int .i64 0])).push (.cells (signs.map .str))) 16 ⟨[], signs, rfl, rfl, rfl, by simp [signs]⟩ ?_
    rintro m T H' ⟨a, b, hab, rfl, hn, h0, h2, h6, h7, h8, h3, rfl⟩
    have hlen : a.length + b.length = 16 := by rw [← List.length_append, ← hab]; rfl
    cases b with
    | nil =>
      have ha : a.length = 16 := by simpa using hlen
      have hs : signOf s = none := by
        unfold signOf
        rw [hab, List.append_nil]; exact hn
      simp [h0, h2, h6, h7, h8, ha, hs]
      intro j x hj
      simp [hj, old j x hj]
    | cons t b =>
      simp only [List.length_cons] at hlen
      have hlt : (a.length : Int) < 16 := by omega
      have hlt2 : a.length ≤ 16 := by omega
      have hlt3 : a.length < 16 := by omega
      have hw1 : IntKind.i64.wrap ((a.length : Int) + 1) = a.length + 1 := IntWalk.i64_in _ (by omega)
      have hd : List.drop a.length (List.map AV.str signs) = .str t :: b.map .str := by
        rw [hab, List.map_append, List.drop_left' (by simp)]; rfl
      have hsl : signs.length = 16 := rfl
      simp [h0, h2, h6, h7, h8, hlt, hlt2, hlt3, hd, hsl]
      refine does_use (hasPrefix s t _) ?_
      rintro _ _ ⟨rfl, rfl⟩
      cases hp : t.isPrefixOf s with
      | true =>
        have hs : signOf s = some t := by
          unfold signOf
          rw [hab, List.find?_append, hn]
          simp [hp]
        simp [h0, h2, h6, h7, h8, hs]
        intro j x hj
        simp [hj, old j x hj]
      | false =>
        simp [h0, h2, h6, h7, h8, hw1]
        refine ⟨b.length, by omega, a ++ [t], b, by simp [hab], rfl, ?_, ?_⟩
        · rw [List.find?_eq_none] at hn
          intro x hx
          simp only [List.mem_append, List.mem_singleton] at hx
          rcases hx with hx | rfl
          · have := hn x hx
            rw [← List.isPrefixOf_iff_prefix]; simpa using this
          · rw [← List.isPrefixOf_iff_prefix, hp]; simp
        · simp [h3]
  · rintro hw ha r H1 ⟨hr, h⟩
    refine ⟨h, ?_, hr, rfl⟩
    cases hs : signOf s <;> rw [hs] at hr <;> subst hr <;> rfl
end Go.Proofs.YtnhomjhfaoipmaaGreatDoor

namespace Go.Proofs.YtnhomjhfaoipmaaGreatDoor
open Go Go.Abs Go.Lex
set_option linter.unusedSimpArgs false
variable {G : Nat → Option AV}
theorem drop_takeWhile (p : UInt8 → Bool) : ∀ s : Bs, s.drop (s.takeWhile p).length = s.dropWhile p
  | [] => rfl
  | b :: s => by
    rw [List.takeWhile_cons, List.dropWhile_cons]
    split
    · simpa using drop_takeWhile p s
    · rfl
theorem betw_line (s q : Bs) (h : s.dropWhile isBlank = 45 :: 45 :: q) : betw s = betw (q.dropWhile fun b => b != 10) := by
  rw [betw]
  split
  · rename_i q' h'
    rw [h] at h'
    simp only [List.cons.injEq, true_and] at h'
    rw [h']
  · rename_i h'
    exact absurd h (h' q)
theorem betw_word (s : Bs) (h : ([45, 45] : Bs).isPrefixOf (s.dropWhile isBlank) = false) : betw s = s.dropWhile isBlank := by
  rw [betw]
  split
  · rename_i q hq
    rw [hq] at h
    simp [List.isPrefixOf] at h
  · rfl
theorem betw_nil : betw [] = [] := betw_word [] rfl
@[simp] theorem take_drop_all {α : Type} (l : List α) (n : Nat) : List.take (l.length - n) (l.drop n) = l.drop n := by rw [List.take_of_length_le]; simp
theorem idxB_none {s : Bs} {c : UInt8} (h : s.findIdx? (fun b => b == c) = none) : s.dropWhile (fun b => b != c) = [] := by
  rw [List.findIdx?_eq_none_iff] at h
  induction s with
  | nil => rfl
  | cons b s ih =>
    rw [List.dropWhile_cons]
    have := h b (by simp)
    have e : (b != c) = true := by simp only [bne, this]; rfl
    rw [if_pos e]
    exact ih fun x hx => h x (by simp [hx])
theorem idxB_some {s : Bs} {c : UInt8} {i : Nat} (h : s.findIdx? (fun b => b == c) = some i) : s.dropWhile (fun b => b != c) = s.drop i ∧ i < s.length := by
  induction s generalizing i with
  | nil => simp at h
  | cons b s ih =>
    rw [List.findIdx?_cons] at h
    rw [List.dropWhile_cons]
    by_cases e : b = c
    · subst e
      simp at h
      subst h
      simp
    · have e1 : (b == c) = false := by simpa using e
      have e2 : (b != c) = true := by simp [bne, e1]
      rw [e1] at h
      simp only [Bool.false_eq_true, if_false, Option.map_eq_some_iff] at h
      obtain ⟨j, hj, rfl⟩ := h
      obtain ⟨h1, h2⟩ := ih hj
      rw [if_pos e2]
      exact ⟨by simpa using h1, by simp; omega⟩
theorem blankSet (b : UInt8) : ([32, 9, 10, 13] : Bs).contains b = isBlank b := by
  rw [Bool.eq_iff_iff]
  simp [isBlank, or_assoc]
theorem between_does (s : Bs) (hl : s.length ≤ 1000000) (H : AHeap) : Does Tryz.prog G 214 [.str s] H fun r H' => (∃ n : Nat, r = .int .i64 n ∧ n ≤ s.length ∧ s.drop n = betw s) ∧ H' = H := by
  refine does_f Tryz.call214 Tryz.func214 rfl (by simp [Tryz.f214]) ?_
  simp
  refine aws_loop (fun m T' H' => ∃ n : Nat, n ≤ s.length ∧ m = s.length - n ∧ betw (s.drop n) = betw s ∧ T' 0 = .str s ∧ T' 3 = .int .i64 n ∧ H' = H) s.length ⟨0, by omega, by omega, rfl, by simp⟩ ?_
  rintro m T H' ⟨n, hn, rfl, hb, h0, h3, rfl⟩
  have hn1 : (n : Int) ≤ s.length := by omega
  simp [h0, h3, hn, hn1]
  have hdl : (s.drop n).length = s.length - n := by simp
  refine does_use (while_does (s.drop n) _ isBlank blankSet (by decide) (by decide) (by decide) (by omega) _) ?_
  rintro _ _ ⟨rfl, rfl⟩
  have htl : ((s.drop n).takeWhile isBlank).length ≤ s.length - n := by
    rw [← hdl]; exact (List.takeWhile_prefix isBlank).length_le
  have hdd : s.drop (n + ((s.drop n).takeWhile isBlank).length) = (s.drop n).dropWhile isBlank := by
    rw [← List.drop_drop, drop_takeWhile]
  obtain ⟨k, hk⟩ : ∃ k, k = ((s.drop n).takeWhile isBlank).length := ⟨_, rfl⟩
  rw [← hk] at htl hdd ⊢
  obtain ⟨j, hj⟩ : ∃ j, j = n + k := ⟨_, rfl⟩
  have hw1 : IntKind.i64.wrap ((n : Int) + k) = (j : Int) := by rw [IntWalk.i64_in _ (by omega)]; omega
  have hk1 : (j : Int) ≤ s.length := by omega
  have hk2 : j ≤ s.length := by omega
  rw [← hj] at hdd
  simp [h0, h3, hw1, hk1, hk2]
  refine does_use (hasPrefix (s.drop j) [45, 45] _) ?_
  rintro _ _ ⟨rfl, rfl⟩
  cases hp : ([45, 45] : Bs).isPrefixOf (s.drop j) with
  | false =>
    simp [h0, h3]
    refine ⟨j, rfl, hk2, ?_⟩
    rw [← hb, betw_word _ (by rw [← hdd]; exact hp), hdd]
  | true =>
    simp [h0, h3, hk1, hk2]
    refine does_use (indexByte (s.drop j) 10 _) ?_
    rintro _ _ ⟨rfl, rfl⟩
    obtain ⟨q, hq⟩ : ∃ q, s.drop j = 45 :: 45 :: q := by
      rw [List.isPrefixOf_iff_prefix] at hp
      obtain ⟨t, ht⟩ := hp
      exact ⟨t, ht.symm⟩
    have hbq : betw s = betw ((s.drop j).dropWhile fun b => b != 10) := by
      rw [← hb, betw_line _ q (by rw [← hdd]; exact hq), hq]
      rfl
    unfold idxB
    cases hf : (s.drop j).findIdx? (fun b => b == 10) with
    | none =>
      simp [h0, h3]
      refine ⟨s.length, rfl, Nat.le_refl _, ?_⟩
      rw [hbq, idxB_none hf, betw_nil]; simp
    | some i =>
      obtain ⟨g1, g2⟩ := idxB_some hf
      have g3 : ¬ ((i : Int) < 0) := by omega
      have hi2 : 2 ≤ i := by
        rw [hq] at hf
        rw [List.findIdx?_cons, List.findIdx?_cons] at hf
        simp at hf
        omega
      simp only [List.length_drop] at g2
      have hw2 : IntKind.i64.wrap ((j : Int) + i) = ((j + i : Nat) : Int) := by rw [IntWalk.i64_in _ (by omega)]; omega
      simp [h0, h3, g3, hw2]
      refine ⟨s.length - (j + i), by omega, j + i, by omega, rfl, ?_, by omega⟩
      rw [hbq, g1, List.drop_drop]
end Go.Proofs.YtnhomjhfaoipmaaGreatDoor

namespace Go.Proofs.YtnhomjhfaoipmaaGreatDoor
open Go Go.Abs Go.Lex
set_option linter.unusedSimpArgs false
variable {G : Nat → Option AV}
theorem numVal_snoc (s : Bs) (b : UInt8) : numVal (s ++ [b]) = 10 * numVal s + (b.toNat - 48) := by simp [numVal]
theorem numVal_ge (a : Bs) : ∀ b : Bs, numVal a ≤ numVal (a ++ b) := by
  intro b
  induction b generalizing a with
  | nil => simp
  | cons c b ih =>
    have := ih (a ++ [c])
    rw [numVal_snoc, List.append_assoc] at this
    simp only [List.singleton_append] at this
    omega
theorem strCs_append' (a b : Bs) : strCs (a ++ b) = strCs a ++ strCs b := by simp [strCs]
theorem wrap_u64 (n : Int) (h0 : 0 ≤ n) (h1 : n < 18446744073709551616) : IntKind.u64.wrap n = n := by
  unfold IntKind.wrap
  simp only [IntKind.signed, IntKind.bits, Bool.false_and, Bool.false_eq_true, if_false]
  exact Int.emod_eq_of_lt h0 (by omega)
theorem wrap_u64' (n : Int) (h0 : 18446744073709551616 ≤ n) (h1 : n < 36893488147419103232) : IntKind.u64.wrap n = n - 18446744073709551616 := by
  unfold IntKind.wrap
  simp only [IntKind.signed, IntKind.bits, Bool.false_and, Bool.false_eq_true, if_false]
  omega
theorem wrap_u8 (n : Int) (h0 : 0 ≤ n) (h1 : n < 256) : IntKind.u8.wrap n = n := by
  unfold IntKind.wrap
  simp only [IntKind.signed, IntKind.bits, Bool.false_and, Bool.false_eq_true, if_false]
  exact Int.emod_eq_of_lt h0 (by omega)
@[simp] theorem concErr : Tryz.prog.concrete 470 = true := by kernel_rfl
@[simp] theorem concNum : Tryz.prog.concrete 473 = true := by kernel_rfl
def uintOf (s : Bs) : AV := if numVal s < 18446744073709551616 then .tuple [.int .u64 (numVal s), .niliface] else .tuple [.int .u64 18446744073709551615, .iface 470 (.int .i64 1)]
set_option maxRecDepth 100000 in
theorem parseUint (s : Bs) (hd : ∀ b ∈ s, isDigit b = true) (hs : s ≠ []) (hl : s.length ≤ 1000000) (H : AHeap) :
    Does Tryz.prog G 358 [.str s, .int .i64 10, .int .i64 64] H fun r H' => r = uintOf s ∧ H' = H := by
  refine Does.forgot (R := fun r H' => r = uintOf s ∧ ∀ j x, H.get j = some x → H'.get j = some x) ?_ ?_
  · refine Does.wf Tryz.call358 fun hw _ => ?_
    have old : ∀ j x, H.get j = some x → j ≠ H.next := fun j x hj => by have := next_lt hw hj; omega
    refine does_f Tryz.call358 Tryz.func358 rfl (by simp [Tryz.f358]) ?_
    have hs1 : s.isEmpty = false := by cases s <;> simp_all
    have e1 : IntKind.u64.wrap 64 = 64 := by decide
    have e2 : IntKind.u64.wrap (2 ^ min 64 IntKind.u64.bits) = 0 := by decide
    have e3 : IntKind.u64.wrap (-1) = 18446744073709551615 := by decide
    simp [hs1, e1, e2, e3]
    refine aws_loop (fun m T' H' => ∃ a b, s = a ++ b ∧ m = b.length ∧ numVal a < 18446744073709551616 ∧ T' 1 = .int .i64 10 ∧ T' 8 = .bool false ∧ T' 10 = .int .u64 1844674407370955162 ∧ T' 11 = .int .u64 18446744073709551615 ∧ T' 12 = .bool false ∧ T' 13 = .int .u64 (numVal a) ∧
      T' 99 = .sl H.next 0 1 s.length s.length true ∧ T' 100 = .int .i64 s.length ∧ T' 101 = .int .i64 a.length ∧ H' = H.push (.cells (strCs s))) s.length ⟨[], s, rfl, rfl, by decide, by simp [numVal, strCs]⟩ ?_
    rintro m T H' ⟨a, b, rfl, rfl, hv, h1, h8, h10, h11, h12, h13, h99, h100, h101, rfl⟩
    simp only [List.length_append] at hl h99 h100
    cases b with
    | nil =>
      simp [h1, h8, h10, h11, h12, h13, h99, h100, h101]
      refine ⟨?_, ?_⟩
      · simp [uintOf, hv]
      · intro j x hj
        simp [hj, old j x hj]
    | cons c b =>
      simp only [List.length_cons] at hl
      have hc := hd c (by simp)
      simp only [isDigit, Bool.and_eq_true, decide_eq_true_eq] at hc
      obtain ⟨hc1, hc2⟩ := hc
      obtain ⟨d, hdd⟩ : ∃ d, d = c.toNat - 48 := ⟨_, rfl⟩
      have hlt : (a.length : Int) < a.length + (b.length + 1) := by omega
      have hle : a.length ≤ a.length + (b.length + 1) := by omega
      have hw1 : IntKind.i64.wrap ((a.length : Int) + 1) = a.length + 1 := IntWalk.i64_in _ (by omega)
      have hdr : List.drop a.length (strCs (a ++ c :: b)) = .int .u8 c.toNat :: strCs b := by
        rw [strCs_append', List.drop_left' (by simp [strCs])]; rfl
      have hsl : (strCs (a ++ c :: b)).length = a.length + (b.length + 1) := by simp [strCs]
      have n1 : ¬ (c.toNat : Int) = 95 := by omega
      have n2 : (48 : Int) ≤ c.toNat := by omega
      have n3 : (c.toNat : Int) ≤ 57 := by omega
      have n4 : IntKind.u8.wrap ((c.toNat : Int) - 48) = d := by rw [wrap_u8 _ (by omega) (by omega)]; omega
      have n5 : IntKind.u8.wrap 10 = 10 := by decide
      have n6 : ¬ (10 : Int) ≤ d := by omega
      have n7 : IntKind.u64.wrap 10 = 10 := by decide
      have n8 : IntKind.u64.wrap (d : Int) = d := wrap_u64 _ (by omega) (by omega)
      have hn : numVal (a ++ [c]) = 10 * numVal a + d := by rw [numVal_snoc]; omega
      have hge := numVal_ge (a ++ [c]) b
      rw [List.append_assoc, List.singleton_append] at hge
      obtain ⟨v, hvv⟩ : ∃ v, v = numVal a := ⟨_, rfl⟩
      rw [← hvv] at hv h13 hn
      by_cases g1 : 1844674407370955162 ≤ v
      · have g1' : (1844674407370955162 : Int) ≤ v := by omega
        have hbig : ¬ numVal (a ++ c :: b) < 18446744073709551616 := by omega
        simp [h1, h8, h10, h11, h12, h13, h99, h100, h101, hlt, hle, hdr, hsl, n1, n2, n3, n4, n5, n6, n7, n8, g1']
        refine ⟨?_, ?_⟩
        · unfold uintOf; rw [if_neg hbig]
        · intro j x hj
          simp [hj, old j x hj]
      · have g1' : ¬ (1844674407370955162 : Int) ≤ v := by omega
        have m1 : IntKind.u64.wrap ((v : Int) * 10) = v * 10 := wrap_u64 _ (by omega) (by omega)
        by_cases g2 : 10 * v + d < 18446744073709551616
        · have m2 : IntKind.u64.wrap ((v : Int) * 10 + d) = v * 10 + d := wrap_u64 _ (by omega) (by omega)
          have m3 : ¬ ((v : Int) * 10 + d < v * 10) := by omega
          have m4 : ¬ ((18446744073709551615 : Int) < v * 10 + d) := by omega
          simp [h1, h8, h10, h11, h12, h13, h99, h100, h101, hlt, hle, hdr, hsl, n1, n2, n3, n4, n5, n6, n7, n8, g1', m1, m2, m3, m4, hw1]
          refine ⟨b.length, by omega, a ++ [c], b, by simp, rfl, by omega, ?_⟩
          simp [hn]
          omega
        · have m2 : IntKind.u64.wrap ((v : Int) * 10 + d) = v * 10 + d - 18446744073709551616 := wrap_u64' _ (by omega) (by omega)
          have m3 : ((v : Int) * 10 + d - 18446744073709551616 < v * 10) := by omega
          have hbig : ¬ numVal (a ++ c :: b) < 18446744073709551616 := by omega
          simp [h1, h8, h10, h11, h12, h13, h99, h100, h101, hlt, hle, hdr, hsl, n1, n2, n3, n4, n5, n6, n7, n8, g1', m1, m2, m3]
          refine ⟨?_, ?_⟩
          · unfold uintOf; rw [if_neg hbig]
          · intro j x hj
            simp [hj, old j x hj]
  · rintro hw ha r H1 ⟨rfl, h⟩
    refine ⟨h, ?_, rfl, rfl⟩
    unfold uintOf; split <;> rfl
end Go.Proofs.YtnhomjhfaoipmaaGreatDoor

namespace Go.Proofs.YtnhomjhfaoipmaaGreatDoor
open Go Go.Abs Go.Lex
set_option linter.unusedSimpArgs false
variable {G : Nat → Option AV}
theorem wrap_i64 (n : Int) (h0 : 0 ≤ n) (h1 : n < 9223372036854775808) : IntKind.i64.wrap n = n := IntWalk.i64_in _ (by omega)
def intOf (s : Bs) : AV := if numVal s < 9223372036854775808 then .tuple [.int .i64 (numVal s), .niliface] else .tuple [.int .i64 9223372036854775807, .iface 470 (.int .i64 1)]
set_option maxRecDepth 100000 in
theorem parseInt (s : Bs) (hd : ∀ b ∈ s, isDigit b = true) (hs : s ≠ []) (hl : s.length ≤ 1000000) (H : AHeap) :
    Does Tryz.prog G 342 [.str s, .int .i64 10, .int .i64 64] H fun r H' => r = intOf s ∧ H' = H := by
  refine does_f Tryz.call342 Tryz.func342 rfl (by simp [Tryz.f342]) ?_
  cases s with
  | nil => exact absurd rfl hs
  | cons c q =>
    have hc := hd c (by simp)
    simp only [isDigit, Bool.and_eq_true, decide_eq_true_eq] at hc
    have n1 : ¬ (c.toNat : Int) = 43 := by omega
    have n2 : ¬ (c.toNat : Int) = 45 := by omega
    have m1 : (0 : Int) < q.length + 1 := by omega
    simp [n1, n2, m1]
    refine does_use (parseUint (c :: q) hd hs hl H) ?_
    rintro _ _ ⟨rfl, rfl⟩
    have e1 : IntKind.u64.wrap 63 = 63 := by decide
    have e2 : IntKind.u64.wrap (2 ^ min 63 IntKind.u64.bits) = 9223372036854775808 := by decide
    have e3 : IntKind.u64.wrap 9223372036854775807 = 9223372036854775807 := by decide
    have e4 : IntKind.i64.wrap 9223372036854775807 = 9223372036854775807 := by decide
    have e5 : IntKind.i64.wrap 63 = 63 := by decide
    have e6 : Tryz.t470.comparable = true := by kernel_rfl
    obtain ⟨v, hv⟩ : ∃ v, v = numVal (c :: q) := ⟨_, rfl⟩
    unfold uintOf intOf
    rw [← hv]
    by_cases g1 : v < 9223372036854775808
    · have g2 : v < 18446744073709551616 := by omega
      have g3 : ¬ (9223372036854775808 : Int) ≤ v := by omega
      have g4 : IntKind.i64.wrap (v : Int) = v := wrap_i64 _ (by omega) (by omega)
      rw [if_pos g2, if_pos g1]
      simp [e1, e2, e3, e4, e5, e6, g3, g4]
    · rw [if_neg g1]
      by_cases g2 : v < 18446744073709551616
      · have g3 : (9223372036854775808 : Int) ≤ v := by omega
        rw [if_pos g2]
        simp [e1, e2, e3, e4, e5, e6, g3]
      · rw [if_neg g2]
        simp [e1, e2, e3, e4, e5, e6]
theorem mixedOrders : Tryz.prog.follows .mixedOrders = true := by kernel_rfl
def HasErr (G : Nat → Option AV) : Prop := ∃ t v, G 2 = some (.vptr [.iface t v])
set_option maxRecDepth 100000 in
theorem rangeError (s : Bs) (fn : Bs) (hl : s.length ≤ 1000000) (hG : HasErr G) (H : AHeap) : Does Tryz.prog G 360 [.str fn, .str s] H fun r H' => r = .ptr H.next 0 ∧ ∃ cs, H' = H.push (.cells cs) := by
  obtain ⟨et, ev, he⟩ := hG
  refine does_f Tryz.call360 Tryz.func360 rfl (by simp [Tryz.f360]) ?_
  simp
  refine aw_drawn [(3, 0), (3, 3)] ?_ ?_ ?_
  · exact mixedOrders
  · kernel_rfl
  intro es hes
  simp
  refine ⟨_, _, copy_does isCopy s (by omega) H, by simp, ?_⟩
  simp [he, rds, heapF]
  refine ⟨?_, _, rfl⟩
  subst hes
  exact ⟨by kernel_rfl, by kernel_rfl⟩
set_option maxRecDepth 100000 in
theorem toError (s : Bs) (fn : Bs) (hl : s.length ≤ 1000000) (hG : HasErr G) (H : AHeap) : Does Tryz.prog G 343 [.str fn, .str s, .int .i64 10, .int .i64 64, .iface 470 (.int .i64 1)] H fun r H' => r = .iface 473 (.ptr H.next 0) ∧ ∃ cs, H' = H.push (.cells cs) := by
  have e6 : Tryz.t470.comparable = true := by kernel_rfl
  refine does_f Tryz.call343 Tryz.func343 rfl (by simp [Tryz.f343]) ?_
  simp [e6]
  refine does_use (rangeError s fn hl hG H) ?_
  rintro _ _ ⟨rfl, cs, rfl⟩
  simp
  exact ⟨cs, rfl⟩
set_option maxRecDepth 100000 in
theorem parseInt' (s : Bs) (hd : ∀ b ∈ s, isDigit b = true) (hs : s ≠ []) (hl : s.length ≤ 1000000) (hG : HasErr G) (H : AHeap) :
    Does Tryz.prog G 314 [.str s, .int .i64 10, .int .i64 64] H fun r H' => (if numVal s < 9223372036854775808 then r = .tuple [.int .i64 (numVal s), .niliface] ∧ H' = H else r = .tuple [.int .i64 9223372036854775807, .iface 473 (.ptr H.next 0)] ∧ ∃ cs, H' = H.push (.cells cs)) := by
  refine does_f Tryz.call314 Tryz.func314 rfl (by simp [Tryz.f314]) ?_
  simp
  refine does_use (parseInt s hd hs hl H) ?_
  rintro _ _ ⟨rfl, rfl⟩
  unfold intOf
  by_cases h : numVal s < 9223372036854775808
  · rw [if_pos h]
    simp [h]
  · rw [if_neg h]
    simp [h]
    refine does_use (toError s _ hl hG _) ?_
    rintro _ _ ⟨rfl, cs, rfl⟩
    simp
    exact ⟨by omega, cs, rfl⟩
def numN (s : Bs) : Int := if numVal s < 9223372036854775808 then numVal s else 9223372036854775807
def numOk (s : Bs) : Bool := decide (numVal s < 9223372036854775808) && (decide (s.length = 1) || decide (s.head? ≠ some 48))
set_option maxRecDepth 100000 in
theorem number_does (s : Bs) (hd : ∀ b ∈ s, isDigit b = true) (hs : s ≠ []) (hl : s.length ≤ 1000000) (hG : HasErr G) (H : AHeap) :
    Does Tryz.prog G 266 [.str s] H fun r H' => r = .tuple [.agg [.int .i64 3, .str s, .int .i64 (numN s), .int .i64 0], .bool (numOk s)] ∧ H' = H := by
  refine Does.forgot (R := fun r H' => r = .tuple [.agg [.int .i64 3, .str s, .int .i64 (numN s), .int .i64 0], .bool (numOk s)] ∧ ∀ j x, H.get j = some x → H'.get j = some x) ?_ ?_
  · refine Does.wf Tryz.call266 fun hw _ => ?_
    have old : ∀ j x, H.get j = some x → j ≠ H.next ∧ j ≠ H.next + 1 := fun j x hj => by have := next_lt hw hj; omega
    refine does_f Tryz.call266 Tryz.func266 rfl (by simp [Tryz.f266]) ?_
    simp
    refine does_use (parseInt' s hd hs hl hG _) ?_
    rintro r H1 hr
    obtain ⟨c, q, rfl⟩ : ∃ c q, s = c :: q := by
      cases s with
      | nil => exact absurd rfl hs
      | cons c q => exact ⟨c, q, rfl⟩
    have h0 : (0 : Int) < q.length + 1 := by omega
    have hg : (if numVal (c :: q) < 9223372036854775808 then r = .tuple [.int .i64 (numVal (c :: q)), .niliface] else ∃ i, r = .tuple [.int .i64 9223372036854775807, .iface 473 (.ptr i 0)]) ∧ H1.get H.next = some (.cells [.int .i64 0, .str [], .int .i64 0, .int .i64 0]) ∧ ∀ j x, H.get j = some x → H1.get j = some x := by
      by_cases h : numVal (c :: q) < 9223372036854775808
      · rw [if_pos h] at hr ⊢
        obtain ⟨rfl, rfl⟩ := hr
        exact ⟨rfl, by simp, fun j x hj => by simp [hj, old j x hj]⟩
      · rw [if_neg h] at hr ⊢
        obtain ⟨rfl, cs, rfl⟩ := hr
        exact ⟨⟨_, rfl⟩, by simp, fun j x hj => by simp [hj, old j x hj]⟩
    clear hr
    obtain ⟨hr, hf, hk⟩ := hg
    have fin : ∀ j x, H.get j = some x → ∀ cs, (H1.set H.next (.cells cs)).get j = some x := fun j x hj cs => by
      simp only [AHeap.get_set]
      rw [if_neg (old j x hj).1]; exact hk j x hj
    by_cases h : numVal (c :: q) < 9223372036854775808
    · rw [if_pos h] at hr
      subst hr
      simp
      refine aw_drawn [] mixedOrders (by kernel_rfl) ?_
      intro es hes
      by_cases hq : q = []
      · subst hq
        simp [hf, rds]
        refine ⟨?_, ?_, fun j x hj => ?_⟩
        · subst hes
          exact ⟨by kernel_rfl, by kernel_rfl⟩
        · simp [numN, numOk, h]
        · simp [old j x hj, hk j x hj]
      · have hq0 : q.length ≠ 0 := by simpa using hq
        have hq1 : ¬ ((q.length : Int) + 1 = 1) := by omega
        have hq2 : ((c.toNat : Int) = 48) ↔ c = 48 := by
          constructor
          · intro e
            have e1 : c.toNat = (48 : UInt8).toNat := by simpa using (by omega : c.toNat = 48)
            exact UInt8.toNat_inj.1 e1
          · rintro rfl; rfl
        simp [hf, rds, hq, hq1, h0]
        refine ⟨?_, ?_, fun j x hj => ?_⟩
        · subst hes
          exact ⟨by kernel_rfl, by kernel_rfl⟩
        · have hq3 : ((c.toNat : Int) != 48) = !decide (c = 48) := by
            rw [Bool.eq_iff_iff]
            simp [hq2]
          simp [numN, numOk, h, hq, hq3]
        · simp [old j x hj, hk j x hj]
    · rw [if_neg h] at hr
      obtain ⟨i, rfl⟩ := hr
      simp
      refine aw_drawn [] mixedOrders (by kernel_rfl) ?_
      intro es hes
      simp [hf, rds]
      refine ⟨?_, ?_, fun j x hj => ?_⟩
      · subst hes
        exact ⟨by kernel_rfl, by kernel_rfl⟩
      · simp [numN, numOk, h]
      · simp [old j x hj, hk j x hj]
  · rintro hw ha r H1 ⟨rfl, h⟩
    exact ⟨h, rfl, rfl, rfl⟩
end Go.Proofs.YtnhomjhfaoipmaaGreatDoor

namespace Go.Proofs.YtnhomjhfaoipmaaGreatDoor
open Go Go.Abs Go.Lex
set_option linter.unusedSimpArgs false
variable {G : Nat → Option AV}
def lettersL : Bs := [97,98,99,100,101,102,103,104,105,106,107,108,109,110,111,112,113,114,115,116,117,118,119,120,121,122]
def digitsL : Bs := [48,49,50,51,52,53,54,55,56,57]
def namesL : Bs := [97,98,99,100,101,102,103,104,105,106,107,108,109,110,111,112,113,114,115,116,117,118,119,120,121,122,48,49,50,51,52,53,54,55,56,57,95]
theorem byAll (p q : UInt8 → Bool) (h : ∀ n : Fin 256, p (UInt8.ofNat n.val) = q (UInt8.ofNat n.val)) (b : UInt8) : p b = q b := by
  have := h ⟨b.toNat, b.toNat_lt⟩
  simpa using this
theorem letters_eq (b : UInt8) : lettersL.contains b = isLetter b := byAll _ _ (by decide +kernel) b
theorem digits_eq (b : UInt8) : digitsL.contains b = isDigit b := byAll _ _ (by decide +kernel) b
theorem names_eq (b : UInt8) : namesL.contains b = isNamec b := byAll _ _ (by decide +kernel) b
theorem take_takeWhile (p : UInt8 → Bool) (s : Bs) : s.take (s.takeWhile p).length = s.takeWhile p := by
  have := List.takeWhile_prefix p (l := s)
  rw [List.prefix_iff_eq_take] at this
  exact this.symm
def wdCells (w : Wd) (i : Nat) : List AV := [.int .i64 w.kind, .str w.text, .int .i64 w.n, .int .i64 i]
def WordIs (s : Bs) (r : AV) : Prop := match wordS s with
  | some w => r = .tuple [.agg (wdCells w 0), .bool true]
  | none => ∃ k t n, r = .tuple [.agg [.int .i64 k, .str t, .int .i64 n, .int .i64 0], .bool false]
set_option maxRecDepth 100000 in
theorem word_does (c : UInt8) (q : Bs) (hl : (c :: q).length ≤ 1000000) (hG : HasErr G) (H : AHeap) : Does Tryz.prog G 215 [.str (c :: q)] H fun r H' => WordIs (c :: q) r ∧ H' = H := by
  refine Does.forgot (R := fun r H' => WordIs (c :: q) r ∧ ∀ j x, H.get j = some x → H'.get j = some x) ?_ ?_
  · refine Does.wf Tryz.call215 fun hw _ => ?_
    have old : ∀ j x, H.get j = some x → j ≠ H.next ∧ j ≠ H.next + 1 := fun j x hj => by have := next_lt hw hj; omega
    refine does_f Tryz.call215 Tryz.func215 rfl (by simp [Tryz.f215]) ?_
    have m1 : (1 : Int) ≤ q.length + 1 := by omega
    simp [m1]
    refine does_use (contains1 lettersL c _) ?_
    rintro _ _ ⟨rfl, rfl⟩
    rw [letters_eq]
    cases hL : isLetter c with
    | true =>
      simp
      refine does_use (while_does (c :: q) namesL isNamec names_eq (by decide) (by decide) (by decide) hl _) ?_
      rintro _ _ ⟨rfl, rfl⟩
      have ht := take_takeWhile isNamec (c :: q)
      have hle : ((c :: q).takeWhile isNamec).length ≤ (c :: q).length := (List.takeWhile_prefix isNamec).length_le
      obtain ⟨t, htt⟩ : ∃ t, t = (c :: q).takeWhile isNamec := ⟨_, rfl⟩
      rw [← htt] at ht hle ⊢
      simp only [List.length_cons] at hle
      have hle' : (t.length : Int) ≤ q.length + 1 := by omega
      simp [hle, hle', ht]
      refine does_use (kept_does t _) ?_
      rintro _ _ ⟨rfl, rfl⟩
      cases hk : kept t with
      | true =>
        simp
        refine ⟨?_, ?_⟩
        · simp [WordIs, wordS, hL, ← htt, hk, wdCells]
        · intro j x hj
          simp [hj, old j x hj]
      | false =>
        simp
        refine ⟨?_, ?_⟩
        · by_cases h24 : t.length ≤ 24
          · have : (t.length : Int) ≤ 24 := by omega
            simp [WordIs, wordS, hL, ← htt, hk, wdCells, h24, this]
          · have : ¬ (t.length : Int) ≤ 24 := by omega
            simp [WordIs, wordS, hL, ← htt, hk, wdCells, h24, this]
        · intro j x hj
          simp [hj, old j x hj]
    | false =>
      simp
      refine does_use (contains1 digitsL c _) ?_
      rintro _ _ ⟨rfl, rfl⟩
      rw [digits_eq]
      cases hD : isDigit c with
      | true =>
        simp
        refine does_use (while_does (c :: q) digitsL isDigit digits_eq (by decide) (by decide) (by decide) hl _) ?_
        rintro _ _ ⟨rfl, rfl⟩
        have ht := take_takeWhile isDigit (c :: q)
        have hle : ((c :: q).takeWhile isDigit).length ≤ (c :: q).length := (List.takeWhile_prefix isDigit).length_le
        have hall : ∀ b ∈ (c :: q).takeWhile isDigit, isDigit b = true := fun b hb => List.all_eq_true.1 (List.all_takeWhile) b hb
        have hcons : (c :: q).takeWhile isDigit = c :: q.takeWhile isDigit := by rw [List.takeWhile_cons, if_pos hD]
        obtain ⟨t, htt⟩ : ∃ t, t = (c :: q).takeWhile isDigit := ⟨_, rfl⟩
        rw [← htt] at ht hle hall hcons ⊢
        simp only [List.length_cons] at hle hl
        have hle' : (t.length : Int) ≤ q.length + 1 := by omega
        simp [hle, hle', ht]
        refine does_use (number_does t hall (by rw [hcons]; simp) (by omega) hG _) ?_
        rintro _ _ ⟨rfl, rfl⟩
        simp
        refine ⟨?_, ?_⟩
        · have hh : t.head? = some c := by rw [hcons]; rfl
          unfold WordIs wordS numOk numN
          simp only [hL, hD, ← htt, hh]
          by_cases g1 : numVal t < 9223372036854775808
          · by_cases g2 : t.length = 1 ∨ c ≠ 48
            · rcases g2 with g2 | g2 <;> simp [g1, g2, wdCells]
            · simp only [not_or] at g2
              simp [g1, g2.1, Decidable.not_not.1 g2.2]
          · simp [g1]
        · intro j x hj
          simp [hj, old j x hj]
      | false =>
        simp
        refine does_use (sign_does (c :: q) _) ?_
        rintro r _ ⟨hr, rfl⟩
        cases hs : signOf (c :: q) with
        | some t =>
          rw [hs] at hr
          simp only at hr
          subst hr
          simp
          refine ⟨?_, ?_⟩
          · simp [WordIs, wordS, hL, hD, hs, wdCells]
          · intro j x hj
            simp [hj, old j x hj]
        | none =>
          rw [hs] at hr
          simp only at hr
          subst hr
          simp
          refine ⟨?_, ?_⟩
          · simp [WordIs, wordS, hL, hD, hs, wdCells]
          · intro j x hj
            simp [hj, old j x hj]
  · rintro hw ha r H1 ⟨hr, h⟩
    refine ⟨h, ?_, hr, rfl⟩
    unfold WordIs at hr
    split at hr
    · subst hr; rfl
    · obtain ⟨k, t, n, rfl⟩ := hr; rfl
end Go.Proofs.YtnhomjhfaoipmaaGreatDoor
