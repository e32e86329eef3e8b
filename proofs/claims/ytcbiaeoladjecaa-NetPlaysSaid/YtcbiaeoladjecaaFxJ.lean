/-
  A quick evaluator for closed calls: a region that draws its order and where a read is not in order with what writes: the read is looked at wherever it may stand.
-/
import Derived.Test.YtcbiaeoladjecaaFxH
namespace Go.Abs
open Go

structure Snp where
  w : Bool
  T : ET
  H : FH
  v : AV

/-- Operations, one behind the other, with a record (the last first). -/
noncomputable def runM (ω : Om) (P : Program) (G : Nat → Option AV) (l : List FOper) : Nat → List Snp → ET → FH → (List Snp → ET → FH → Bool) → Bool :=
  List.rec (motive := fun _ => Nat → List Snp → ET → FH → (List Snp → ET → FH → Bool) → Bool) (fun _ s T H k => k s T H)
    (fun fo _ ih base s T H k => FOper.rec (motive := fun _ => Bool) (fun g d e f o =>
      guardK g T (f.run ω P G o base T H fun v H' => v.force fun v => putD d v T fun T' => ih (ifK e H'.next base) (⟨true, T, H, v⟩ :: s) T' H' k) (putD d undefA T fun T' => ih base (⟨false, T, H, undefA⟩ :: s) T' H k)) fo) l

structure SRel (P : Program) (G : Nat → Option AV) (ops : Array Oper) (o : Oper) (x : Full) (y : Snp) : Prop where
  T : y.T.fn = x.T
  H : y.H.abs = x.H
  v : y.v = x.v
  e : x.k.isEff = (y.w && (fcop P G o).isE)
  r : x.k.isRead = true → y.w = true
  w : y.w = true → awanted ops x.T o = true

inductive SRels (P : Program) (G : Nat → Option AV) (ops : Array Oper) : List Oper → List Full → List Snp → Prop
  | nil : SRels P G ops [] [] []
  | cons {o : Oper} {x : Full} {y : Snp} {l : List Oper} {u : List Full} {s : List Snp} (h : SRel P G ops o x y) (t : SRels P G ops l u s) : SRels P G ops (o :: l) (x :: u) (y :: s)

section
variable {ω : Om} {P : Program} {G : Nat → Option AV} {N : Nat} {ops : Array Oper}

theorem SRels.length {l : List Oper} {u : List Full} {s : List Snp} (h : SRels P G ops l u s) : u.length = l.length ∧ s.length = l.length := by
  induction h with
  | nil => exact ⟨rfl, rfl⟩
  | cons _ _ ih => simp [ih.1, ih.2]
theorem SRels.at {l : List Oper} {u : List Full} {s : List Snp} (h : SRels P G ops l u s) : ∀ {i : Nat} {o : Oper} {x : Full}, l[i]? = some o → u[i]? = some x → ∃ y, s[i]? = some y ∧ SRel P G ops o x y := by
  induction h with
  | nil => intro i o x h; simp at h
  | cons h _ ih =>
    intro i o x ho hx
    cases i with
    | zero => simp at ho hx; subst ho; subst hx; exact ⟨_, rfl, h⟩
    | succ i => simpa using ih (by simpa using ho) (by simpa using hx)

theorem runM_inv (hω : GoodK P G ω) (hN : N ≤ 1024) : ∀ (l : List Oper) (base : Nat) (acc : List Snp) (T : ET) (H : FH) (k : List Snp → ET → FH → Bool), dstOk N l = true → runM ω P G (l.map (fcoper P G ops true)) base acc T H k = true →
    ∃ u s T' H', Tr P G ops l T.fn H.abs u T'.fn (FH.abs H') ∧ H.next ≤ H'.next ∧ BOk P G true H'.abs l u base ∧ SRels P G ops l u s ∧ k (s.reverse ++ acc) T' H' = true
  | [], base, acc, T, H, k, _, h => ⟨[], [], T, H, .nil, Nat.le_refl _, trivial, .nil, h⟩
  | o :: l, base, acc, T, H, k, hd, h => by
    have h : guardK (fcg ops o) T ((fcop P G o).run ω P G o base T H fun v H' => v.force fun v => putD (fcd o) v T fun T' => runM ω P G (l.map (fcoper P G ops true)) (ifK (true && (fcop P G o).isE) H'.next base) (⟨true, T, H, v⟩ :: acc) T' H' k)
        (putD (fcd o) undefA T fun T' => runM ω P G (l.map (fcoper P G ops true)) base (⟨false, T, H, undefA⟩ :: acc) T' H k) = true := h
    have hd0 : ∀ j, o.dst = some j → j < N := fun j hj => by
      unfold dstOk at hd
      rw [List.all_cons, Bool.and_eq_true] at hd
      have := hd.1
      rw [hj] at this
      simpa using this
    have hdr : dstOk N l = true := by
      unfold dstOk at hd ⊢
      rw [List.all_cons, Bool.and_eq_true] at hd
      exact hd.2
    rcases guardK_inv h with ⟨hw, h⟩ | ⟨hw, h⟩
    · obtain ⟨v, kd, H1, hs, hn, he, ha, hr0, hr, h⟩ := fcop_sound hω hw h
      have h := (AV.force_eq v _).symm.trans h
      obtain ⟨T1, hT1, h⟩ := putD_eq hN hd0 h
      obtain ⟨u, s, T', H', htr, hn', hb, hsr, hk⟩ := runM_inv hω hN l _ _ T1 H1 k hdr h
      refine ⟨⟨T.fn, H.abs, v, kd⟩ :: u, ⟨true, T, H, v⟩ :: s, T', H', .cons hs hn (by rw [← hT1]; exact htr), by omega, ⟨fun h => he ▸ h, ha, fun h => ⟨hr0 ▸ h, hr h⟩, ?_⟩, .cons ⟨rfl, rfl, rfl, by rw [he, Bool.true_and], fun _ => rfl, fun _ => hw⟩ hsr, by simpa using hk⟩
      have h0 : hAt u H'.abs 0 = H1.abs := (tr_spec htr).1
      rw [h0]
      rw [← he] at hb
      show BOk P G true H'.abs l u (if true = true ∧ kd.isEff = true then H1.next else base)
      cases hk : kd.isEff <;> rw [hk] at hb <;> exact hb
    · obtain ⟨T1, hT1, h⟩ := putD_eq hN hd0 h
      obtain ⟨u, s, T', H', htr, hn', hb, hsr, hk⟩ := runM_inv hω hN l _ _ T1 H k hdr h
      refine ⟨⟨T.fn, H.abs, undefA, .idle⟩ :: u, ⟨false, T, H, undefA⟩ :: s, T', H', .cons ⟨.inl ⟨hw, rfl⟩, rfl⟩ (Nat.le_refl _) (by rw [← hT1]; exact htr), hn', ⟨fun h => by simp [Kind.isEff] at h, fun h => by simp [Kind.isAlloc] at h, fun h => by simp [Kind.isRead] at h, ?_⟩,
        .cons ⟨rfl, rfl, rfl, rfl, fun h => by simp [Kind.isRead] at h, fun h => by simp at h⟩ hsr, by simpa using hk⟩
      rw [if_neg (by simp [Kind.isEff])]
      exact hb

/-- Of what writes alone. -/
def effOk (fs : List Flags) (as : List Nat) : Bool :=
  fs.zipIdx.all fun (y, j) => fs.zipIdx.all fun (x, i) => !decide (i < j) || !(y.e && (x.e || x.a)) || (as.getD j 0).testBit i
theorem effOk_spec {fs : List Flags} (h : effOk fs (ancs ops.toList) = true) (hfs : fs = ops.toList.map fun o => flagsOf (fcop P G o)) : EffOrd P G ops := by
  intro i j o q hij ho hq hE hc
  subst hfs
  unfold effOk at h
  rw [List.all_eq_true] at h
  have := h (_, j) (mem_zipIdx (flags_at hq))
  simp only [List.all_eq_true] at this
  have := this (_, i) (mem_zipIdx (flags_at ho))
  simp only [hij, decide_true, Bool.not_true, Bool.false_or] at this
  have e : ((flagsOf (fcop P G q)).e && ((flagsOf (fcop P G o)).e || (flagsOf (fcop P G o)).a)) = true := by rcases hc with hc | hc <;> simp [flagsOf, hE, hc]
  rw [e] at this
  exact ancs_sound this

/-- The places of what writes. -/
def effPl (fs : List Flags) : List Nat := (fs.zipIdx.filter fun (x, _) => x.e).map (·.2)
def softAt (fs : List Flags) (as : List Nat) (r : Nat) : Bool := (effPl fs).all fun e => (!decide (e < r) || (as.getD r 0).testBit e) && (!decide (r < e) || (as.getD e 0).testBit r)
/-- The places of the reads that are not in order with all that writes. -/
def hardPl (fs : List Flags) (as : List Nat) : List Nat := ((fs.zipIdx.filter fun (x, _) => x.r).map (·.2)).filter fun r => !softAt fs as r

def heapS (s : List Snp) (H : FH) (q : Nat) : FH := match s[q]? with
  | some x => x.H
  | none => H
noncomputable def checkR (ω : Om) (P : Program) (G : Nat → Option AV) (ops : Array Oper) (es as : List Nat) (s : List Snp) (H : FH) (r : Nat) : Bool :=
  match ops[r]?, s[r]? with
  | some o, some x => !x.w || (0 :: es.map (· + 1)).all fun q =>
      (es.any fun e => decide (e < q) && ((match s[e]? with | some y => y.w | none => false) && (as.getD e 0).testBit r)) || (es.any fun e => decide (q ≤ e) && ((match s[e]? with | some y => y.w | none => false) && (as.getD r 0).testBit e)) ||
      (fcop P G o).run ω P G o 1048576 x.T (heapS s H q) fun v _ => AV.beq v x.v
  | _, _ => false

theorem effPl_mem {fs : List Flags} {e : Nat} {x : Flags} (hx : fs[e]? = some x) (he : x.e = true) : e ∈ effPl fs := by
  unfold effPl
  rw [List.mem_map]
  exact ⟨(x, e), by rw [List.mem_filter]; exact ⟨mem_zipIdx hx, he⟩, rfl⟩
theorem effPl_of {fs : List Flags} {e : Nat} (h : e ∈ effPl fs) : ∃ x, fs[e]? = some x ∧ x.e = true := by
  unfold effPl at h
  rw [List.mem_map] at h
  obtain ⟨⟨x, i⟩, h1, rfl⟩ := h
  rw [List.mem_filter] at h1
  exact ⟨x, List.mem_zipIdx_iff_getElem?.1 h1.1, h1.2⟩

theorem checked_draw (hm : P.follows .mixedOrders = true) (hω : GoodK P G ω) (hok : regionOk N ops = true) (fs : List Flags) (hfs : fs = ops.toList.map fun o => flagsOf (fcop P G o)) (heff : effOk fs (ancs ops.toList) = true)
    {T T' : Nat → AV} {H : AHeap} {H' : FH} {u : List Full} {s : List Snp} {Q : Exit → (Nat → AV) → AHeap → Prop} {id : Nat} (htr : Tr P G ops ops.toList T H u T' H'.abs) (hb : BOk P G true H'.abs ops.toList u H.next) (hsr : SRels P G ops ops.toList u s)
    (hck : (hardPl fs (ancs ops.toList)).all (checkR ω P G ops (effPl fs) (ancs ops.toList) s H') = true) (hQ : Q .normal T' H'.abs) : AW P G N (.region id ops true) Q T H := by
  refine gen_draw hm hok (effOk_spec heff hfs) (fun r x o hx ho hr => ?_) htr hb hQ
  have hol : ops.toList[r]? = some o := by simpa using ho
  have hR := ((BOk.at ops.toList u H.next r x o hb hx hol).2.2 hr).1
  have hfr : fs[r]? = some (flagsOf (fcop P G o)) := by rw [hfs]; exact flags_at ho
  cases hsoft : softAt fs (ancs ops.toList) r with
  | true =>
    refine .inl fun e q hq hE => ?_
    unfold softAt at hsoft
    rw [List.all_eq_true] at hsoft
    have hfe : fs[e]? = some (flagsOf (fcop P G q)) := by rw [hfs]; exact flags_at hq
    have := hsoft e (effPl_mem hfe hE)
    simp only [Bool.and_eq_true, Bool.or_eq_true, Bool.not_eq_true', decide_eq_false_iff_not] at this
    exact ⟨fun he => ancs_sound (this.1.resolve_left fun h => h he), fun he => ancs_sound (this.2.resolve_left fun h => h he)⟩
  | false =>
    refine .inr fun q hq hq0 hlo hhi => ?_
    have hmem : r ∈ hardPl fs (ancs ops.toList) := by
      unfold hardPl
      rw [List.mem_filter, List.mem_map]
      exact ⟨⟨(flagsOf (fcop P G o), r), by rw [List.mem_filter]; exact ⟨mem_zipIdx hfr, hR⟩, rfl⟩, by simp [hsoft]⟩
    rw [List.all_eq_true] at hck
    have hc := hck r hmem
    obtain ⟨y, hy, hs⟩ := hsr.at hol hx
    unfold checkR at hc
    simp only [ho, hy] at hc
    have hw := hs.r hr
    rw [hw] at hc
    simp only [Bool.not_true, Bool.false_or] at hc
    rw [List.all_eq_true] at hc
    have eff_of : ∀ e y', u[e]? = some y' → y'.k.isEff = true → e ∈ effPl fs ∧ ∃ z, s[e]? = some z ∧ z.w = true := fun e y' hy' hye => by
      have hlt : e < ops.size := by
        have := hsr.length.1
        rcases Nat.lt_or_ge e u.length with g | g
        · simp at this; omega
        · rw [List.getElem?_eq_none g] at hy'; simp at hy'
      obtain ⟨o2, ho2⟩ := get_of hlt
      obtain ⟨z, hz, hzs⟩ := hsr.at (by simpa using ho2) hy'
      have hE := (BOk.at ops.toList u H.next e y' o2 hb hy' (by simpa using ho2)).1 hye
      refine ⟨effPl_mem (x := flagsOf (fcop P G o2)) (by rw [hfs]; exact flags_at ho2) hE, z, hz, ?_⟩
      have := hzs.e
      rw [hye] at this
      cases hzw : z.w
      · rw [hzw] at this; simp at this
      · rfl
    have hqm : q ∈ (0 :: (effPl fs).map (· + 1)) := by
      rcases hq0 with rfl | ⟨e, y', rfl, hy', hye⟩
      · simp
      · exact List.mem_cons_of_mem _ (List.mem_map.2 ⟨e, (eff_of e y' hy' hye).1, rfl⟩)
    have hcq := hc q hqm
    have isEff_of : ∀ e, e ∈ effPl fs → (match s[e]? with | some y => y.w | none => false) = true → ∃ y', u[e]? = some y' ∧ y'.k.isEff = true := fun e he hwe => by
      obtain ⟨f, hf, hfe⟩ := effPl_of he
      cases hse : s[e]? with
      | none => rw [hse] at hwe; simp at hwe
      | some z =>
        rw [hse] at hwe
        have hlt : e < ops.size := by
          have := hsr.length.2
          rcases Nat.lt_or_ge e s.length with g | g
          · simp at this; omega
          · rw [List.getElem?_eq_none g] at hse; simp at hse
        obtain ⟨o2, ho2⟩ := get_of hlt
        have hul : e < u.length := by have := hsr.length.1; simp at this; omega
        obtain ⟨z', hz', hzs⟩ := hsr.at (i := e) (by simpa using ho2) (List.getElem?_eq_getElem hul)
        rw [hse] at hz'; simp only [Option.some.injEq] at hz'; subst hz'
        refine ⟨_, List.getElem?_eq_getElem hul, ?_⟩
        rw [hzs.e]
        have : (fcop P G o2).isE = true := by
          rw [hfs, flags_at ho2] at hf
          simp only [Option.some.injEq] at hf
          rw [← hf] at hfe; exact hfe
        simp only at hwe
        rw [hwe, this]; rfl
    simp only [Bool.or_eq_true, List.any_eq_true, Bool.and_eq_true, decide_eq_true_eq] at hcq
    rcases hcq with (⟨e, he, h5, h6, h7⟩ | ⟨e, he, h5, h6, h7⟩) | h5
    · obtain ⟨y', hy', hye⟩ := isEff_of e he h6
      exact absurd (ancs_sound h7) (hlo e y' h5 hy' hye)
    · obtain ⟨y', hy', hye⟩ := isEff_of e he h6
      exact absurd (ancs_sound h7) (hhi e y' h5 hy' hye)
    · have hwn : awanted ops y.T.fn o = true := by rw [hs.T]; exact hs.w hw
      obtain ⟨v, kd, H1, _, _, _, _, hr0, hr1, hk⟩ := fcop_sound (T := y.T) (H := heapS s H' q) hω hwn h5
      have hkr : kd.isRead = true := by rw [hr0]; exact hR
      have := hr1 hkr (heapS s H' q).abs.get (fun _ _ => rfl)
      have hv : v = y.v := AV.beq_eq _ _ hk
      have hH : (heapS s H' q).abs = hAt u H'.abs q := by
        unfold heapS hAt
        rcases Nat.lt_or_ge q ops.size with g | g
        · obtain ⟨o2, ho2⟩ := get_of g
          have hul : q < u.length := by have := hsr.length.1; simp at this; omega
          obtain ⟨z, hz, hzs⟩ := hsr.at (i := q) (by simpa using ho2) (List.getElem?_eq_getElem hul)
          rw [hz, List.getElem?_eq_getElem hul]
          exact hzs.H
        · rw [List.getElem?_eq_none (by have := hsr.length.2; simp at this; omega), List.getElem?_eq_none (by have := hsr.length.1; simp at this; omega)]
      rw [← hH, ← hs.T, ← hs.v, ← hv]
      exact this
end
end Go.Abs
