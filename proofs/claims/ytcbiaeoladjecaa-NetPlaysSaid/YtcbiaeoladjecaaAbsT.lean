/-
  A simplified meaning for Go code, twentieth part: the evaluator on code and functions, and that it is right.
-/
import Derived.Test.YtcbiaeoladjecaaAbsS
namespace Go.Abs
open Go

structure Snap where
  T : List AV
  H : CH
  v : AV
  k : Kind

/-- Operations in the text's order, with what each gave. -/
def ctrace (ω : FuncId → List AV → CH → Option (AV × CH)) (P : Program) (G : Nat → Option AV) (ops : Array Oper) : List Oper → List AV → CH → Option (List Snap × List AV × CH)
  | [], T, H => some ([], T, H)
  | o :: r, T, H => match cstep ω P G ops o T H with
    | some (v, H', k) => match ctrace ω P G ops r (cput T o.dst v) H' with
      | some (s, T', H'') => some (⟨T, H, v, k⟩ :: s, T', H'')
      | none => none
    | none => none

/-- The same, without the record. -/
def cops (ω : FuncId → List AV → CH → Option (AV × CH)) (P : Program) (G : Nat → Option AV) (ops : Array Oper) : List Oper → List AV → CH → Option (List AV × CH)
  | [], T, H => some (T, H)
  | o :: r, T, H => match cstep ω P G ops o T H with
    | some (v, H', _) => cops ω P G ops r (cput T o.dst v) H'
    | none => none

def effIdx (s : List Snap) : List Nat := (s.zipIdx.filter fun (x, _) => x.k.isEff).map (·.2)

def effsOk (s : List Snap) (as : List Nat) : Bool :=
  s.zipIdx.all fun (y, j) => !y.k.isEff || s.zipIdx.all fun (x, i) => !decide (i < j) || !(x.k.isEff || x.k.isAlloc) || (as.getD j 0).testBit i

def monoOk : List Snap → CH → Bool
  | [], _ => true
  | [x], H => decide (x.H.next ≤ H.next)
  | x :: y :: r, H => decide (x.H.next ≤ y.H.next) && monoOk (y :: r) H

def heapAt (s : List Snap) (H : CH) (q : Nat) : CH := match s[q]? with
  | some x => x.H
  | none => H

def Kind.isRead : Kind → Bool
  | .read => true
  | _ => false

def readOk (P : Program) (G : Nat → Option AV) (o : Oper) (s : List Snap) (H : CH) (as es : List Nat) (x : Snap) (r : Nat) : Bool :=
  (0 :: es.map (· + 1)).all fun q =>
    (es.any fun e => decide (e < q) && (as.getD e 0).testBit r) || (es.any fun e => decide (q ≤ e) && (as.getD r 0).testBit e) ||
    (match aread P (aval G (tfun x.T)) (heapAt s H q).get o with | some v => v.beq x.v | none => false)

def readsOk (P : Program) (G : Nat → Option AV) (ops : Array Oper) (s : List Snap) (H : CH) (as : List Nat) : Bool :=
  s.zipIdx.all fun (x, r) => !x.k.isRead || (match ops[r]? with | some o => readOk P G o s H as (effIdx s) x r | none => true)

def regionOk (N : Nat) (ops : Array Oper) : Bool := backOk ops.toList && slotsOk ops (ancs ops.toList) && dstOk N ops.toList

/-- A region that draws its order. -/
def cdraw (ω : FuncId → List AV → CH → Option (AV × CH)) (P : Program) (G : Nat → Option AV) (N : Nat) (ops : Array Oper) (T : List AV) (H : CH) : Option (List AV × CH) :=
  if regionOk N ops then
    match ctrace ω P G ops ops.toList T H with
    | some (s, T', H') => if effsOk s (ancs ops.toList) && monoOk s H' && readsOk P G ops s H' (ancs ops.toList) then some (T', H') else none
    | none => none
  else none

section
variable {ω : FuncId → List AV → CH → Option (AV × CH)} {P : Program} {G : Nat → Option AV} {N : Nat} {ops : Array Oper}

theorem ctrace_spec (hω : Good P G ω) : ∀ (l : List Oper) (T : List AV) (H : CH) (s : List Snap) (T' : List AV) (H' : CH), ctrace ω P G ops l T H = some (s, T', H') →
    s.length = l.length ∧ (∀ i x o, s[i]? = some x → l[i]? = some o → Step P G ops o (tfun x.T) x.H.abs x.v x.k (heapAt s H' (i + 1)).abs ∧ (match s[i + 1]? with | some y => y.T | none => T') = cput x.T o.dst x.v) ∧
    ((match s[0]? with | some x => x.T | none => T') = T) ∧ heapAt s H' 0 = H
  | [], T, H, s, T', H', h => by
    simp only [ctrace, Option.some.injEq, Prod.mk.injEq] at h
    obtain ⟨rfl, rfl, rfl⟩ := h
    exact ⟨rfl, fun i x o h => by simp at h, rfl, rfl⟩
  | o :: r, T, H, s, T', H', h => by
    simp only [ctrace] at h
    split at h <;> try (simp at h; done)
    rename_i v H1 k hs
    split at h <;> try (simp at h; done)
    rename_i s' T2 H2 ht
    simp only [Option.some.injEq, Prod.mk.injEq] at h
    obtain ⟨rfl, rfl, rfl⟩ := h
    obtain ⟨h1, h2, h3, h4⟩ := ctrace_spec hω r _ _ _ _ _ ht
    refine ⟨by simp [h1], fun i x q hx hq => ?_, rfl, rfl⟩
    cases i with
    | zero =>
      simp only [List.getElem?_cons_zero, Option.some.injEq] at hx hq
      subst hx; subst hq
      refine ⟨?_, ?_⟩
      · have : heapAt (⟨T, H, v, k⟩ :: s') H2 (0 + 1) = heapAt s' H2 0 := rfl
        rw [this, h4]
        exact cstep_sound hω hs
      · exact h3
    | succ i =>
      have hx' : s'[i]? = some x := by simpa using hx
      have hq' : r[i]? = some q := by simpa using hq
      exact h2 i x q hx' hq'

theorem mono_spec : ∀ (s : List Snap) (H : CH), monoOk s H = true → ∀ i x, s[i]? = some x → x.H.next ≤ (heapAt s H (i + 1)).next
  | [], _, _, i, x, hx => by simp at hx
  | [y], H, h, i, x, hx => by
    cases i with
    | zero =>
      simp at hx; subst hx
      have e : heapAt [y] H (0 + 1) = H := rfl
      rw [e]
      simpa [monoOk] using h
    | succ i => simp at hx
  | y :: z :: r, H, h, i, x, hx => by
    simp only [monoOk, Bool.and_eq_true, decide_eq_true_eq] at h
    cases i with
    | zero => simp at hx; subst hx; exact h.1
    | succ i => exact mono_spec (z :: r) H h.2 i x (by simpa using hx)

theorem effIdx_mem {s : List Snap} {e : Nat} {x : Snap} (hx : s[e]? = some x) (hk : x.k.isEff = true) : e ∈ effIdx s := by
  unfold effIdx
  rw [List.mem_map]
  exact ⟨(x, e), by rw [List.mem_filter]; exact ⟨mem_zipIdx hx, hk⟩, rfl⟩

theorem effIdx_of {s : List Snap} {e : Nat} (h : e ∈ effIdx s) : ∃ x, s[e]? = some x ∧ x.k.isEff = true := by
  unfold effIdx at h
  rw [List.mem_map] at h
  obtain ⟨⟨x, i⟩, h1, rfl⟩ := h
  rw [List.mem_filter] at h1
  exact ⟨x, List.mem_zipIdx_iff_getElem?.1 h1.1, h1.2⟩

theorem cdraw_sound (hm : P.follows .mixedOrders = true) (hω : Good P G ω) {T T' : List AV} {H H' : CH} (hN : T.length = N) {id : Nat} {Q : Exit → (Nat → AV) → AHeap → Prop} (h : cdraw ω P G N ops T H = some (T', H')) (hQ : Q .normal (tfun T') H'.abs) :
    AW P G N (.region id ops true) Q (tfun T) H.abs ∧ T'.length = N := by
  unfold cdraw at h
  split at h <;> try (simp at h; done)
  rename_i hok
  split at h <;> try (simp at h; done)
  rename_i s T2 H2 ht
  split at h <;> try (simp at h; done)
  rename_i hc
  simp only [Option.some.injEq, Prod.mk.injEq] at h
  obtain ⟨rfl, rfl⟩ := h
  simp only [regionOk, Bool.and_eq_true] at hok hc
  obtain ⟨⟨hback, hslots⟩, hdst⟩ := hok
  obtain ⟨⟨heffs, hmono⟩, hreads⟩ := hc
  obtain ⟨h1, h2, h3, h4⟩ := ctrace_spec hω _ _ _ _ _ _ ht
  have hlen : s.length = ops.size := by rw [h1]; exact Array.length_toList
  let tAt : Nat → List AV := fun i => match s[i]? with | some y => y.T | none => T2
  let vAt : Nat → AV := fun i => match s[i]? with | some y => y.v | none => undefA
  let kAt : Nat → Kind := fun i => match s[i]? with | some y => y.k | none => .idle
  have hget : ∀ i, i < ops.size → ∃ x, s[i]? = some x := fun i hi => ⟨s[i]'(by omega), List.getElem?_eq_getElem (by omega)⟩
  have hdst' := dstOk_spec hdst
  have tlen : ∀ i, i ≤ ops.size → (tAt i).length = N := by
    intro i
    induction i with
    | zero => intro _; show (tAt 0).length = N; rw [show tAt 0 = T from h3]; exact hN
    | succ i ih =>
      intro hi
      obtain ⟨x, hx⟩ := hget i (by omega)
      obtain ⟨o, ho⟩ := get_of (ops := ops) (i := i) (by omega)
      have := (h2 i x o hx (by simpa using ho)).2
      have e : tAt (i + 1) = cput x.T o.dst x.v := this
      rw [e, cput_length]
      have ih := ih (by omega)
      have e2 : tAt i = x.T := by simp only [tAt, hx]
      rw [← e2]; exact ih
  let R : Run P G N ops :=
    { T := fun i => tfun (tAt i)
      H := fun i => (heapAt s H2 i).abs
      v := vAt
      k := kAt
      step := fun i o ho => by
        obtain ⟨x, hx⟩ := hget i (get_lt ho)
        have := (h2 i x o hx (by simpa using ho)).1
        have e1 : tAt i = x.T := by simp only [tAt, hx]
        have e2 : vAt i = x.v := by simp only [vAt, hx]
        have e3 : kAt i = x.k := by simp only [kAt, hx]
        have e4 : heapAt s H2 i = x.H := by simp only [heapAt, hx]
        show Step P G ops o (tfun (tAt i)) (heapAt s H2 i).abs (vAt i) (kAt i) (heapAt s H2 (i + 1)).abs
        rw [e1, e2, e3, e4]; exact this
      put := fun i o ho => by
        obtain ⟨x, hx⟩ := hget i (get_lt ho)
        have := (h2 i x o hx (by simpa using ho)).2
        have e : tAt (i + 1) = cput x.T o.dst x.v := this
        have e1 : tAt i = x.T := by simp only [tAt, hx]
        have e2 : vAt i = x.v := by simp only [vAt, hx]
        show tfun (tAt (i + 1)) = tput (tfun (tAt i)) o.dst (vAt i)
        rw [e, e2, e1]
        exact cput_fun (N := N) (by rw [← e1]; exact tlen i (Nat.le_of_lt (get_lt ho))) o.dst x.v (hdst' i o ho)
      dst := hdst'
      mono := fun i hi => by
        obtain ⟨x, hx⟩ := hget i hi
        have e4 : heapAt s H2 i = x.H := by simp only [heapAt, hx]
        show (heapAt s H2 i).next ≤ (heapAt s H2 (i + 1)).next
        rw [e4]; exact mono_spec s H2 hmono i x hx
      back := backOk_spec hback
      slots := slotsOk_spec hslots
      effs := fun i j hij hj hk hk' => by
        obtain ⟨x, hx⟩ := hget i (by omega)
        obtain ⟨y, hy⟩ := hget j hj
        have ex : kAt i = x.k := by simp only [kAt, hx]
        have ey : kAt j = y.k := by simp only [kAt, hy]
        rw [ey] at hk
        rw [ex] at hk'
        unfold effsOk at heffs
        rw [List.all_eq_true] at heffs
        have := heffs (y, j) (mem_zipIdx hy)
        simp only [hk, Bool.not_true, Bool.false_or, List.all_eq_true] at this
        have := this (x, i) (mem_zipIdx hx)
        simp only [hij, decide_true, Bool.not_true, Bool.false_or] at this
        have hor : (x.k.isEff || x.k.isAlloc) = true := by simpa using hk'
        rw [hor] at this
        exact ancs_sound (by simpa using this)
      reads := fun r o ho hk q hq hq0 hlo hhi => by
        obtain ⟨x, hx⟩ := hget r (get_lt ho)
        have ex : kAt r = x.k := by simp only [kAt, hx]
        have e1 : tAt r = x.T := by simp only [tAt, hx]
        have e2 : vAt r = x.v := by simp only [vAt, hx]
        have hk : kAt r = .read := hk
        rw [ex] at hk
        unfold readsOk at hreads
        rw [List.all_eq_true] at hreads
        have := hreads (x, r) (mem_zipIdx hx)
        simp only [hk, Kind.isRead, Bool.not_true, Bool.false_or, ho] at this
        unfold readOk at this
        rw [List.all_eq_true] at this
        have hqm : q ∈ (0 :: (effIdx s).map (· + 1)) := by
          rcases hq0 with rfl | ⟨e, rfl, he⟩
          · simp
          · obtain ⟨z, hz⟩ := hget e (by omega)
            have ez : kAt e = z.k := by simp only [kAt, hz]
            have he : (kAt e).isEff = true := he
            rw [ez] at he
            exact List.mem_cons_of_mem _ (List.mem_map.2 ⟨e, effIdx_mem hz he, rfl⟩)
        have := this q hqm
        simp only [Bool.or_eq_true, List.any_eq_true, Bool.and_eq_true, decide_eq_true_eq] at this
        show aread P (aval G (tfun (tAt r))) (heapAt s H2 q).abs.get o = some (vAt r)
        rw [e1, e2]
        rcases this with (⟨e, he, h5, h6⟩ | ⟨e, he, h5, h6⟩) | h5
        · obtain ⟨z, hz, hzk⟩ := effIdx_of he
          have ez : kAt e = z.k := by simp only [kAt, hz]
          exact absurd (ancs_sound h6) (hlo e h5 (by show (kAt e).isEff = true; rw [ez]; exact hzk))
        · obtain ⟨z, hz, hzk⟩ := effIdx_of he
          have ez : kAt e = z.k := by simp only [kAt, hz]
          have hes : e < ops.size := by
            rcases Nat.lt_or_ge e s.length with q | q
            · omega
            · rw [List.getElem?_eq_none q] at hz; simp at hz
          exact absurd (ancs_sound h6) (hhi e h5 hes (by show (kAt e).isEff = true; rw [ez]; exact hzk))
        · split at h5
          · rename_i v hv
            rw [← AV.beq_eq _ _ h5]; exact hv
          · simp at h5 }
  have hend1 : tAt ops.size = T2 := by
    simp only [tAt]
    rw [List.getElem?_eq_none (by omega)]
  have hend2 : heapAt s H2 ops.size = H2 := by
    unfold heapAt
    rw [List.getElem?_eq_none (by omega)]
  refine ⟨aw_draw hm R ?_ ?_ ?_, ?_⟩
  · show tfun (tAt 0) = tfun T; rw [show tAt 0 = T from h3]
  · show (heapAt s H2 0).abs = H.abs; rw [h4]
  · show Q .normal (tfun (tAt ops.size)) (heapAt s H2 ops.size).abs
    rw [hend1, hend2]; exact hQ
  · rw [← hend1]; exact tlen ops.size (Nat.le_refl _)

theorem step_al {o : Oper} {rest : List Oper} {T : Nat → AV} {H H' : AHeap} {v : AV} {k : Kind} {Q : Exit → (Nat → AV) → AHeap → Prop} (hs : Step P G ops o T H v k H') (hd : ∀ j, o.dst = some j → j < N) (h : AL P G N ops rest Q (tput T o.dst v) H') : AL P G N ops (o :: rest) Q T H := by
  have run : awanted ops T o = true → (∀ (E : Env) (w : World) (a : Act), Rel E H w → GRel E G → TRel E N T a.tmps → OpRes P E w (execOp a.eval o) v H') → AL P G N ops (o :: rest) Q T H := by
    intro hw hop E0 a w hG hs
    obtain ⟨⟨E, hx, hR, hT⟩, hdf⟩ := hs
    unfold wpList
    rw [awanted_eq hT, hw, if_pos rfl]
    obtain ⟨E', u, w', g1, g2, g3, g4⟩ := hop E w a hR (hG.mono hx.knows) hT
    refine .inl (wp_of_run g4 (h E0 _ w' hG ⟨⟨E', hx.trans g1, g3, (hT.mono g1.knows).put o.dst g2 hd⟩, ?_⟩))
    cases o.dst <;> exact hdf
  cases k with
  | idle =>
    obtain ⟨h1, h2⟩ := hs
    subst h2
    rcases h1 with ⟨h1, hv⟩ | ⟨h1, hv⟩
    · subst hv; exact al_skip h1 hd h
    · exact run h1 fun E w a hR hG hT => .ofPure hR (apure_sound (hT.operands hG _) hv)
  | read =>
    obtain ⟨h1, hv, h2⟩ := hs
    subst h2
    exact run h1 fun E w a hR hG hT => .ofRead hR (aread_sound hR (hT.operands hG _) hv)
  | alloc cs =>
    obtain ⟨h1, f, hal, hv, h2⟩ := hs
    subst h2; subst hv
    exact run h1 fun E w a hR hG hT => .ofLays hR (aalloc_sound (hT.operands hG _) hal)
  | eff =>
    obtain ⟨h1, h2⟩ := hs
    rcases h2 with ⟨e, he, rfl⟩ | ⟨f, args, hc, hd'⟩
    · exact run h1 fun E w a hR hG hT => aeff_sound hR (hT.operands hG _) he
    · refine al_call h1 hd hc (hd'.mono ?_)
      rintro r H'' ⟨rfl, rfl⟩
      exact h

theorem cops_sound (hω : Good P G ω) {Q : Exit → (Nat → AV) → AHeap → Prop} : ∀ (l : List Oper) (T : List AV) (H : CH) (T' : List AV) (H' : CH), dstOk N l = true → T.length = N → cops ω P G ops l T H = some (T', H') → Q .normal (tfun T') H'.abs → AL P G N ops l Q (tfun T) H.abs ∧ T'.length = N
  | [], T, H, T', H', _, hN, h, hQ => by
    simp only [cops, Option.some.injEq, Prod.mk.injEq] at h
    obtain ⟨rfl, rfl⟩ := h
    exact ⟨al_nil hQ, hN⟩
  | o :: r, T, H, T', H', hd, hN, h, hQ => by
    simp only [cops] at h
    split at h <;> try (simp at h; done)
    rename_i v H1 k hs
    have hd0 : ∀ j, o.dst = some j → j < N := fun j hj => by
      unfold dstOk at hd
      rw [List.all_cons, Bool.and_eq_true] at hd
      have := hd.1
      rw [hj] at this
      simpa using this
    have hdr : dstOk N r = true := by
      unfold dstOk at hd ⊢
      rw [List.all_cons, Bool.and_eq_true] at hd
      exact hd.2
    obtain ⟨g1, g2⟩ := cops_sound hω r _ _ _ _ hdr (by rw [cput_length]; exact hN) h hQ
    rw [cput_fun hN o.dst v hd0] at g1
    exact ⟨step_al (cstep_sound hω hs) hd0 g1, g2⟩

end

/-- A piece of code, evaluated. -/
noncomputable def cexec (ω : FuncId → List AV → CH → Option (AV × CH)) (P : Program) (G : Nat → Option AV) (N : Nat) (n : Nat) : Code → List AV → CH → Option (Exit × List AV × CH) :=
  Nat.rec (fun _ _ _ => none) (fun _ ih c T H => match c with
    | .skip => some (.normal, T, H)
    | .region _ ops true => match cdraw ω P G N ops T H with
      | some (T', H') => some (.normal, T', H')
      | none => none
    | .region _ ops false => if dstOk N ops.toList then
        match cops ω P G ops ops.toList T H with
        | some (T', H') => some (.normal, T', H')
        | none => none
      else none
    | .seq a b => match ih a T H with
      | some (.normal, T', H') => ih b T' H'
      | r => r
    | .cond x a b => match aval G (tfun T) x with
      | some (.bool true) => ih a T H
      | some (.bool false) => ih b T H
      | _ => none
    | .block id c => match ih c T H with
      | some (.exit i, T', H') => if i = id then some (.normal, T', H') else some (.exit i, T', H')
      | r => r
    | .loop c => match ih c T H with
      | some (.normal, T', H') => ih (.loop c) T' H'
      | r => r
    | .exit id => some (.exit id, T, H)
    | .ret => some (.ret, T, H)
    | _ => none) n

/-- A call, evaluated; ov: functions that are known otherwise. -/
noncomputable def ccall (ov : FuncId → List AV → CH → Option (Option (AV × CH))) (P : Program) (G : Nat → Option AV) (fuel : Nat) (n : Nat) : FuncId → List AV → CH → Option (AV × CH) :=
  Nat.rec (fun _ _ _ => none) (fun _ ih f args H => match ov f args H with
    | some r => r
    | none => match P.funcs[f]? with
      | some fn => match fn.body with
        | some c => if args.length ≤ fn.ntmps then
            match cexec ih P G fn.ntmps fuel c (args ++ List.replicate (fn.ntmps - args.length) undefA) H with
            | some (.normal, T, H') => (ares P (tfun T) H'.get fn.results.toList).map fun r => (r, H')
            | some (.ret, T, H') => (ares P (tfun T) H'.get fn.results.toList).map fun r => (r, H')
            | _ => none
          else none
        | none => none
      | none => none) n

theorem cexec_sound {ω : FuncId → List AV → CH → Option (AV × CH)} {P : Program} {G : Nat → Option AV} {N : Nat} (hm : P.follows .mixedOrders = true) (hω : Good P G ω) :
    ∀ (n : Nat) (c : Code) (T : List AV) (H : CH) (e : Exit) (T' : List AV) (H' : CH) (Q : Exit → (Nat → AV) → AHeap → Prop), T.length = N → cexec ω P G N n c T H = some (e, T', H') → Q e (tfun T') H'.abs → AW P G N c Q (tfun T) H.abs ∧ T'.length = N := by
  intro n
  induction n using Nat.strongRecOn with
  | _ n IH =>
  intro c T H e T' H' Q hN h hQ
  cases n with
  | zero => simp [cexec] at h
  | succ n =>
    have ih := IH n (by omega)
    cases c with
    | skip =>
      simp only [cexec, Option.some.injEq, Prod.mk.injEq] at h
      obtain ⟨rfl, rfl, rfl⟩ := h
      exact ⟨aw_skip hQ, hN⟩
    | region id ops d =>
      cases d with
      | true =>
        simp only [cexec] at h
        split at h <;> try (simp at h; done)
        rename_i T2 H2 hd
        simp only [Option.some.injEq, Prod.mk.injEq] at h
        obtain ⟨rfl, rfl, rfl⟩ := h
        exact cdraw_sound hm hω hN hd hQ
      | false =>
        simp only [cexec] at h
        split at h <;> try (simp at h; done)
        rename_i hd
        split at h <;> try (simp at h; done)
        rename_i T2 H2 ho
        simp only [Option.some.injEq, Prod.mk.injEq] at h
        obtain ⟨rfl, rfl, rfl⟩ := h
        obtain ⟨g1, g2⟩ := cops_sound hω _ _ _ _ _ hd hN ho hQ
        exact ⟨aw_region g1, g2⟩
    | seq a b =>
      have h : (match cexec ω P G N n a T H with | some (.normal, T', H') => cexec ω P G N n b T' H' | r => r) = some (e, T', H') := h
      split at h
      · rename_i T1 H1 ha
        have hb := fun Q hQ => ih b T1 H1 e T' H' Q ((ih a T H .normal T1 H1 (fun _ _ _ => True) hN ha trivial).2) h hQ
        obtain ⟨g1, g2⟩ := hb Q hQ
        exact ⟨aw_seq (ih a T H .normal T1 H1 (QThen (fun T H => AW P G N b Q T H) Q) hN ha g1).1, g2⟩
      · rename_i hne
        have hq : QThen (fun T H => AW P G N b Q T H) Q e (tfun T') H'.abs := by
          cases e with
          | normal => exact absurd h (hne T' H')
          | exit _ => exact hQ
          | goto _ => exact hQ
          | ret => exact hQ
          | panic _ => exact hQ
          | outgrown => exact hQ
        obtain ⟨g1, g2⟩ := ih a T H e T' H' _ hN h hq
        exact ⟨aw_seq g1, g2⟩
    | cond x a b =>
      have h : (match aval G (tfun T) x with | some (.bool true) => cexec ω P G N n a T H | some (.bool false) => cexec ω P G N n b T H | _ => none) = some (e, T', H') := h
      split at h <;> try (simp at h; done)
      · rename_i hx
        obtain ⟨g1, g2⟩ := ih a T H e T' H' Q hN h hQ
        exact ⟨aw_cond hx g1, g2⟩
      · rename_i hx
        obtain ⟨g1, g2⟩ := ih b T H e T' H' Q hN h hQ
        exact ⟨aw_cond hx g1, g2⟩
    | block id c =>
      have h : (match cexec ω P G N n c T H with | some (.exit i, T', H') => if i = id then some (.normal, T', H') else some (.exit i, T', H') | r => r) = some (e, T', H') := h
      split at h
      · rename_i i T1 H1 hc
        split at h
        · rename_i hid
          simp only [Option.some.injEq, Prod.mk.injEq] at h
          obtain ⟨rfl, rfl, rfl⟩ := h
          obtain ⟨g1, g2⟩ := ih c T H (.exit i) T1 H1 (QBlock id Q) hN hc (by simp only [QBlock]; rw [if_pos hid]; exact hQ)
          exact ⟨aw_block g1, g2⟩
        · rename_i hid
          simp only [Option.some.injEq, Prod.mk.injEq] at h
          obtain ⟨rfl, rfl, rfl⟩ := h
          obtain ⟨g1, g2⟩ := ih c T H (.exit i) T1 H1 (QBlock id Q) hN hc (by simp only [QBlock]; rw [if_neg hid]; exact hQ)
          exact ⟨aw_block g1, g2⟩
      · rename_i hne
        have hq : QBlock id Q e (tfun T') H'.abs := by
          cases e with
          | exit i => exact absurd h (hne i T' H')
          | normal => exact hQ
          | goto _ => exact hQ
          | ret => exact hQ
          | panic _ => exact hQ
          | outgrown => exact hQ
        obtain ⟨g1, g2⟩ := ih c T H e T' H' _ hN h hq
        exact ⟨aw_block g1, g2⟩
    | loop c =>
      have hlen : T'.length = N := by
        have h : (match cexec ω P G N n c T H with | some (.normal, T', H') => cexec ω P G N n (.loop c) T' H' | r => r) = some (e, T', H') := h
        split at h
        · rename_i T1 H1 hc
          exact (ih (.loop c) T1 H1 e T' H' (fun _ _ _ => True) (ih c T H .normal T1 H1 (fun _ _ _ => True) hN hc trivial).2 h trivial).2
        · exact (ih c T H e T' H' (fun _ _ _ => True) hN h trivial).2
      refine ⟨aw_loop (I := fun m T0 H0 => m ≤ n + 1 ∧ ∃ Tl Hl, T0 = tfun Tl ∧ H0 = CH.abs Hl ∧ Tl.length = N ∧ cexec ω P G N m (.loop c) Tl Hl = some (e, T', H')) (n + 1) ⟨Nat.le_refl _, T, H, rfl, rfl, hN, h⟩ ?_, hlen⟩
      rintro m T0 H0 ⟨hmn, Tl, Hl, rfl, rfl, hNl, hl⟩
      cases m with
      | zero => simp [cexec] at hl
      | succ m =>
        have ihm := IH m (by omega)
        have hl : (match cexec ω P G N m c Tl Hl with | some (.normal, T', H') => cexec ω P G N m (.loop c) T' H' | r => r) = some (e, T', H') := hl
        split at hl
        · rename_i T1 H1 hc
          exact (ihm c Tl Hl .normal T1 H1 _ hNl hc ⟨m, by omega, by omega, T1, H1, rfl, rfl, (ihm c Tl Hl .normal T1 H1 (fun _ _ _ => True) hNl hc trivial).2, hl⟩).1
        · rename_i hne
          refine (ihm c Tl Hl e T' H' _ hNl hl ?_).1
          cases e with
          | normal => exact absurd hl (hne T' H')
          | exit _ => exact hQ
          | goto _ => exact hQ
          | ret => exact hQ
          | panic _ => exact hQ
          | outgrown => exact hQ
    | exit id =>
      simp only [cexec, Option.some.injEq, Prod.mk.injEq] at h
      obtain ⟨rfl, rfl, rfl⟩ := h
      exact ⟨aw_exit hQ, hN⟩
    | ret =>
      simp only [cexec, Option.some.injEq, Prod.mk.injEq] at h
      obtain ⟨rfl, rfl, rfl⟩ := h
      exact ⟨aw_ret hQ, hN⟩
    | rangeFunc _ _ _ _ => simp [cexec] at h
    | scope _ => simp [cexec] at h
    | label _ => simp [cexec] at h
    | goto _ => simp [cexec] at h
    | refuse _ => simp [cexec] at h

/-- A function has a body and is none that the model runs by itself. -/
def plainFn (P : Program) : Bool := P.funcs.toList.all fun fn => fn.name != "runtime.NumGoroutine"

theorem enters_of {P : Program} (h : plainFn P = true) {f : FuncId} {fn : Func} {c : Code} (hf : P.funcs[f]? = some fn) (hb : fn.body = some c) : Enters P f := by
  intro args w
  unfold plainFn at h
  rw [List.all_eq_true] at h
  have hn := h fn (List.mem_of_getElem? (i := f) (by simpa using hf))
  have hn' : (fn.name == "runtime.NumGoroutine") = false := by simpa using hn
  simp only [callFunc, Sem.run_bind, run_program, Result.andThen_ok, hf, hn', hb]
  rfl

def OvGood (P : Program) (G : Nat → Option AV) (ov : FuncId → List AV → CH → Option (Option (AV × CH))) : Prop :=
  ∀ f args H r H', ov f args H = some (some (r, H')) → Does P G f args H.abs fun r' h => r' = r ∧ h = H'.abs

theorem ccall_sound {ov : FuncId → List AV → CH → Option (Option (AV × CH))} {P : Program} {G : Nat → Option AV} {fuel : Nat} (hm : P.follows .mixedOrders = true) (hp : plainFn P = true) (hov : OvGood P G ov) :
    ∀ n, Good P G (ccall ov P G fuel n)
  | 0 => fun f args H r H' h => by simp [ccall] at h
  | n + 1 => fun f args H r H' h => by
    have ih := ccall_sound (P := P) (G := G) (fuel := fuel) hm hp hov n
    have h : (match ov f args H with
      | some r => r
      | none => match P.funcs[f]? with
        | some fn => match fn.body with
          | some c => if args.length ≤ fn.ntmps then
              match cexec (ccall ov P G fuel n) P G fn.ntmps fuel c (args ++ List.replicate (fn.ntmps - args.length) undefA) H with
              | some (.normal, T, H') => (ares P (tfun T) H'.get fn.results.toList).map fun r => (r, H')
              | some (.ret, T, H') => (ares P (tfun T) H'.get fn.results.toList).map fun r => (r, H')
              | _ => none
            else none
          | none => none
        | none => none) = some (r, H') := h
    split at h
    · rename_i x hx
      subst h
      exact hov _ _ _ _ _ hx
    · split at h <;> try (simp at h; done)
      rename_i fn hf
      split at h <;> try (simp at h; done)
      rename_i c hb
      split at h <;> try (simp at h; done)
      rename_i hn
      have hT0 : tfun (args ++ List.replicate (fn.ntmps - args.length) undefA) = fun t => args.getD t undefA := by
        funext t
        simp only [tfun, List.getD, List.getElem?_append]
        split
        · rfl
        · rename_i hlt
          rw [List.getElem?_eq_none (Nat.le_of_not_lt hlt), List.getElem?_replicate]
          split <;> rfl
      have fin : ∀ e T1 H1, (e = .normal ∨ e = .ret) → cexec (ccall ov P G fuel n) P G fn.ntmps fuel c (args ++ List.replicate (fn.ntmps - args.length) undefA) H = some (e, T1, H1) → ((ares P (tfun T1) H1.get fn.results.toList).map fun r => (r, H1)) = some (r, H') →
          Does P G f args H.abs fun r' h => r' = r ∧ h = H'.abs := by
        intro e T1 H1 he hc hr
        simp only [Option.map_eq_some_iff, Prod.mk.injEq] at hr
        obtain ⟨r1, hr1, rfl, rfl⟩ := hr
        refine does_of (enters_of hp hf hb) hf hb hn ?_
        rw [← hT0]
        exact (cexec_sound hm ih fuel c _ H e T1 H1 _ (by simp; omega) hc ⟨he, r1, hr1, rfl, rfl⟩).1
      split at h <;> try (simp at h; done)
      · rename_i T1 H1 hc; exact fin _ T1 H1 (.inl rfl) hc h
      · rename_i T1 H1 hc; exact fin _ T1 H1 (.inr rfl) hc h

end Go.Abs
