/-
  A quick evaluator for closed calls, ninth part: code, calls, and closed statements.
-/
import Derived.Test.YtcbiaeoladjecaaFxJ
import Derived.Test.YtcbiaeoladjecaaAbsU
namespace Go.Abs
open Go

abbrev KC := ET → FH → Bool

def regOk (P : Program) (G : Nat → Option AV) (N : Nat) (ops : Array Oper) : Bool := regionOk N ops && statOk (ops.toList.map fun o => flagsOf (fcop P G o)) (ancs ops.toList)

def regOkM (P : Program) (G : Nat → Option AV) (N : Nat) (ops : Array Oper) : Bool := regionOk N ops && effOk (ops.toList.map fun o => flagsOf (fcop P G o)) (ancs ops.toList)

/-- A piece of code: what comes behind it, at a return, at a way out. -/
noncomputable def fexec (ω : Om) (P : Program) (G : Nat → Option AV) (N n : Nat) (c : Code) : KC → KC → (Nat → KC) → ET → FH → Bool :=
  Code.rec (motive := fun _ => KC → KC → (Nat → KC) → ET → FH → Bool)
    (fun kn _ _ T H => kn T H)
    (fun _ ops d kn _ _ T H => ifK d
      (ifK (regOk P G N ops) (runL ω P G (ops.toList.map (fcoper P G ops true)) H.next T H kn)
        (ifK (regOkM P G N ops) (runM ω P G (ops.toList.map (fcoper P G ops true)) H.next [] T H fun s T H' =>
          ifK ((hardPl (ops.toList.map fun o => flagsOf (fcop P G o)) (ancs ops.toList)).all (checkR ω P G ops (effPl (ops.toList.map fun o => flagsOf (fcop P G o))) (ancs ops.toList) s.reverse H')) (kn T H') false) false))
      (ifK (dstOk N ops.toList) (runL ω P G (ops.toList.map (fcoper P G ops false)) 1048576 T H kn) false))
    (fun _ _ iha ihb kn kr ke T H => iha (fun T H => ihb kn kr ke T H) kr ke T H)
    (fun x _ _ iha ihb kn kr ke T H => optK (fx G x) fun y => (y.get T).onBool false fun b => ifK b (iha kn kr ke T H) (ihb kn kr ke T H))
    (fun id _ ih kn kr ke T H => ih kn kr (fun i => ifK (Nat.beq i id) kn (ke i)) T H)
    (fun _ ih _ kr ke T H => Nat.rec (motive := fun _ => ET → FH → Bool) (fun _ _ => false) (fun _ lp T H => ih lp kr ke T H) n T H)
    (fun _ _ _ _ _ _ _ _ _ _ _ => false)
    (fun id _ _ ke T H => ke id T H)
    (fun _ _ _ _ _ _ _ => false)
    (fun _ _ _ _ _ _ => false)
    (fun _ _ _ _ _ _ => false)
    (fun _ kr _ T H => kr T H)
    (fun _ _ _ _ _ _ => false) c

def contOf (kn kr : KC) (ke : Nat → KC) : Exit → KC
  | .normal => kn
  | .ret => kr
  | .exit i => ke i
  | _ => fun _ _ => false

noncomputable def resK (P : Program) (G : Nat → Option AV) (rs : List ResultVar) (T : ET) (H : FH) : (List AV → Bool) → Bool :=
  List.rec (motive := fun _ => (List AV → Bool) → Bool) (fun k => k [])
    (fun r _ ih k => ResultVar.rec (motive := fun _ => Bool)
      (fun t => optK (fx G (.tmp t)) fun x => ih fun vs => k (x.get T :: vs))
      (fun a t => optK (fx G (.tmp a)) fun x => optK (aagg P t) fun g => optK (asize P t) fun n => loadK 1048576 g n (x.get T) H fun v _ => v.force fun v => ih fun vs => k (v :: vs)) r) rs

noncomputable def oneK (vs : List AV) (k : AV → Bool) : Bool := List.rec (motive := fun _ => Bool) (k (.tuple [])) (fun a r _ => List.rec (motive := fun _ => Bool) (k a) (fun _ _ _ => k (.tuple vs)) r) vs

noncomputable def initK (vs : List AV) : Nat → ET → (ET → Bool) → Bool :=
  List.rec (motive := fun _ => Nat → ET → (ET → Bool) → Bool) (fun _ T k => k T) (fun v _ ih i T k => ET.put (P32.of (Nat.div i 32)) (P32.of (Nat.mod i 32)) v T fun T => natK (Nat.add i 1) fun i => ih i T k) vs

abbrev Ov := FuncId → Option (List AV → FH → (AV → FH → Bool) → Bool)

/-- A call; ov: functions that are known otherwise. -/
noncomputable def fcall (ov : Ov) (P : Program) (G : Nat → Option AV) (fuel n : Nat) : Om :=
  Nat.rec (motive := fun _ => Om) (fun _ _ _ _ => false) (fun _ ih f args H k =>
    Option.rec (motive := fun _ => Bool)
      (optK (P.funcs[f]?) fun fn => optK fn.body fun c => ifK (Nat.ble (lenN args) fn.ntmps) (ifK (Nat.ble fn.ntmps 1024)
        (initK args 0 ET.none fun T =>
          fexec ih P G fn.ntmps fuel c (fun T H => resK P G fn.results.toList T H fun vs => oneK vs fun v => k v H) (fun T H => resK P G fn.results.toList T H fun vs => oneK vs fun v => k v H) (fun _ _ _ => false) T H) false) false)
      (fun g => g args H k) (ov f)) n

section
variable {ω : Om} {P : Program} {G : Nat → Option AV} {N : Nat}

theorem fexec_sound (hm : P.follows .mixedOrders = true) (hω : GoodK P G ω) (hN : N ≤ 1024) (n : Nat) : ∀ (c : Code) (kn kr : KC) (ke : Nat → KC) (T : ET) (H : FH), fexec ω P G N n c kn kr ke T H = true →
    ∃ e T' H', (∀ Q : Exit → (Nat → AV) → AHeap → Prop, Q e (ET.fn T') (FH.abs H') → AW P G N c Q T.fn H.abs) ∧ H.next ≤ H'.next ∧ contOf kn kr ke e T' H' = true := by
  intro c
  induction c with
  | skip => exact fun kn kr ke T H h => ⟨.normal, T, H, fun Q hQ => aw_skip hQ, Nat.le_refl _, h⟩
  | region id ops d =>
    intro kn kr ke T H h
    cases d with
    | true =>
      have h : ifK (regOk P G N ops) (runL ω P G (ops.toList.map (fcoper P G ops true)) H.next T H kn)
        (ifK (regOkM P G N ops) (runM ω P G (ops.toList.map (fcoper P G ops true)) H.next [] T H fun s T H' =>
          ifK ((hardPl (ops.toList.map fun o => flagsOf (fcop P G o)) (ancs ops.toList)).all (checkR ω P G ops (effPl (ops.toList.map fun o => flagsOf (fcop P G o))) (ancs ops.toList) s.reverse H')) (kn T H') false) false) = true := h
      cases hrg : regOk P G N ops with
      | true =>
        rw [hrg, ifK_true] at h
        simp only [regOk, Bool.and_eq_true] at hrg
        have hd : dstOk N ops.toList = true := by
          have := hrg.1
          simp only [regionOk, Bool.and_eq_true] at this
          exact this.2
        obtain ⟨u, T', H', htr, hn, hb, hk⟩ := runL_inv hω hN true ops.toList _ T H kn hd h
        exact ⟨.normal, T', H', fun Q hQ => quiet_draw hm hrg.1 hrg.2 htr hb hQ, hn, hk⟩
      | false =>
        rw [hrg, ifK_false] at h
        obtain ⟨h1, h⟩ := ifK_inv h
        simp only [regOkM, Bool.and_eq_true] at h1
        have hd : dstOk N ops.toList = true := by
          have := h1.1
          simp only [regionOk, Bool.and_eq_true] at this
          exact this.2
        obtain ⟨u, s, T', H', htr, hn, hb, hsr, hk⟩ := runM_inv hω hN ops.toList _ [] T H _ hd h
        obtain ⟨h2, h3⟩ := ifK_inv hk
        simp only [List.append_nil, List.reverse_reverse] at h2
        exact ⟨.normal, T', H', fun Q hQ => checked_draw hm hω h1.1 _ rfl h1.2 htr hb hsr h2 hQ, hn, h3⟩
    | false =>
      have h : ifK (dstOk N ops.toList) (runL ω P G (ops.toList.map (fcoper P G ops false)) 1048576 T H kn) false = true := h
      obtain ⟨h1, h⟩ := ifK_inv h
      obtain ⟨u, T', H', htr, hn, hb, hk⟩ := runL_inv hω hN false ops.toList _ T H kn h1 h
      exact ⟨.normal, T', H', fun Q hQ => aw_region (tr_al htr h1 hQ), hn, hk⟩
  | seq a b iha ihb =>
    intro kn kr ke T H h
    obtain ⟨e, T1, H1, h1, h2, h3⟩ := iha (fun T H => fexec ω P G N n b kn kr ke T H) kr ke T H h
    cases e with
    | normal =>
      obtain ⟨e', T2, H2, g1, g2, g3⟩ := ihb kn kr ke T1 H1 h3
      exact ⟨e', T2, H2, fun Q hQ => aw_seq (h1 (QThen (fun T H => AW P G N b Q T H) Q) (g1 Q hQ)), by omega, g3⟩
    | exit i => exact ⟨.exit i, T1, H1, fun Q hQ => aw_seq (h1 (QThen (fun T H => AW P G N b Q T H) Q) hQ), h2, h3⟩
    | ret => exact ⟨.ret, T1, H1, fun Q hQ => aw_seq (h1 (QThen (fun T H => AW P G N b Q T H) Q) hQ), h2, h3⟩
    | goto _ => simp [contOf] at h3
    | panic _ => simp [contOf] at h3
    | outgrown => simp [contOf] at h3
  | cond x a b iha ihb =>
    intro kn kr ke T H h
    obtain ⟨y, hy, h⟩ := optK_inv (show optK (fx G x) (fun y => (y.get T).onBool false fun b' => ifK b' (fexec ω P G N n a kn kr ke T H) (fexec ω P G N n b kn kr ke T H)) = true from h)
    rcases AV.onBool_inv h with ⟨t, ht, h⟩ | ⟨h, _⟩
    · have hx : aval G T.fn x = some (.bool t) := by rw [fx_eq hy, ht]
      cases t with
      | true =>
        obtain ⟨e, T1, H1, h1, h2, h3⟩ := iha kn kr ke T H h
        exact ⟨e, T1, H1, fun Q hQ => aw_cond hx (h1 Q hQ), h2, h3⟩
      | false =>
        obtain ⟨e, T1, H1, h1, h2, h3⟩ := ihb kn kr ke T H h
        exact ⟨e, T1, H1, fun Q hQ => aw_cond hx (h1 Q hQ), h2, h3⟩
    · simp at h
  | block id c ih =>
    intro kn kr ke T H h
    obtain ⟨e, T1, H1, h1, h2, h3⟩ := ih kn kr (fun i => ifK (Nat.beq i id) kn (ke i)) T H h
    cases e with
    | exit i =>
      have h3 : ifK (Nat.beq i id) kn (ke i) T1 H1 = true := h3
      cases hb : Nat.beq i id with
      | true =>
        rw [hb] at h3
        have hid : i = id := by simpa using hb
        exact ⟨.normal, T1, H1, fun Q hQ => aw_block (h1 (QBlock id Q) (by simp only [QBlock]; rw [if_pos hid]; exact hQ)), h2, h3⟩
      | false =>
        rw [hb] at h3
        have hid : ¬ i = id := fun e => by subst e; simp at hb
        exact ⟨.exit i, T1, H1, fun Q hQ => aw_block (h1 (QBlock id Q) (by simp only [QBlock]; rw [if_neg hid]; exact hQ)), h2, h3⟩
    | normal => exact ⟨.normal, T1, H1, fun Q hQ => aw_block (h1 (QBlock id Q) hQ), h2, h3⟩
    | ret => exact ⟨.ret, T1, H1, fun Q hQ => aw_block (h1 (QBlock id Q) hQ), h2, h3⟩
    | goto _ => simp [contOf] at h3
    | panic _ => simp [contOf] at h3
    | outgrown => simp [contOf] at h3
  | loop c ih =>
    intro kn kr ke T H h
    have key : ∀ (m : Nat) (T : ET) (H : FH), Nat.rec (motive := fun _ => ET → FH → Bool) (fun _ _ => false) (fun _ lp T H => fexec ω P G N n c lp kr ke T H) m T H = true →
        ∃ e T' H', e ≠ Exit.normal ∧ H.next ≤ H'.next ∧ contOf kn kr ke e T' H' = true ∧
          ∀ (Q : Exit → (Nat → AV) → AHeap → Prop) (E0 : Env) (a : Act) (w : World) b k cs, Q e (ET.fn T') (FH.abs H') → GRel E0 G → St E0 N T.fn H.abs a w →
            ∃ e a' w', lift Q E0 N e a' w' ∧ Arrives P (lone (b.at a (.code c :: .inLoop c :: k)) cs w) b k cs e a' w' := by
      intro m
      induction m with
      | zero => intro T H h; simp at h
      | succ m ihm =>
        intro T H h
        obtain ⟨e, T1, H1, h1, h2, h3⟩ := ih _ kr ke T H h
        have pass : e ≠ .normal → contOf kn kr ke e T1 H1 = true → (∀ i, e ≠ .goto i) → ∃ e T' H', e ≠ Exit.normal ∧ H.next ≤ H'.next ∧ contOf kn kr ke e T' H' = true ∧
          ∀ (Q : Exit → (Nat → AV) → AHeap → Prop) (E0 : Env) (a : Act) (w : World) b k cs, Q e (ET.fn T') (FH.abs H') → GRel E0 G → St E0 N T.fn H.abs a w →
            ∃ e a' w', lift Q E0 N e a' w' ∧ Arrives P (lone (b.at a (.code c :: .inLoop c :: k)) cs w) b k cs e a' w' := by
          intro hne hk hng
          refine ⟨e, T1, H1, hne, h2, hk, fun Q E0 a w b k cs hQ hG hs => ?_⟩
          obtain ⟨e2, a1, w1, ⟨T2, H2, ⟨rfl, rfl, rfl⟩, s⟩, harr⟩ := h1 (fun e' T' H' => e' = e ∧ T' = T1.fn ∧ H' = H1.abs) ⟨rfl, rfl, rfl⟩ E0 a w hG hs b (.inLoop c :: k) cs
          cases e2 with
          | normal => exact absurd rfl hne
          | exit i => exact ⟨_, a1, w1, ⟨_, _, hQ, s⟩, .pass (x := .inLoop c) rfl (fun _ _ => .inl (by simp)) harr⟩
          | ret => exact ⟨_, a1, w1, ⟨_, _, hQ, s⟩, .pass (x := .inLoop c) rfl (fun _ _ => .inl (by simp)) harr⟩
          | goto l => exact absurd rfl (hng l)
          | panic _ => exact ⟨_, a1, w1, ⟨_, _, hQ, s⟩, .pass (x := .inLoop c) rfl (fun _ _ => .inl (by simp)) harr⟩
          | outgrown => exact ⟨_, a1, w1, ⟨_, _, hQ, s⟩, .pass (x := .inLoop c) rfl (fun _ _ => .inl (by simp)) harr⟩
        cases e with
        | normal =>
          obtain ⟨e2, T2, H2, g1, g2, g3, g4⟩ := ihm T1 H1 h3
          refine ⟨e2, T2, H2, g1, by omega, g3, fun Q E0 a w b k cs hQ hG hs => ?_⟩
          obtain ⟨e3, a1, w1, ⟨T3, H3, ⟨rfl, rfl, rfl⟩, s⟩, harr⟩ := h1 (fun e' T' H' => e' = .normal ∧ T' = T1.fn ∧ H' = H1.abs) ⟨rfl, rfl, rfl⟩ E0 a w hG hs b (.inLoop c :: k) cs
          obtain ⟨e4, a2, w2, q2, harr2⟩ := g4 Q E0 a1 w1 b k cs hQ hG s
          exact ⟨e4, a2, w2, q2, .of_steps (Steps.trans harr (.one step_inLoop)) harr2⟩
        | exit i => exact pass (by simp) h3 (by simp)
        | ret => exact pass (by simp) h3 (by simp)
        | goto _ => simp [contOf] at h3
        | panic _ => simp [contOf] at h3
        | outgrown => simp [contOf] at h3
    obtain ⟨e, T', H', h1, h2, h3, h4⟩ := key n T H h
    refine ⟨e, T', H', fun Q hQ E0 a w hG hs b k cs => ?_, h2, h3⟩
    obtain ⟨e2, a', w', hq, harr⟩ := h4 Q E0 a w b k cs hQ hG hs
    exact ⟨e2, a', w', hq, .of_steps (.one step_loop) harr⟩
  | exit id => exact fun kn kr ke T H h => ⟨.exit id, T, H, fun Q hQ => aw_exit hQ, Nat.le_refl _, h⟩
  | ret => exact fun kn kr ke T H h => ⟨.ret, T, H, fun Q hQ => aw_ret hQ, Nat.le_refl _, h⟩
  | rangeFunc _ _ _ _ _ _ => intro kn kr ke T H h; have h : false = true := h; simp at h
  | scope _ _ => intro kn kr ke T H h; have h : false = true := h; simp at h
  | label _ => intro kn kr ke T H h; have h : false = true := h; simp at h
  | goto _ => intro kn kr ke T H h; have h : false = true := h; simp at h
  | refuse _ => intro kn kr ke T H h; have h : false = true := h; simp at h

theorem loadK_inv {g : Bool} {n : Nat} {a : AV} {t : TypeId} {H : FH} {k : AV → FH → Bool} (hg : aagg P t = some g) (hn : asize P t = some n) (h : loadK 1048576 g n a H k = true) :
    ∃ cs v, aat H.abs.get a = some cs ∧ acut P t cs = some v ∧ k v H = true := by
  rcases AV.onPtr_inv h with ⟨i, off, rfl, h⟩ | ⟨cs, rfl, h⟩
  · obtain ⟨h1, h'⟩ := ifK_inv h
    obtain ⟨b, hb, h', _⟩ := FH.atK_inv h'
    have hb : H.abs.get i = some (.cells b.list) := hb
    cases g with
    | true =>
      obtain ⟨h2, h3⟩ := FObj.cutK_inv (show b.cutK off n (fun l => k (.agg l) H) false = true from h')
      refine ⟨b.list.drop off, .agg ((b.list.drop off).take n), by simp only [aat, hb]; rw [if_pos (by omega)], ?_, h3⟩
      simp only [acut, hg, hn]
      rw [if_pos (by simp; omega)]
    | false =>
      obtain ⟨v, h2, h3⟩ := FObj.cellK_inv (show b.cellK off (fun v => k v H) false = true from h')
      have hlt : off < b.list.length := by
        rcases Nat.lt_or_ge off b.list.length with g | g
        · exact g
        · rw [List.getElem?_eq_none g] at h2; simp at h2
      refine ⟨b.list.drop off, v, by simp only [aat, hb]; rw [if_pos (by omega)], ?_, h3⟩
      simp only [acut, hg, hn]
      rw [List.getElem?_drop, Nat.add_zero]; exact h2
  · cases g with
    | true =>
      have h' : takeK cs n (fun l => k (.agg l) H) false = true := h
      rw [takeK_eq] at h'
      split at h' <;> try (simp at h'; done)
      rename_i h2
      exact ⟨cs, .agg (cs.take n), rfl, by simp only [acut, hg, hn, if_pos h2], h'⟩
    | false =>
      have h' : nthK cs 0 (fun v => k v H) false = true := h
      rw [nthK_eq] at h'
      split at h' <;> try (simp at h'; done)
      rename_i v hc
      exact ⟨cs, v, rfl, by simp only [acut, hg, hn, hc], h'⟩

theorem resK_inv {T : ET} {H : FH} : ∀ {rs : List ResultVar} {k : List AV → Bool}, resK P G rs T H k = true → ∃ vs, aresults P T.fn H.abs.get rs = some vs ∧ k vs = true
  | [], k, h => ⟨[], rfl, h⟩
  | .tmp t :: rs, k, h => by
    obtain ⟨x, hx, h⟩ := optK_inv (show optK (fx G (.tmp t)) (fun x => resK P G rs T H fun vs => k (x.get T :: vs)) = true from h)
    obtain ⟨vs, h1, h2⟩ := resK_inv h
    have hv : some (T.fn t) = some (x.get T) := fx_eq (G := G) (x := .tmp t) hx
    simp only [Option.some.injEq] at hv
    exact ⟨x.get T :: vs, by simp only [aresults, aresult, h1, hv], h2⟩
  | .cell a t :: rs, k, h => by
    obtain ⟨x, hx, h⟩ := optK_inv (show optK (fx G (.tmp a)) (fun x => optK (aagg P t) fun g => optK (asize P t) fun n => loadK 1048576 g n (x.get T) H fun v _ => v.force fun v => resK P G rs T H fun vs => k (v :: vs)) = true from h)
    obtain ⟨g, hg, h⟩ := optK_inv h
    obtain ⟨n, hn, h⟩ := optK_inv h
    obtain ⟨cs, v, h1, h2, h⟩ := loadK_inv hg hn h
    have h := (AV.force_eq v (fun v => resK P G rs T H fun vs => k (v :: vs))).symm.trans h
    obtain ⟨vs, h3, h4⟩ := resK_inv h
    have hv : some (T.fn a) = some (x.get T) := fx_eq (G := G) (x := .tmp a) hx
    simp only [Option.some.injEq] at hv
    exact ⟨v :: vs, by simp only [aresults, aresult, hv, h1, h2, h3], h4⟩

theorem oneK_inv {T : Nat → AV} {get : Nat → Option AObj} {rs : List ResultVar} {vs : List AV} {k : AV → Bool} (hv : aresults P T get rs = some vs) (h : oneK vs k = true) : ∃ r, ares P T get rs = some r ∧ k r = true := by
  match vs with
  | [] => exact ⟨.tuple [], by simp only [ares, hv], h⟩
  | [a] => exact ⟨a, by simp only [ares, hv], h⟩
  | a :: b :: r => exact ⟨.tuple (a :: b :: r), by simp only [ares, hv], h⟩

theorem initK_inv : ∀ (vs : List AV) (i : Nat) (T : ET) (k : ET → Bool), i + vs.length ≤ 1024 → initK vs i T k = true → ∃ T' : ET, (T'.fn = fun t => if i ≤ t then (match vs[t - i]? with | some v => v | none => T.fn t) else T.fn t) ∧ k T' = true
  | [], i, T, k, _, h => ⟨T, by funext t; simp, h⟩
  | v :: vs, i, T, k, hl, h => by
    simp only [List.length_cons] at hl
    have h : ET.put (P32.of (Nat.div i 32)) (P32.of (Nat.mod i 32)) v T (fun T => natK (Nat.add i 1) fun i => initK vs i T k) = true := h
    rw [ET.put_eq, natK_eq] at h
    obtain ⟨T', h1, h2⟩ := initK_inv vs (i + 1) _ k (by omega) h
    refine ⟨T', ?_, h2⟩
    rw [h1]
    have e : ET.fn (ET.set T (P32.of (Nat.div i 32)) (P32.of (Nat.mod i 32)) v) = tput T.fn (some i) v := ET.fn_set T i v (by omega)
    rw [e]
    funext t
    by_cases h3 : i + 1 ≤ t
    · have hp : tput T.fn (some i) v t = T.fn t := by simp only [tput]; rw [if_neg (by omega)]
      rw [if_pos h3, if_pos (by omega), hp]
      have : t - i = (t - (i + 1)) + 1 := by omega
      rw [this, List.getElem?_cons_succ]
    · rw [if_neg h3]
      simp only [tput]
      by_cases h4 : t = i
      · subst h4; simp
      · rw [if_neg h4, if_neg (by omega)]

def OvGoodK (P : Program) (G : Nat → Option AV) (ov : Ov) : Prop :=
  ∀ f g, ov f = some g → ∀ args H k, g args H k = true → ∃ v H', Does P G f args H.abs (fun r h => r = v ∧ h = FH.abs H') ∧ H.next ≤ H'.next ∧ k v H' = true

theorem fcall_sound {ov : Ov} {fuel : Nat} (hm : P.follows .mixedOrders = true) (hp : plainFn P = true) (hov : OvGoodK P G ov) : ∀ n, GoodK P G (fcall ov P G fuel n)
  | 0 => fun f args H k h => by have h : false = true := h; simp at h
  | n + 1 => fun f args H k h => by
    have ih := fcall_sound (fuel := fuel) hm hp hov n
    have h : Option.rec (motive := fun _ => Bool)
      (optK (P.funcs[f]?) fun fn => optK fn.body fun c => ifK (Nat.ble (lenN args) fn.ntmps) (ifK (Nat.ble fn.ntmps 1024)
        (initK args 0 ET.none fun T =>
          fexec (fcall ov P G fuel n) P G fn.ntmps fuel c (fun T H => resK P G fn.results.toList T H fun vs => oneK vs fun v => k v H) (fun T H => resK P G fn.results.toList T H fun vs => oneK vs fun v => k v H) (fun _ _ _ => false) T H) false) false)
      (fun g => g args H k) (ov f) = true := h
    cases ho : ov f with
    | some g => rw [ho] at h; exact hov f g ho args H k h
    | none =>
      rw [ho] at h
      obtain ⟨fn, hf, h⟩ := optK_inv h
      obtain ⟨c, hb, h⟩ := optK_inv h
      obtain ⟨h1, h⟩ := ifK_inv h
      obtain ⟨h2, h⟩ := ifK_inv h
      have h1 : lenN args ≤ fn.ntmps := Nat.le_of_ble_eq_true h1
      rw [lenN_eq] at h1
      have h2 : fn.ntmps ≤ 1024 := Nat.le_of_ble_eq_true h2
      obtain ⟨T, hT, h⟩ := initK_inv args 0 ET.none _ (by omega) h
      obtain ⟨e, T', H', g1, g2, g3⟩ := fexec_sound hm ih h2 fuel c _ _ _ T H h
      have hT0 : T.fn = fun t => args.getD t undefA := by
        rw [hT]
        funext t
        rw [if_pos (Nat.zero_le _), Nat.sub_zero, ET.fn_none, List.getD]
        cases args[t]? <;> rfl
      have fin : (e = .normal ∨ e = .ret) → resK P G fn.results.toList T' H' (fun vs => oneK vs fun v => k v H') = true → ∃ v H', Does P G f args H.abs (fun r h => r = v ∧ h = FH.abs H') ∧ H.next ≤ H'.next ∧ k v H' = true := by
        intro he hr
        obtain ⟨vs, r1, r2⟩ := resK_inv hr
        obtain ⟨r, r3, r4⟩ := oneK_inv r1 r2
        refine ⟨r, H', does_of (enters_of hp hf hb) hf hb h1 ?_, g2, r4⟩
        rw [← hT0]
        exact g1 _ ⟨he, r, r3, rfl, rfl⟩
      cases e with
      | normal => exact fin (.inl rfl) g3
      | ret => exact fin (.inr rfl) g3
      | exit _ => simp [contOf] at g3
      | goto _ => simp [contOf] at g3
      | panic _ => simp [contOf] at g3
      | outgrown => simp [contOf] at g3

noncomputable def yesK (v : AV) (_ : FH) : Bool := v.onBool false fun b => b

/-- A closed call that evaluates to true. -/
theorem closed_yes {ov : Ov} {f : FuncId} {fuel n : Nat} (he : Enters P f) (hm : P.follows .mixedOrders = true) (hp : plainFn P = true) (hov : OvGoodK P (fun _ => none) ov) (h : fcall ov P (fun _ => none) fuel n f [] FH.empty yesK = true) (w : World) :
    Calls P f #[] w fun e w' => e = .returned (.bool true) ∧ Olds w w' := by
  obtain ⟨v, H', hd, _, hk⟩ := fcall_sound hm hp hov n f [] FH.empty yesK h
  rw [FH.abs_empty] at hd
  have hv : v = .bool true := by
    rcases AV.onBool_inv (show v.onBool false (fun b => b) = true from hk) with ⟨b, hb, h⟩ | ⟨h, _⟩
    · rw [hb, h]
    · simp at h
  exact hd.yes he (fun r H h => by rw [h.1, hv]) w (gnone _) .nil
end

def noOv : Ov := fun _ => none
theorem noOv_good (P : Program) (G : Nat → Option AV) : OvGoodK P G noOv := fun _ _ h => by simp [noOv] at h
end Go.Abs
