/-
  A quick evaluator for closed calls, seventh part: lists of operations, and regions that draw their order.
-/
import Derived.Test.YtcbiaeoladjecaaFxF
namespace Go.Abs
open Go

inductive FG where
  | no
  | on (x : FX) (w : Bool)
  | never
  | bad
inductive FD where
  | no
  | at (p q : P32)
structure FOper where
  g : FG
  d : FD
  e : Bool
  f : FOp
  o : Oper

def fcg (ops : Array Oper) (o : Oper) : FG := match o.guard with
  | none => .no
  | some (j, w) => match (ops[j]?).bind (·.dst) with
    | some d => if d < 1024 then .on (.loc (P32.of (d / 32)) (P32.of (d % 32))) w else .bad
    | none => .never
def fcd (o : Oper) : FD := match o.dst with
  | none => .no
  | some d => .at (P32.of (d / 32)) (P32.of (d % 32))
/-- An operation, made ready; whether its region draws. -/
def fcoper (P : Program) (G : Nat → Option AV) (ops : Array Oper) (draw : Bool) (o : Oper) : FOper := ⟨fcg ops o, fcd o, draw && (fcop P G o).isE, fcop P G o, o⟩

noncomputable def eqB (a b : Bool) : Bool := Bool.rec (motive := fun _ => Bool) (notK b) b a
theorem eqB_eq (a b : Bool) : eqB a b = (a == b) := by cases a <;> cases b <;> rfl
noncomputable def guardK (g : FG) (T : ET) (y n : Bool) : Bool := FG.rec (motive := fun _ => Bool) y (fun x w => (x.get T).onBool n fun b => ifK (eqB b w) y n) n false g
noncomputable def putD (d : FD) (v : AV) (T : ET) (k : ET → Bool) : Bool := FD.rec (motive := fun _ => Bool) (k T) (fun p q => ET.put p q v T k) d

theorem guardK_inv {ops : Array Oper} {o : Oper} {T : ET} {y n : Bool} (h : guardK (fcg ops o) T y n = true) : (awanted ops T.fn o = true ∧ y = true) ∨ (awanted ops T.fn o = false ∧ n = true) := by
  unfold fcg at h
  split at h
  · rename_i hg; exact .inl ⟨by simp [awanted, hg], h⟩
  · rename_i j w hg
    split at h
    · rename_i d hd
      split at h
      · rename_i hlt
        have e : FX.get (.loc (P32.of (d / 32)) (P32.of (d % 32))) T = T.fn d := by simp [FX.get, ET.fn, hlt]
        have h : (FX.get (.loc (P32.of (d / 32)) (P32.of (d % 32))) T).onBool n (fun b => ifK (eqB b w) y n) = true := h
        rw [e] at h
        rcases AV.onBool_inv h with ⟨b, hb, h⟩ | ⟨h, hne⟩
        · rw [eqB_eq] at h
          cases hbw : b == w with
          | true => rw [hbw] at h; exact .inl ⟨by simp only [awanted, hg, ayield, hd, hb]; simpa using hbw, h⟩
          | false => rw [hbw] at h; exact .inr ⟨by simp only [awanted, hg, ayield, hd, hb]; simpa using hbw, h⟩
        · refine .inr ⟨?_, h⟩
          simp only [awanted, hg, ayield, hd]
          cases hv : T.fn d <;> first | rfl | exact absurd hv (hne _)
      · have h : false = true := h
        simp at h
    · rename_i hd
      exact .inr ⟨by simp [awanted, hg, ayield, hd], h⟩

theorem putD_eq {o : Oper} {v : AV} {T : ET} {k : ET → Bool} {N : Nat} (hN : N ≤ 1024) (hd : ∀ j, o.dst = some j → j < N) (h : putD (fcd o) v T k = true) : ∃ T', T'.fn = tput T.fn o.dst v ∧ k T' = true := by
  unfold fcd at h
  split at h
  · rename_i hd'; exact ⟨T, by rw [hd']; rfl, h⟩
  · rename_i d hd'
    have h : ET.put (P32.of (d / 32)) (P32.of (d % 32)) v T k = true := h
    rw [ET.put_eq] at h
    exact ⟨_, by rw [ET.fn_set T d v (Nat.lt_of_lt_of_le (hd d hd') hN), hd'], h⟩

/-- Operations, one behind the other; what was there (below 'base') when the last one that writes had run. -/
noncomputable def runL (ω : Om) (P : Program) (G : Nat → Option AV) (l : List FOper) : Nat → ET → FH → (ET → FH → Bool) → Bool :=
  List.rec (motive := fun _ => Nat → ET → FH → (ET → FH → Bool) → Bool) (fun _ T H k => k T H)
    (fun fo _ ih base T H k => FOper.rec (motive := fun _ => Bool) (fun g d e f o =>
      guardK g T (f.run ω P G o base T H fun v H' => v.force fun v => putD d v T fun T => ih (ifK e H'.next base) T H' k) (putD d undefA T fun T => ih base T H k)) fo) l

/-- What a run's record says. -/
def BOk (P : Program) (G : Nat → Option AV) (draw : Bool) (Hn : AHeap) : List Oper → List Full → Nat → Prop
  | o :: l, x :: u, b => (x.k.isEff = true → (fcop P G o).isE = true) ∧ (x.k.isAlloc = true → (fcop P G o).isA = true) ∧
      (x.k.isRead = true → (fcop P G o).isR = true ∧ ∀ A : Nat → Option AObj, (∀ i, i < b → A i = x.H.get i) → aread P (aval G x.T) A o = some x.v) ∧
      BOk P G draw Hn l u (if draw = true ∧ x.k.isEff = true then (hAt u Hn 0).next else b)
  | _, _, _ => True

section
variable {ω : Om} {P : Program} {G : Nat → Option AV} {N : Nat} {ops : Array Oper}

theorem BOk.le {draw : Bool} {Hn : AHeap} : ∀ {l : List Oper} {u : List Full} {b b' : Nat}, b ≤ b' → BOk P G draw Hn l u b → BOk P G draw Hn l u b'
  | [], _, _, _, _, _ => by simp [BOk]
  | _ :: _, [], _, _, _, _ => by simp [BOk]
  | o :: l, x :: u, b, b', hle, h => by
    obtain ⟨h1, h2, h3, h4⟩ := h
    refine ⟨h1, h2, fun hr => ⟨(h3 hr).1, fun A hA => (h3 hr).2 A fun i hi => hA i (by omega)⟩, ?_⟩
    split
    · rename_i hc; rw [if_pos hc] at h4; exact h4
    · rename_i hc; rw [if_neg hc] at h4; exact BOk.le hle h4

theorem runL_inv (hω : GoodK P G ω) (hN : N ≤ 1024) (draw : Bool) : ∀ (l : List Oper) (base : Nat) (T : ET) (H : FH) (k : ET → FH → Bool), dstOk N l = true → runL ω P G (l.map (fcoper P G ops draw)) base T H k = true →
    ∃ u T' H', Tr P G ops l T.fn H.abs u T'.fn (FH.abs H') ∧ H.next ≤ H'.next ∧ BOk P G draw H'.abs l u base ∧ k T' H' = true
  | [], base, T, H, k, _, h => ⟨[], T, H, .nil, Nat.le_refl _, trivial, h⟩
  | o :: l, base, T, H, k, hd, h => by
    have h : guardK (fcg ops o) T ((fcop P G o).run ω P G o base T H fun v H' => v.force fun v => putD (fcd o) v T fun T => runL ω P G (l.map (fcoper P G ops draw)) (ifK (draw && (fcop P G o).isE) H'.next base) T H' k)
        (putD (fcd o) undefA T fun T => runL ω P G (l.map (fcoper P G ops draw)) base T H k) = true := h
    have hd0 : ∀ j, o.dst = some j → j < N := fun j hj => by
      unfold dstOk at hd
      rw [List.all_cons, Bool.and_eq_true] at hd
      have := hd.1
      rw [hj] at this
      simpa using this
    have hdr : dstOk N l = true := by
      unfold dstOk at hd ⊢
      rw [List.all_cons, Bool.and_eq_true] at hd
      exact hd.2
    rcases guardK_inv h with ⟨hw, h⟩ | ⟨hw, h⟩
    · obtain ⟨v, kd, H1, hs, hn, he, ha, hr0, hr, h⟩ := fcop_sound hω hw h
      have h := (AV.force_eq v _).symm.trans h
      obtain ⟨T1, hT1, h⟩ := putD_eq hN hd0 h
      obtain ⟨u, T', H', htr, hn', hb, hk⟩ := runL_inv hω hN draw l _ T1 H1 k hdr h
      refine ⟨⟨T.fn, H.abs, v, kd⟩ :: u, T', H', .cons hs hn (by rw [← hT1]; exact htr), by omega, ⟨fun h => he ▸ h, ha, fun h => ⟨hr0 ▸ h, hr h⟩, ?_⟩, hk⟩
      have h0 : hAt u H'.abs 0 = H1.abs := (tr_spec htr).1
      rw [h0]
      rw [← he] at hb
      show BOk P G draw H'.abs l u (if draw = true ∧ kd.isEff = true then H1.next else base)
      cases draw <;> cases hk : kd.isEff <;> rw [hk] at hb <;> exact hb
    · obtain ⟨T1, hT1, h⟩ := putD_eq hN hd0 h
      obtain ⟨u, T', H', htr, hn', hb, hk⟩ := runL_inv hω hN draw l _ T1 H k hdr h
      refine ⟨⟨T.fn, H.abs, undefA, .idle⟩ :: u, T', H', .cons ⟨.inl ⟨hw, rfl⟩, rfl⟩ (Nat.le_refl _) (by rw [← hT1]; exact htr), hn', ⟨fun h => by simp [Kind.isEff] at h, fun h => by simp [Kind.isAlloc] at h, fun h => by simp [Kind.isRead] at h, ?_⟩, hk⟩
      rw [if_neg (by simp [Kind.isEff])]
      exact hb
end
end Go.Abs
