/-
  A quick evaluator for closed calls, eighth part: a region that draws its order, by what its text alone says.
-/
import Derived.Test.YtcbiaeoladjecaaFxG
namespace Go.Abs
open Go

structure Flags where
  e : Bool
  a : Bool
  r : Bool
def flagsOf (f : FOp) : Flags := ⟨f.isE, f.isA, f.isR⟩

/-- All that writes is in order with all that reads or writes, and comes behind what it is not ordered with and that lays a block. -/
def statOk (fs : List Flags) (as : List Nat) : Bool :=
  fs.zipIdx.all fun (y, j) => fs.zipIdx.all fun (x, i) => !decide (i < j) || !((y.e && (x.e || x.a || x.r)) || (y.r && x.e)) || (as.getD j 0).testBit i

section
variable {ω : Om} {P : Program} {G : Nat → Option AV} {N : Nat} {ops : Array Oper}

theorem tr_al {l : List Oper} {T T' : Nat → AV} {H H' : AHeap} {u : List Full} {Q : Exit → (Nat → AV) → AHeap → Prop} (h : Tr P G ops l T H u T' H') (hd : dstOk N l = true) (hQ : Q .normal T' H') : AL P G N ops l Q T H := by
  induction h with
  | nil => exact al_nil hQ
  | @cons o r T H H1 v k s T' H' hs hn h ih =>
    have hd0 : ∀ j, o.dst = some j → j < N := fun j hj => by
      unfold dstOk at hd
      rw [List.all_cons, Bool.and_eq_true] at hd
      have := hd.1
      rw [hj] at this
      simpa using this
    have hdr : dstOk N r = true := by
      unfold dstOk at hd ⊢
      rw [List.all_cons, Bool.and_eq_true] at hd
      exact hd.2
    exact step_al hs hd0 (ih hdr hQ)

theorem step_keep {o : Oper} {T : Nat → AV} {H H' : AHeap} {v : AV} {k : Kind} (hs : Step P G ops o T H v k H') (hk : k.isEff = false) {i : Nat} (hi : i < H.next) : H'.get i = H.get i := by
  cases k with
  | idle => rw [hs.2]
  | read => rw [hs.2.2]
  | alloc cs =>
    obtain ⟨_, f, _, _, h⟩ := hs
    rw [h, AHeap.get_push, if_neg (by omega)]
  | eff => simp [Kind.isEff] at hk

/-- The base at an operation: what was there behind the last one ahead of it that wrote. -/
theorem BOk.at {Hn : AHeap} : ∀ (l : List Oper) (u : List Full) (b i : Nat) (x : Full) (o : Oper), BOk P G true Hn l u b → u[i]? = some x → l[i]? = some o →
    (x.k.isEff = true → (fcop P G o).isE = true) ∧ (x.k.isAlloc = true → (fcop P G o).isA = true) ∧
    (x.k.isRead = true → (fcop P G o).isR = true ∧ ∃ b', (∀ A : Nat → Option AObj, (∀ i, i < b' → A i = x.H.get i) → aread P (aval G x.T) A o = some x.v) ∧
      ((b' = b ∧ ∀ e y, e < i → u[e]? = some y → y.k.isEff = false) ∨ ∃ e y, e < i ∧ u[e]? = some y ∧ y.k.isEff = true ∧ b' = (hAt u Hn (e + 1)).next ∧ ∀ e' y', e < e' → e' < i → u[e']? = some y' → y'.k.isEff = false))
  | [], u, b, i, x, o, _, _, ho => by simp at ho
  | q :: l, [], b, i, x, o, _, hx, _ => by simp at hx
  | q :: l, z :: u, b, 0, x, o, h, hx, ho => by
    simp only [List.getElem?_cons_zero, Option.some.injEq] at hx ho
    subst hx; subst ho
    obtain ⟨h1, h2, h3, _⟩ := h
    exact ⟨h1, h2, fun hr => ⟨(h3 hr).1, b, (h3 hr).2, .inl ⟨rfl, fun e y he => absurd he (Nat.not_lt_zero _)⟩⟩⟩
  | q :: l, z :: u, b, i + 1, x, o, h, hx, ho => by
    obtain ⟨_, _, _, h4⟩ := h
    have hx' : u[i]? = some x := by simpa using hx
    have ho' : l[i]? = some o := by simpa using ho
    obtain ⟨g1, g2, g3⟩ := BOk.at l u _ i x o h4 hx' ho'
    refine ⟨g1, g2, fun hr => ⟨(g3 hr).1, ?_⟩⟩
    obtain ⟨b', k1, k2⟩ := (g3 hr).2
    refine ⟨b', k1, ?_⟩
    rcases k2 with ⟨hb, hno⟩ | ⟨e, y, he, hy, hye, hb, hno⟩
    · cases hz : z.k.isEff with
      | true =>
        rw [hz] at hb
        refine .inr ⟨0, z, by omega, rfl, hz, ?_, fun e' y' h1 h2 h3 => ?_⟩
        · simpa [hAt] using hb
        · cases e' with
          | zero => omega
          | succ e' => exact hno e' y' (by omega) (by simpa using h3)
      | false =>
        rw [hz] at hb
        refine .inl ⟨by simpa using hb, fun e y he hy => ?_⟩
        cases e with
        | zero => simp at hy; subst hy; exact hz
        | succ e => exact hno e y (by omega) (by simpa using hy)
    · refine .inr ⟨e + 1, y, by omega, by simpa using hy, hye, by simpa [hAt] using hb, fun e' y' h1 h2 h3 => ?_⟩
      cases e' with
      | zero => omega
      | succ e' => exact hno e' y' (by omega) (by omega) (by simpa using h3)

theorem statOk_spec {fs : List Flags} {i j : Nat} {x y : Flags} (h : statOk fs (ancs ops.toList) = true) (hij : i < j) (hx : fs[i]? = some x) (hy : fs[j]? = some y) (hc : ((y.e && (x.e || x.a || x.r)) || (y.r && x.e)) = true) : Reach ops i j := by
  unfold statOk at h
  rw [List.all_eq_true] at h
  have := h (y, j) (mem_zipIdx hy)
  simp only [List.all_eq_true] at this
  have := this (x, i) (mem_zipIdx hx)
  simp only [hij, decide_true, Bool.not_true, Bool.false_or, hc] at this
  exact ancs_sound this

/-- All that writes is in order, and behind what lays a block ahead of it. -/
def EffOrd (P : Program) (G : Nat → Option AV) (ops : Array Oper) : Prop := ∀ i j o q, i < j → ops[i]? = some o → ops[j]? = some q → (fcop P G q).isE = true → ((fcop P G o).isE = true ∨ (fcop P G o).isA = true) → Reach ops i j
/-- A read is in order with all that writes. -/
def ReadOrd (P : Program) (G : Nat → Option AV) (ops : Array Oper) (r : Nat) : Prop := ∀ e o, ops[e]? = some o → (fcop P G o).isE = true → (e < r → Reach ops e r) ∧ (r < e → Reach ops r e)
/-- A read gives the same wherever it may stand. -/
def ReadSame (P : Program) (G : Nat → Option AV) (ops : Array Oper) (u : List Full) (Hn : AHeap) (r : Nat) (o : Oper) (x : Full) : Prop :=
  ∀ q, q ≤ ops.size → (q = 0 ∨ ∃ e y, q = e + 1 ∧ u[e]? = some y ∧ y.k.isEff = true) → (∀ e y, e < q → u[e]? = some y → y.k.isEff = true → ¬ Reach ops r e) → (∀ e y, q ≤ e → u[e]? = some y → y.k.isEff = true → ¬ Reach ops e r) →
    aread P (aval G x.T) (hAt u Hn q).get o = some x.v

theorem gen_draw (hm : P.follows .mixedOrders = true) (hok : regionOk N ops = true) (heff : EffOrd P G ops)
    {T T' : Nat → AV} {H H' : AHeap} {u : List Full} {Q : Exit → (Nat → AV) → AHeap → Prop} {id : Nat}
    (hrd : ∀ r x o, u[r]? = some x → ops[r]? = some o → x.k.isRead = true → ReadOrd P G ops r ∨ ReadSame P G ops u H' r o x) (htr : Tr P G ops ops.toList T H u T' H') (hb : BOk P G true H' ops.toList u H.next) (hQ : Q .normal T' H') : AW P G N (.region id ops true) Q T H := by
  simp only [regionOk, Bool.and_eq_true] at hok
  obtain ⟨⟨hback, hslots⟩, hdst⟩ := hok
  have hdst' := dstOk_spec hdst
  have hlen : u.length = ops.size := by rw [tr_length htr]; exact Array.length_toList
  obtain ⟨hH0, hT0, hstep⟩ := tr_spec htr
  have hget : ∀ i, i < ops.size → ∃ x o, u[i]? = some x ∧ ops[i]? = some o := fun i hi => by
    obtain ⟨o, ho⟩ := get_of hi
    exact ⟨u[i]'(by omega), o, List.getElem?_eq_getElem (by omega), ho⟩
  have hlt : ∀ i x, u[i]? = some x → i < ops.size := fun i x hx => by
    rcases Nat.lt_or_ge i u.length with g | g
    · omega
    · rw [List.getElem?_eq_none g] at hx; simp at hx
  let vAt : Nat → AV := fun i => match u[i]? with | some y => y.v | none => undefA
  let kAt : Nat → Kind := fun i => match u[i]? with | some y => y.k | none => .idle
  have kx : ∀ {i x}, u[i]? = some x → kAt i = x.k := fun {i x} hx => by simp only [kAt, hx]
  have bAt : ∀ {i x o}, u[i]? = some x → ops[i]? = some o → _ := fun {i x o} hx ho => BOk.at ops.toList u H.next i x o hb hx (by simpa using ho)
  have mono1 : ∀ i, i < ops.size → (hAt u H' i).next ≤ (hAt u H' (i + 1)).next := fun i hi => by
    obtain ⟨x, o, hx, ho⟩ := hget i hi
    have := (hstep i x o hx (by simpa using ho)).2.1
    have e4 : hAt u H' i = x.H := by simp only [hAt, hx]
    rw [e4]; exact this
  have mono : ∀ i j, i ≤ j → j ≤ ops.size → (hAt u H' i).next ≤ (hAt u H' j).next := fun i j hij hj => by
    induction j with
    | zero => have : i = 0 := by omega
              subst this; exact Nat.le_refl _
    | succ j ih =>
      by_cases e : i = j + 1
      · subst e; exact Nat.le_refl _
      · exact Nat.le_trans (ih (by omega) (by omega)) (mono1 j (by omega))
  have keep : ∀ i j, i ≤ j → j ≤ ops.size → (∀ e y, i ≤ e → e < j → u[e]? = some y → y.k.isEff = false) → ∀ c, c < (hAt u H' i).next → (hAt u H' j).get c = (hAt u H' i).get c := fun i j hij hj hno c hc => by
    induction j with
    | zero => have : i = 0 := by omega
              subst this; rfl
    | succ j ih =>
      by_cases e : i = j + 1
      · subst e; rfl
      · obtain ⟨x, o, hx, ho⟩ := hget j (by omega)
        have e4 : hAt u H' j = x.H := by simp only [hAt, hx]
        have hs := (hstep j x o hx (by simpa using ho)).1
        have h1 := ih (by omega) (by omega) (fun e y h1 h2 => hno e y h1 (by omega))
        rw [← h1, e4]
        refine step_keep hs (hno j x (by omega) (by omega) hx) ?_
        rw [← e4]
        exact Nat.lt_of_lt_of_le hc (mono i j (by omega) (by omega))
  let R : Run P G N ops :=
    { T := fun i => tAt' u T' i
      H := fun i => hAt u H' i
      v := vAt
      k := kAt
      step := fun i o ho => by
        obtain ⟨x, o', hx, ho'⟩ := hget i (get_lt ho)
        have := (hstep i x o hx (by simpa using ho)).1
        have e1 : tAt' u T' i = x.T := by simp only [tAt', hx]
        have e2 : vAt i = x.v := by simp only [vAt, hx]
        have e3 : kAt i = x.k := kx hx
        have e4 : hAt u H' i = x.H := by simp only [hAt, hx]
        rw [e1, e2, e3, e4]; exact this
      put := fun i o ho => by
        obtain ⟨x, o', hx, ho'⟩ := hget i (get_lt ho)
        have := (hstep i x o hx (by simpa using ho)).2.2
        have e1 : tAt' u T' i = x.T := by simp only [tAt', hx]
        have e2 : vAt i = x.v := by simp only [vAt, hx]
        rw [this, e1, e2]
      dst := hdst'
      mono := mono1
      back := backOk_spec hback
      slots := slotsOk_spec hslots
      effs := fun i j hij hj hk hk' => by
        obtain ⟨x, o, hx, ho⟩ := hget i (by omega)
        obtain ⟨y, q, hy, hq⟩ := hget j hj
        rw [kx hy] at hk
        rw [kx hx] at hk'
        refine heff i j o q hij ho hq ((bAt hy hq).1 hk) ?_
        rcases hk' with h2 | h2
        · exact .inl ((bAt hx ho).1 h2)
        · exact .inr ((bAt hx ho).2.1 h2)
      reads := fun r o ho hk q hq hq0 hlo hhi => by
        obtain ⟨x, o', hx, ho'⟩ := hget r (get_lt ho)
        rw [ho] at ho'; simp only [Option.some.injEq] at ho'; subst ho'
        have hk : kAt r = .read := hk
        rw [kx hx] at hk
        have hrd' : x.k.isRead = true := by rw [hk]; rfl
        have hxe : x.k.isEff = false := by rw [hk]; rfl
        have e1 : tAt' u T' r = x.T := by simp only [tAt', hx]
        have e2 : vAt r = x.v := by simp only [vAt, hx]
        have e4 : hAt u H' r = x.H := by simp only [hAt, hx]
        have hrl := get_lt ho
        obtain ⟨hR, b', hst', hb'⟩ := (bAt hx ho).2.2 hrd'
        rcases hrd r x o hx ho hrd' with hord | hsame
        case inr =>
          rw [e1, e2]
          refine hsame q hq ?_ (fun e y he hy hye => hlo e he (by show (kAt e).isEff = true; rw [kx hy]; exact hye)) (fun e y he hy hye => hhi e he (hlt e y hy) (by show (kAt e).isEff = true; rw [kx hy]; exact hye))
          rcases hq0 with h | ⟨e, h1, h2⟩
          · exact .inl h
          · have h2 : (kAt e).isEff = true := h2
            obtain ⟨y, o2, hy, _⟩ := hget e (by omega)
            rw [kx hy] at h2
            exact .inr ⟨e, y, h1, hy, h2⟩
        have before : ∀ e y, e < r → u[e]? = some y → y.k.isEff = true → e < q := fun e y he hy hye => by
          rcases Nat.lt_or_ge e q with g | g
          · exact g
          · obtain ⟨y', o2, hy', ho2⟩ := hget e (hlt e y hy)
            have hE := (bAt hy ho2).1 hye
            exact absurd ((hord e o2 ho2 hE).1 he) (hhi e g (hlt e y hy) (by show (kAt e).isEff = true; rw [kx hy]; exact hye))
        have after : ∀ e y, r < e → u[e]? = some y → y.k.isEff = true → q ≤ e := fun e y he hy hye => by
          rcases Nat.lt_or_ge e q with g | g
          · obtain ⟨y', o2, hy', ho2⟩ := hget e (hlt e y hy)
            have hE := (bAt hy ho2).1 hye
            exact absurd ((hord e o2 ho2 hE).2 he) (hlo e g (by show (kAt e).isEff = true; rw [kx hy]; exact hye))
          · exact g
        have noeff : ∀ e y, e = r → u[e]? = some y → y.k.isEff = false := fun e y he hy => by
          subst he
          rw [hx] at hy; simp only [Option.some.injEq] at hy; subst hy
          exact hxe
        have hbq : b' ≤ (hAt u H' q).next ∧ b' ≤ (hAt u H' r).next := by
          rcases hb' with ⟨rfl, _⟩ | ⟨e, y, he, hy, hye, rfl, _⟩
          · rw [← hH0]
            exact ⟨mono 0 q (by omega) hq, mono 0 r (by omega) (by omega)⟩
          · exact ⟨mono (e + 1) q (before e y he hy hye) hq, mono (e + 1) r (by omega) (by omega)⟩
        rw [e1, e2]
        refine hst' _ fun c hc => ?_
        rw [← e4]
        rcases Nat.le_total q r with g | g
        · exact (keep q r g (by omega) (fun e y h1 h2 h3 => by
            cases hh : y.k.isEff with
            | false => rfl
            | true => have := before e y h2 h3 hh; omega) c (by omega)).symm
        · exact keep r q g hq (fun e y h1 h2 h3 => by
            by_cases e0 : e = r
            · exact noeff e y e0 h3
            · cases hh : y.k.isEff with
              | false => rfl
              | true => have := after e y (by omega) h3 hh; omega) c (by omega) }
  have hend1 : tAt' u T' ops.size = T' := by simp only [tAt']; rw [List.getElem?_eq_none (by omega)]
  have hend2 : hAt u H' ops.size = H' := by simp only [hAt]; rw [List.getElem?_eq_none (by omega)]
  refine aw_draw hm R hT0 hH0 ?_
  show Q .normal (tAt' u T' ops.size) (hAt u H' ops.size)
  rw [hend1, hend2]; exact hQ

theorem flags_at {i : Nat} {o : Oper} (ho : ops[i]? = some o) : (ops.toList.map fun o => flagsOf (fcop P G o))[i]? = some (flagsOf (fcop P G o)) := by
  rw [List.getElem?_map]
  have : ops.toList[i]? = some o := by simpa using ho
  rw [this]; rfl

theorem quiet_draw (hm : P.follows .mixedOrders = true) (hok : regionOk N ops = true) (hst : statOk (ops.toList.map fun o => flagsOf (fcop P G o)) (ancs ops.toList) = true)
    {T T' : Nat → AV} {H H' : AHeap} {u : List Full} {Q : Exit → (Nat → AV) → AHeap → Prop} {id : Nat} (htr : Tr P G ops ops.toList T H u T' H') (hb : BOk P G true H' ops.toList u H.next) (hQ : Q .normal T' H') : AW P G N (.region id ops true) Q T H := by
  refine gen_draw hm hok (fun i j o q hij ho hq hE h => statOk_spec hst hij (flags_at ho) (flags_at hq) ?_) (fun r x o hx ho hr => .inl fun e q hq hE => ⟨fun he => statOk_spec hst he (flags_at hq) (flags_at ho) ?_, fun he => statOk_spec hst he (flags_at ho) (flags_at hq) ?_⟩) htr hb hQ
  · rcases h with h | h <;> simp [flagsOf, hE, h]
  · have hR := ((BOk.at ops.toList u H.next r x o hb hx (by simpa using ho)).2.2 hr).1
    simp [flagsOf, hE, hR]
  · have hR := ((BOk.at ops.toList u H.next r x o hb hx (by simpa using ho)).2.2 hr).1
    simp [flagsOf, hE, hR]
end
end Go.Abs
