/-
  A quick evaluator for closed calls, fifth part: all operations.
-/
import Derived.Test.YtcbiaeoladjecaaFxD
import Derived.Test.YtcbiaeoladjecaaAbsT
namespace Go.Abs
open Go

inductive FOp where
  | pure (f : FP)
  | load (agg : Bool) (n : Nat) (x : FX)
  | b2s (x : FX)
  | zero (b : FObj)
  | box (x : FX)
  | store (n : Nat) (x v : FX)
  | app (size bytes : Nat) (x y : FX)
  | call (f : FX) (args : List FX)
  | clr (zc : List AV) (x : FX)
  | cpy (z : Nat) (x y : FX)
  | gena
  | gene
  | bad

noncomputable def bytesA (l : List AV) : List UInt8 → (List UInt8 → Bool) → Bool :=
  List.rec (motive := fun _ => List UInt8 → (List UInt8 → Bool) → Bool) (fun m k => revK m [] k)
    (fun a _ ih m k => a.onInt false fun kd n => ifK (kindB kd .u8) (stepK (ih (UInt8.ofNat n.toNat :: m) k)) false) l
theorem bytesA_inv : ∀ {l : List AV} {m : List UInt8} {k : List UInt8 → Bool}, bytesA l m k = true → ∃ bs, abytes l = some bs ∧ k (m.reverse ++ bs) = true
  | [], m, k, h => by
    have h : revK m [] k = true := h
    rw [revK_eq] at h
    exact ⟨[], rfl, h⟩
  | a :: l, m, k, h => by
    have h : a.onInt false (fun kd n => ifK (kindB kd .u8) (bytesA l (UInt8.ofNat n.toNat :: m) k) false) = true := h
    rcases AV.onInt_inv h with ⟨kd, n, rfl, h⟩ | ⟨h, _⟩
    · obtain ⟨h1, h⟩ := ifK_inv h
      rw [kindB_eq] at h1
      subst h1
      obtain ⟨bs, h2, h3⟩ := bytesA_inv h
      exact ⟨UInt8.ofNat n.toNat :: bs, by simp [abytes, h2], by simpa using h3⟩
    · simp at h
noncomputable def bytesK (l : List AV) (k : List UInt8 → Bool) : Bool := bytesA l [] k
theorem bytesK_inv {l : List AV} {k : List UInt8 → Bool} (h : bytesK l k = true) : ∃ bs, abytes l = some bs ∧ k bs = true := by
  obtain ⟨bs, h1, h2⟩ := bytesA_inv h
  exact ⟨bs, h1, h2⟩

/-- What is appended: how many, their cells. -/
noncomputable def srcK (size : Nat) (y : AV) (H : FH) (k : Nat → List AV → Bool) : Bool :=
  y.onSl false (k 0 []) (fun i o _ len _ _ => H.atK i (fun b => b.cutK o (Nat.mul len size) (k len) false) false) (fun cs len => takeK cs (Nat.mul len size) (k len) false)
theorem srcK_inv {size : Nat} {y : AV} {H : FH} {k : Nat → List AV → Bool} (h : srcK size y H k = true) : ∃ n news, alenOf y = some n ∧ afirst H.abs.get size n y = some news ∧ news.length = n * size ∧ k n news = true := by
  have h0 := AV.onSl_inv h
  clear h
  rcases h0 with ⟨rfl, h⟩ | ⟨i, o, z, len, cap, opn, rfl, h⟩ | ⟨cs, len, rfl, h⟩
  · exact ⟨0, [], rfl, rfl, by simp, h⟩
  · obtain ⟨b, hb, h, _⟩ := FH.atK_inv h
    obtain ⟨h1, h2⟩ := FObj.cutK_inv h
    have h1 : o + len * size ≤ b.list.length := h1
    refine ⟨len, _, rfl, ?_, ?_, h2⟩
    · simp only [afirst, hb, FObj.abs, if_pos h1]; rfl
    · have : Nat.mul len size = len * size := rfl
      rw [this]; simp; omega
  · rw [takeK_eq] at h
    split at h <;> try (simp at h; done)
    rename_i h1
    have h1 : len * size ≤ cs.length := h1
    refine ⟨len, _, rfl, ?_, ?_, h⟩
    · simp only [afirst, if_pos h1]; rfl
    · have : Nat.mul len size = len * size := rfl
      rw [this]; simp; omega

/-- An append. -/
noncomputable def appendK (size bytes : Nat) (s y : AV) (H : FH) (k : AV → FH → Bool) : Bool :=
  srcK size y H fun n news => ifK (allB AV.sc news)
    (s.onSl false
      (Nat.rec (motive := fun _ => Bool) (k .nilsl H) (fun _ _ => ifK (Nat.ble (Nat.mul n bytes) 140737488355328) (ifK (Nat.ble n 4611686018427387904) (arrOf news (fun b => H.newK b (fun i H => k (.sl i 0 size n n true) H) false) false) false) false) n)
      (fun i o z len cap opn => ifK (Nat.beq z size) (H.atK i (fun b =>
        ifK (Nat.ble (Nat.add len n) cap)
          (b.wrs (Nat.add o (Nat.mul len z)) news (fun b => H.putK i b fun H => k (.sl i o z (Nat.add len n) cap opn) H) false)
          (ifK (Nat.ble (Nat.mul (Nat.add len n) bytes) 140737488355328) (ifK (Nat.ble (Nat.add len n) 4611686018427387904)
            (ifK (ifK (Nat.beq o 0) (Nat.beq b.len (Nat.mul len z)) false)
              (b.app news (fun b => ifK opn (H.moveK i b (fun i H => k (.sl i 0 z (Nat.add len n) (Nat.add len n) true) H) false) (H.newK b (fun i H => k (.sl i 0 z (Nat.add len n) (Nat.add len n) true) H) false)) false)
              (b.cutK o (Nat.mul len z) (fun l => appK l news fun l => arrOf l (fun b => ifK opn (H.moveK i b (fun i H => k (.sl i 0 z (Nat.add len n) (Nat.add len n) true) H) false) (H.newK b (fun i H => k (.sl i 0 z (Nat.add len n) (Nat.add len n) true) H) false)) false) false))
            false) false)) false) false)
      (fun cs len => Nat.rec (motive := fun _ => Bool) (k (.vsl cs len) H) (fun _ _ => false) n))
    false

section
variable {P : Program} {G : Nat → Option AV} {ops : Array Oper} {o : Oper} {T : ET} {H : FH}

theorem allB_sc {l : List AV} (h : allB AV.sc l = true) : l.all AV.scalar = true := by
  rw [allB_eq] at h
  have : AV.sc = AV.scalar := funext AV.sc_eq
  rw [this] at h; exact h

theorem appendK_inv {size bytes : Nat} {s y : AV} {k : AV → FH → Bool} {t u e : TypeId} {du : TypeDesc} {info : TypeInfo} {z : AV} (ht : P.underlying t = some (.slice e)) (hu : P.underlying u = some du) (hq : isSeq du = true)
    (hi : P.info? e = some info) (hz : azero P e = some z) (hzl : z.cells.length = info.size) (hs : info.size = size) (hb : info.bytes = bytes) (h : appendK size bytes s y H k = true) :
    ∃ v eff H', aappend P t u H.abs.get H.abs.next s y = some (v, eff) ∧ H'.abs = H.abs.eff eff ∧ k v H' = true := by
  subst hs; subst hb
  obtain ⟨n, news, h1, h2, h3, h⟩ := srcK_inv h
  obtain ⟨h4, h⟩ := ifK_inv h
  have h4 := allB_sc h4
  have base : ∀ v eff, (match s with
        | .nilsl => if n = 0 then some (AV.nilsl, AEff.same)
          else if n * info.bytes ≤ 140737488355328 ∧ n ≤ 4611686018427387904 then some (.sl H.abs.next 0 info.size n n true, .new (.cells news)) else none
        | .vsl cs len => if n = 0 then some (.vsl cs len, .same) else none
        | .sl i o zz len cap opn => if zz = info.size then
          match H.abs.get i with
          | some (.cells cs) =>
            if len + n ≤ cap then
              if o + (len + n) * zz ≤ cs.length then some (.sl i o zz (len + n) cap opn, .put i (.cells (splice cs (o + len * zz) news))) else none
            else if o + len * zz ≤ cs.length ∧ (len + n) * info.bytes ≤ 140737488355328 ∧ len + n ≤ 4611686018427387904 then
              if opn then some (.sl H.abs.next 0 zz (len + n) (len + n) true, .move i (.cells ((cs.drop o).take (len * zz) ++ news)))
              else some (.sl H.abs.next 0 zz (len + n) (len + n) true, .new (.cells ((cs.drop o).take (len * zz) ++ news)))
            else none
          | none => none
          else none
        | _ => none) = some (v, eff) → aappend P t u H.abs.get H.abs.next s y = some (v, eff) := by
    intro v eff hm
    unfold aappend
    simp only [ht, hu, hq, if_true, hi, hz, h1, hzl, h2]
    rw [if_pos ⟨h4, h3⟩]
    exact hm
  rcases AV.onSl_inv h with ⟨rfl, h⟩ | ⟨i, off, zz, len, cap, opn, rfl, h⟩ | ⟨cs, len, rfl, h⟩
  · cases n with
    | zero => exact ⟨_, _, H, base _ _ rfl, rfl, h⟩
    | succ n =>
      have h : ifK (Nat.ble (Nat.mul (n + 1) info.bytes) 140737488355328) (ifK (Nat.ble (n + 1) 4611686018427387904) (arrOf news (fun b => H.newK b (fun i H => k (.sl i 0 info.size (n + 1) (n + 1) true) H) false) false) false) false = true := h
      obtain ⟨g1, h⟩ := ifK_inv h
      obtain ⟨g2, h⟩ := ifK_inv h
      have g1 : (n + 1) * info.bytes ≤ 140737488355328 := Nat.le_of_ble_eq_true g1
      have g2 : n + 1 ≤ 4611686018427387904 := Nat.le_of_ble_eq_true g2
      obtain ⟨b, hbl, h⟩ := arrOf_inv h
      obtain ⟨H', g3, h⟩ := FH.newK_inv h
      refine ⟨_, .new (.cells news), H', base _ _ ?_, ?_, h⟩
      · simp only [if_pos (And.intro g1 g2)]; rfl
      · rw [g3]; simp only [FObj.abs, hbl]; rfl
  · obtain ⟨g1, h⟩ := ifK_inv h
    have g1 : zz = info.size := by simpa using g1
    obtain ⟨b, hb, h, hi'⟩ := FH.atK_inv h
    have hb : H.abs.get i = some (.cells b.list) := hb
    by_cases hc : len + n ≤ cap
    · rw [show Nat.ble (Nat.add len n) cap = true from Nat.ble_eq_true_of_le hc, ifK_true] at h
      obtain ⟨g2, b', g3, h⟩ := FObj.wrs_inv h
      obtain ⟨H', g4, h⟩ := FH.putK_inv hi' h
      have g2 : off + len * zz + news.length ≤ b.list.length := g2
      refine ⟨_, .put i (.cells (splice b.list (off + len * zz) news)), H', base _ _ ?_, ?_, h⟩
      · have : off + (len + n) * zz ≤ b.list.length := by rw [Nat.add_mul, g1] ; rw [h3, g1] at g2; omega
        simp only [if_pos g1, hb, if_pos hc, if_pos this]; rfl
      · rw [g4]; simp only [FObj.abs, g3]; rfl
    · have hcf : Nat.ble (Nat.add len n) cap = false := by
        cases hh : Nat.ble (Nat.add len n) cap
        · rfl
        · exact absurd (Nat.le_of_ble_eq_true hh) hc
      rw [hcf, ifK_false] at h
      obtain ⟨g2, h⟩ := ifK_inv h
      obtain ⟨g3, h⟩ := ifK_inv h
      have g2 : (len + n) * info.bytes ≤ 140737488355328 := Nat.le_of_ble_eq_true g2
      have g3 : len + n ≤ 4611686018427387904 := Nat.le_of_ble_eq_true g3
      have fin : ∀ b' : FObj, off + len * zz ≤ b.list.length → b'.list = (b.list.drop off).take (len * zz) ++ news →
          ifK opn (H.moveK i b' (fun i H => k (.sl i 0 zz (Nat.add len n) (Nat.add len n) true) H) false) (H.newK b' (fun i H => k (.sl i 0 zz (Nat.add len n) (Nat.add len n) true) H) false) = true →
          ∃ v eff H', aappend P t u H.abs.get H.abs.next (.sl i off zz len cap opn) y = some (v, eff) ∧ H'.abs = H.abs.eff eff ∧ k v H' = true := by
        intro b' hle hbl h
        cases opn with
        | true =>
          obtain ⟨H', g4, h⟩ := FH.moveK_inv h
          refine ⟨_, .move i (.cells ((b.list.drop off).take (len * zz) ++ news)), H', base _ _ ?_, ?_, h⟩
          · simp only [if_pos g1, hb, if_neg hc, if_pos (And.intro hle (And.intro g2 g3)), if_true]; rfl
          · rw [g4]; simp only [FObj.abs, hbl]; rfl
        | false =>
          obtain ⟨H', g4, h⟩ := FH.newK_inv h
          refine ⟨_, .new (.cells ((b.list.drop off).take (len * zz) ++ news)), H', base _ _ ?_, ?_, h⟩
          · simp only [if_pos g1, hb, if_neg hc, if_pos (And.intro hle (And.intro g2 g3))]; rfl
          · rw [g4]; simp only [FObj.abs, hbl]; rfl
      cases hw : ifK (Nat.beq off 0) (Nat.beq b.len (Nat.mul len zz)) false with
      | true =>
        rw [hw, ifK_true] at h
        obtain ⟨e1, e2⟩ := ifK_inv hw
        have e1 : off = 0 := by simpa using e1
        have e2 : b.list.length = len * zz := by rw [FObj.len_eq] at e2; exact Nat.eq_of_beq_eq_true e2
        obtain ⟨b', hbl, h⟩ := FObj.app_inv h
        refine fin b' (by omega) ?_ h
        rw [hbl, e1, ← e2]; simp
      | false =>
        rw [hw, ifK_false] at h
        obtain ⟨e1, h⟩ := FObj.cutK_inv h
        rw [appK_eq] at h
        obtain ⟨b', hbl, h⟩ := arrOf_inv h
        exact fin b' e1 hbl h
  · cases n with
    | zero => exact ⟨_, _, H, base _ _ rfl, rfl, h⟩
    | succ n =>
      have h : false = true := h
      simp at h

/-- A clearing. -/
noncomputable def clrK (zc : List AV) (a : AV) (H : FH) (k : AV → FH → Bool) : Bool :=
  a.onSl false (k (.tuple []) H)
    (fun i o zz n _ _ => Nat.rec (motive := fun _ => Bool) (k (.tuple []) H) (fun _ _ => ifK (Nat.beq (lenN zc) zz) (ifK (allB AV.sc zc) (H.atK i (fun b => b.wrs o (arep zc n) (fun b => H.putK i b fun H => k (.tuple []) H) false) false) false) false) n)
    (fun _ n => Nat.rec (motive := fun _ => Bool) (k (.tuple []) H) (fun _ _ => false) n)
theorem clrK_inv {a z : AV} {k : AV → FH → Bool} {t e : TypeId} (ht : P.underlying t = some (.slice e)) (hz : azero P e = some z) (h : clrK z.cells a H k = true) :
    ∃ v eff H', aclear P t H.abs.get a = some (v, eff) ∧ H'.abs = H.abs.eff eff ∧ k v H' = true := by
  have h0 := AV.onSl_inv h
  clear h
  rcases h0 with ⟨rfl, h⟩ | ⟨i, off, zz, n, cap, opn, rfl, h⟩ | ⟨cs, n, rfl, h⟩
  · exact ⟨_, .same, H, by simp only [aclear, ht], rfl, h⟩
  · cases n with
    | zero => exact ⟨.tuple [], .same, H, by simp [aclear, ht], rfl, h⟩
    | succ n =>
      have h : ifK (Nat.beq (lenN z.cells) zz) (ifK (allB AV.sc z.cells) (H.atK i (fun b => b.wrs off (arep z.cells (n + 1)) (fun b => H.putK i b fun H => k (.tuple []) H) false) false) false) false = true := h
      obtain ⟨h1, h⟩ := ifK_inv h
      obtain ⟨h2, h⟩ := ifK_inv h
      obtain ⟨b, hb, h, hi⟩ := FH.atK_inv h
      have hb : H.abs.get i = some (.cells b.list) := hb
      obtain ⟨h3, b', h4, h⟩ := FObj.wrs_inv h
      obtain ⟨H', h5, h⟩ := FH.putK_inv hi h
      rw [lenN_eq] at h1
      have h1 : z.cells.length = zz := by simpa using h1
      rw [arep_length, h1] at h3
      refine ⟨.tuple [], .put i (.cells (splice b.list off (arep z.cells (n + 1)))), H', ?_, ?_, h⟩
      · simp only [aclear, ht, hb, hz]
        rw [if_neg (by omega), if_pos ⟨h1, allB_sc h2, h3⟩]
      · rw [h5]; unfold FObj.abs; rw [h4]; rfl
  · cases n with
    | zero => exact ⟨.tuple [], .same, H, by simp [aclear, ht], rfl, h⟩
    | succ n =>
      have h : false = true := h
      simp at h

/-- A copying. -/
noncomputable def lenSl (a : AV) (k : Nat → Bool) : Bool := a.onSl false (k 0) (fun _ _ _ len _ _ => k len) (fun _ len => k len)
theorem lenSl_inv {a : AV} {k : Nat → Bool} (h : lenSl a k = true) : ∃ n, alenOf a = some n ∧ k n = true := by
  rcases AV.onSl_inv h with ⟨rfl, h⟩ | ⟨i, off, zz, n, cap, opn, rfl, h⟩ | ⟨cs, n, rfl, h⟩
  · exact ⟨0, rfl, h⟩
  · exact ⟨n, rfl, h⟩
  · exact ⟨n, rfl, h⟩
noncomputable def firstK (z n : Nat) (a : AV) (H : FH) (k : List AV → Bool) : Bool :=
  a.onSl false (Nat.rec (motive := fun _ => Bool) (k []) (fun _ _ => false) n) (fun i o _ _ _ _ => H.atK i (fun b => b.cutK o (Nat.mul n z) k false) false) (fun cs _ => takeK cs (Nat.mul n z) k false)
theorem firstK_inv {z n : Nat} {a : AV} {k : List AV → Bool} (h : firstK z n a H k = true) : ∃ news, afirst H.abs.get z n a = some news ∧ news.length = n * z ∧ k news = true := by
  have h0 := AV.onSl_inv h
  clear h
  rcases h0 with ⟨rfl, h⟩ | ⟨i, off, zz, len, cap, opn, rfl, h⟩ | ⟨cs, len, rfl, h⟩
  · cases n with
    | zero => exact ⟨[], rfl, by simp, h⟩
    | succ n =>
      have h : false = true := h
      simp at h
  · obtain ⟨b, hb, h, _⟩ := FH.atK_inv h
    obtain ⟨h1, h2⟩ := FObj.cutK_inv h
    have h1 : off + n * z ≤ b.list.length := h1
    refine ⟨_, ?_, ?_, h2⟩
    · simp only [afirst, hb, FObj.abs, if_pos h1]; rfl
    · have : Nat.mul n z = n * z := rfl
      rw [this]; simp; omega
  · rw [takeK_eq] at h
    split at h <;> try (simp at h; done)
    rename_i h1
    have h1 : n * z ≤ cs.length := h1
    refine ⟨_, ?_, ?_, h⟩
    · simp only [afirst, if_pos h1]; rfl
    · have : Nat.mul n z = n * z := rfl
      rw [this]; simp; omega
noncomputable def cpyK (z : Nat) (d s : AV) (H : FH) (k : AV → FH → Bool) : Bool :=
  lenSl d fun dl => lenSl s fun sl => natK (ifK (Nat.ble sl dl) sl dl) fun n => firstK z n s H fun news => ifK (allB AV.sc news)
    (d.onSl false (k (.int .i64 0) H)
      (fun i o zz _ _ _ => ifK (Nat.beq zz z) (H.atK i (fun b => b.wrs o news (fun b => H.putK i b fun H => k (.int .i64 (.ofNat n)) H) false) false) false)
      (fun _ _ => Nat.rec (motive := fun _ => Bool) (k (.int .i64 0) H) (fun _ _ => false) n)) false
theorem cpyK_inv {z : Nat} {d s : AV} {k : AV → FH → Bool} {t e : TypeId} (ht : P.underlying t = some (.slice e)) (hz : asize P e = some z) (h : cpyK z d s H k = true) :
    ∃ v eff H', acopy P t H.abs.get d s = some (v, eff) ∧ H'.abs = H.abs.eff eff ∧ k v H' = true := by
  obtain ⟨dl, h1, g1⟩ := lenSl_inv h
  clear h
  obtain ⟨sl, h2, g2⟩ := lenSl_inv g1
  clear g1
  rw [natK_eq] at g2
  have hmin : ifK (Nat.ble sl dl) sl dl = min sl dl := by
    by_cases g : sl ≤ dl
    · rw [show Nat.ble sl dl = true from Nat.ble_eq_true_of_le g, ifK_true, Nat.min_eq_left g]
    · have hb : Nat.ble sl dl = false := by
        cases hh : Nat.ble sl dl
        · rfl
        · exact absurd (Nat.le_of_ble_eq_true hh) g
      rw [hb, ifK_false, Nat.min_eq_right (by omega)]
  rw [hmin] at g2
  obtain ⟨news, h3, h4, g3⟩ := firstK_inv g2
  clear g2
  obtain ⟨h5', g4⟩ := ifK_inv g3
  clear g3
  have h5 := allB_sc h5'
  have h0 := AV.onSl_inv g4
  clear g4
  rcases h0 with ⟨rfl, h⟩ | ⟨i, off, zz, n, cap, opn, rfl, h⟩ | ⟨cs, n, rfl, h⟩
  · refine ⟨_, .same, H, ?_, rfl, h⟩
    simp only [acopy, ht, hz, h1, h2, h3]
    rw [if_pos ⟨h5, h4⟩]
  · obtain ⟨h6, h⟩ := ifK_inv h
    have h6 : zz = z := by simpa using h6
    obtain ⟨b, hb, h, hi⟩ := FH.atK_inv h
    have hb : H.abs.get i = some (.cells b.list) := hb
    obtain ⟨h7, b', h8, h⟩ := FObj.wrs_inv h
    obtain ⟨H', h9, h⟩ := FH.putK_inv hi h
    refine ⟨_, .put i (.cells (splice b.list off news)), H', ?_, ?_, h⟩
    · simp only [acopy, ht, hz, h1, h2, h3]
      rw [if_pos ⟨h5, h4⟩]
      simp only [if_pos h6, hb, if_pos h7]; rfl
    · rw [h9]; unfold FObj.abs; rw [h8]; rfl
  · refine ⟨.int .i64 0, .same, H, ?_, rfl, ?_⟩
    · simp only [acopy, ht, hz, h1, h2, h3]
      rw [if_pos ⟨h5, h4⟩]
      cases hm : min sl dl with
      | zero => simp
      | succ m => rw [hm] at h; have h : false = true := h; simp at h
    · cases hm : min sl dl with
      | zero => rw [hm] at h; exact h
      | succ m => rw [hm] at h; have h : false = true := h; simp at h
end
end Go.Abs
