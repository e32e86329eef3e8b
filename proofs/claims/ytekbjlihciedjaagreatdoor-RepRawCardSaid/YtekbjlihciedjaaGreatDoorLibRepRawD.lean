/-
  Own library of this claim, part 4: texts one behind the other (RpF, RpG, RpH, RpI, RpJ, RpK, RpL, RpM, RpN, RpO, RpP, RpX, RpQ, RpR, RqA, RqB, RqC, RqD, RqE, RqF, RqG, RpY, RqH, RqI, AgL, AgA, RqJ, RqK, RqL, RqM, RqN, RqO, RqP, RqQ, RqR, RqS, RqT, FrT, RqU, ShD).
-/
import Derived.Test.YtekbjlihciedjaaGreatDoorLibRepRawC
set_option linter.unusedVariables false
set_option linter.unusedSimpArgs false

namespace Go.Proofs.YtekbjlihciedjaaGreatDoor
open Go Go.Abs Go.Rp
variable {G : Nat → Option AV}
set_option maxHeartbeats 4000000 in
theorem crcS_does {bv : AV} {b : Bs} (hb : BtA bv b) (hl : b.length ≤ 1000000000) (H : AHeap) : Does Tryz.prog G 212 [bv] H fun r h => r = .int .u32 (crc b).toNat ∧ h = H := by
  refine does_f Tryz.call212 Tryz.func212 rfl (by simp [Tryz.f212]) ?_
  have hlv : alen Tryz.prog 22 bv = some (.int .i64 b.length) := by
    rcases hb with ⟨rfl, rfl⟩ | ⟨ts, rfl⟩ <;> simp [alen]
  simp [hlv, -alen]
  refine aws_loop (fun m T' H' => ∃ (i : Nat) (s : BitVec 32), i + m = b.length ∧ H' = H ∧ T' 6 = bv ∧ T' 7 = .int .i64 b.length ∧ T' 8 = .int .i64 i ∧ T' 3 = .int .u32 s.toNat ∧ b.foldl crcByte (~~~ 0#32) = (b.drop i).foldl crcByte s) b.length ?_ ?_
  · exact ⟨0, ~~~ 0#32, by simp, rfl, by simp, by simp, by simp, by simp, by simp⟩
  rintro m T H1 ⟨i, s, him, rfl, t6, t7, t8, t3, hf⟩
  by_cases hi : i < b.length
  · obtain ⟨ts, rfl⟩ : ∃ ts, bv = .vsl (strCs b ++ ts) b.length := by
      rcases hb with ⟨_, h⟩ | h
      · rw [h] at hi; simp at hi
      · exact h
    have he : b[i]? = some b[i] := List.getElem?_eq_getElem hi
    generalize b[i] = x at he
    have hat := strCs_at (ts := ts) he
    have hd := drop_get he
    rw [hd, List.foldl_cons] at hf
    have c2 : (i : Int) < b.length := by omega
    simp [t6, t7, t8, t3, hat, c2, hi]
    refine aws_loop (fun m' T' H' => ∃ (j : Nat) (s' : BitVec 32), j + m' = 8 ∧ H' = H1 ∧ T' 6 = .vsl (strCs b ++ ts) b.length ∧ T' 7 = .int .i64 b.length ∧ T' 8 = .int .i64 i ∧ T' 16 = .int .i64 j ∧ T' 3 = .int .u32 s'.toNat ∧ crcByte s x = crcBits m' s') 8 ?_ ?_
    · refine ⟨0, s ^^^ BitVec.ofNat 32 x.toNat, rfl, rfl, by simp [t6], by simp [t7], by simp [t8], by simp, ?_, rfl⟩
      simp [t3]
      exact crc_in s x
    · rintro m' T H1 ⟨j, s', hj, rfl, t6, t7, t8, t16, t3, hc⟩
      by_cases hj8 : j < 8
      · obtain ⟨m', rfl⟩ : ∃ q, m' = q + 1 := ⟨m' - 1, by omega⟩
        rw [crcBits] at hc
        have c3 : (j : Int) < 8 := by omega
        simp [t6, t7, t8, t3, t16, c3]
        refine ⟨m', by omega, j + 1, by omega, ?_, crcBit s', crc_bit s', hc⟩
        rw [IntWalk.i64_in _ (by omega)]; push_cast; rfl
      · have hj0 : m' = 0 := by omega
        subst hj0
        have c3 : ¬ (j : Int) < 8 := by omega
        have w1 : IntKind.i64.wrap ((i : Int) + 1) = ((i + 1 : Nat) : Int) := by rw [IntWalk.i64_in _ (by omega)]; omega
        simp [t6, t7, t8, t3, t16, c3, w1]
        rw [crcBits] at hc
        rw [hc] at hf
        exact ⟨m - 1, by omega, i + 1, by omega, by push_cast; rfl, s', rfl, hf⟩
  · have hi' : ¬ (i : Int) < b.length := by omega
    have hd : b.drop i = [] := List.drop_eq_nil_of_le (by omega)
    rw [hd] at hf
    simp [t6, t7, t8, t3, hi, hi']
    rw [crc_not, crc]
    rw [hf]; rfl
theorem crcS_live {H : AHeap} {i cap : Nat} {op : Bool} {b : Bs} {junk : List AV} (hg : H.get i = some (.cells (strCs b ++ junk))) (hl : b.length ≤ 1000000000) :
    Does Tryz.prog G 212 [.sl i 0 1 b.length cap op] H fun r h => r = .int .u32 (crc b).toNat ∧ h = H :=
  (Does.borrow (n := 2) (.res (res_buf0 hg) .nil) (crcS_does (.bV b) hl _) (by rintro r _ ⟨rfl, _⟩; rfl)).mono fun r h ⟨⟨_, h1, _⟩, h2⟩ => ⟨h1, h2⟩
set_option maxHeartbeats 4000000 in
theorem crc2_does {hv tv : AV} {hd tx : Bs} (hh : BtA hv hd) (ht : BtA tv tx) (hl : hd.length + tx.length ≤ 1000000000) (H : AHeap) :
    Does Tryz.prog G 145 [hv, tv] H fun r h => r = .int .u64 (crc (hd ++ tx)).toNat ∧ h = H := by
  refine Does.forgot (R := fun r h => r = .int .u64 (crc (hd ++ tx)).toNat ∧ ∀ j x, H.get j = some x → h.get j = some x) ?_ (fun hw ha r H1 ⟨h1, h2⟩ => ⟨h2, by rw [h1]; rfl, h1, rfl⟩)
  refine Does.wf Tryz.call145 fun hw _ => ?_
  refine does_f Tryz.call145 Tryz.func145 rfl (by simp [Tryz.f145]) ?_
  have h1 := hh.len
  have h2 := hh.first
  have h3 := hh.sc
  have h4 := hh.ni
  have t1 := ht.len
  have t2 := ht.first
  have t3 := ht.sc
  have t4 := ht.ni
  have c1 : hd.length ≤ 140737488355328 := by omega
  have c2 : hd.length ≤ 4611686018427387904 := by omega
  have c3 : tx.length ≤ 140737488355328 := by omega
  have c4 : tx.length ≤ 4611686018427387904 := by omega
  have c5 : hd.length + tx.length ≤ 140737488355328 := by omega
  have c6 : hd.length + tx.length ≤ 4611686018427387904 := by omega
  have hc : ∀ (H2 : AHeap) (i cap : Nat) (op : Bool) (b : Bs) (junk : List AV), b = hd ++ tx → H2.get i = some (.cells (strCs b ++ junk)) → 
    Does Tryz.prog G 212 [.sl i 0 1 b.length cap op] H2 fun r h => r = .int .u32 (crc (hd ++ tx)).toNat ∧ h = H2 := by
    rintro H2 i cap op b junk rfl hg
    exact crcS_live hg (by simpa using hl)
  have hfin : ∀ (H2 : AHeap) (i n cap : Nat) (op : Bool) (b : Bs) (junk : List AV) {R' : Hid (AV → AHeap → Prop)}, n = b.length → b = hd ++ tx → H2.get i = some (.cells (strCs b ++ junk)) → (R'.v (.int .u32 (crc (hd ++ tx)).toNat) H2) →
    @DoesH Tryz.prog G 212 [.sl i 0 1 n cap op] H2 R' := by
    rintro H2 i n cap op b junk R' rfl hb hg hr
    refine does_use (hc H2 i cap op b junk hb hg) ?_
    rintro r h ⟨rfl, rfl⟩
    exact hr
  have w1 : IntKind.u64.wrap (((crc (hd ++ tx)).toNat : Nat) : Int) = ((crc (hd ++ tx)).toNat : Nat) := IntWalk.u64_in _ (by have := (crc (hd ++ tx)).isLt; omega)
  have hold : ∀ j x, H.get j = some x → j ≠ H.next ∧ j ≠ H.next + 1 ∧ j ≠ H.next + 1 + 1 := fun j x hj => by have l := next_lt hw hj; omega
  by_cases hd0 : hd.length = 0
  · have hde : hd = [] := List.length_eq_zero_iff.1 hd0
    have h2 := hh.first0 hd0
    by_cases tx0 : tx.length = 0
    · have txe : tx = [] := List.length_eq_zero_iff.1 tx0
      have t2 := ht.first0 tx0
      simp [h1, h2, h3, t1, t2, t3, hd0, tx0, strCs_sc, strCs_len, -afirst, -alenOf]
      refine hfin _ _ _ _ _ [] [] rfl (by rw [hde, txe]; rfl) (by simp [strCs]) ?_
      simp [w1]
      intro j x hj
      obtain ⟨e0, e1, e2⟩ := hold j x hj
      simp [e0, e1, e2, hj]
    · have tx1 : ¬ tx.length ≤ 0 := by omega
      simp [h1, h2, h3, t1, t2, t3, hd0, tx0, tx1, c3, c4, strCs_sc, strCs_len, -afirst, -alenOf]
      refine hfin _ _ _ _ _ tx [] rfl (by rw [hde]; rfl) (by simp) ?_
      simp [w1]
      intro j x hj
      obtain ⟨e0, e1, e2⟩ := hold j x hj
      simp [e0, e1, e2, hj]
  · have hd1 : ¬ hd.length ≤ 0 := by omega
    by_cases tx0 : tx.length = 0
    · have txe : tx = [] := List.length_eq_zero_iff.1 tx0
      have t2 := ht.first0 tx0
      simp [h1, h2, h3, t1, t2, t3, hd0, hd1, tx0, c1, c2, strCs_sc, strCs_len, take_strCs, -afirst, -alenOf]
      refine hfin _ _ _ _ _ hd [] rfl (by rw [txe]; simp) (by simp [take_strCs, strCs_len]) ?_
      simp [w1]
      intro j x hj
      obtain ⟨e0, e1, e2⟩ := hold j x hj
      simp [e0, e1, e2, hj]
    · have tx1 : ¬ hd.length + tx.length ≤ hd.length := by omega
      simp [h1, h2, h3, t1, t2, t3, hd0, hd1, tx0, tx1, c1, c2, c5, c6, strCs_sc, strCs_len, take_strCs, -afirst, -alenOf]
      refine hfin _ _ _ _ _ (hd ++ tx) [] (by simp) rfl (by simp [strCs]) ?_
      simp [w1]
      intro j x hj
      obtain ⟨e0, e1, e2⟩ := hold j x hj
      simp [e0, e1, e2, hj]
end Go.Proofs.YtekbjlihciedjaaGreatDoor

namespace Go.Proofs.YtekbjlihciedjaaGreatDoor
open Go Go.Abs Go.Rp
variable {G : Nat → Option AV}
end Go.Proofs.YtekbjlihciedjaaGreatDoor

namespace Go.Proofs.YtekbjlihciedjaaGreatDoor
open Go Go.Abs Go.Rp
variable {G : Nat → Option AV}
theorem mixedOrdR : Tryz.prog.follows .mixedOrders = true := by kernel_rfl
theorem cutBt {b : Bs} {ts : List AV} {l h : Nat} (h1 : l ≤ h) (h2 : h ≤ b.length) : BtA (.vsl (List.drop l (strCs b ++ ts)) (h - l)) ((b.drop l).take (h - l)) := by
  refine .inr ⟨strCs ((b.drop l).drop (h - l)) ++ ts, ?_⟩
  rw [drop_strCs (by omega), ← List.append_assoc, ← strCs_app, List.take_append_drop]
  rw [List.length_take, List.length_drop, Nat.min_eq_left (by omega)]
set_option maxHeartbeats 8000000 in
set_option maxRecDepth 100000 in
theorem take_run {bv : AV} {b : Bs} (hb : BtA bv b) (hl : b.length ≤ 1000000000) (H : AHeap) :
    Does Tryz.prog G 95 [bv] H fun r H1 => ∃ tv, r = .tuple [.int .u64 (take b).1, tv, .int .i64 (take b).2.2] ∧ (∀ j x, H.get j = some x → H1.get j = some x) ∧
      ((tv = .nilsl ∧ (take b).2.1 = []) ∨ ∃ i cap op, tv = .sl i 0 1 (take b).2.1.length cap op ∧ H.next ≤ i ∧ H1.get i = some (.cells (strCs (take b).2.1))) := by
  refine Does.wf Tryz.call95 fun hw _ => ?_
  have hlv : alen Tryz.prog 22 bv = some (.int .i64 b.length) := by
    rcases hb with ⟨rfl, rfl⟩ | ⟨ts, rfl⟩ <;> simp [alen]
  refine does_f Tryz.call95 Tryz.func95 rfl (by simp [Tryz.f95]) ?_
  by_cases hA : b.length < 17
  · have e : take b = (0, [], 0) := by unfold take; rw [if_pos (.inl hA)]
    have c1 : (b.length : Int) < 17 := by omega
    simp [hlv, c1, e, -alen]
  obtain ⟨ts, rfl⟩ : ∃ ts, bv = .vsl (strCs b ++ ts) b.length := by
    rcases hb with ⟨_, h⟩ | h
    · rw [h] at hA; simp at hA
    · exact h
  have c1 : ¬ (b.length : Int) < 17 := by omega
  have h0 : b[0]? = some b[0] := List.getElem?_eq_getElem (by omega)
  generalize b[0] = x0 at h0
  have hat := strCs_at (ts := ts) h0
  have c2 : 0 < b.length := by omega
  by_cases hB : x0 = 90
  case neg =>
    have e : take b = (0, [], 0) := by
      unfold take
      rw [if_pos]
      right; rw [h0]; simpa using hB
    have hx : ((x0.toNat : Int) != 90) = true := by
      rw [bne_iff_ne]
      intro h
      apply hB
      apply UInt8.toNat.inj
      have : x0.toNat = 90 := by omega
      rw [this]; rfl
    simp [c1, c2, hat, hx, e]
  subst hB
  have hx : (((90 : UInt8).toNat : Int) != 90) = false := by decide
  have e0 : ¬ (b.length < 17 ∨ b[0]? ≠ some 90) := by rw [h0]; simp; omega
  have w1 : IntKind.i64.wrap ((b.length : Int) - 17) = ((b.length - 17 : Nat) : Int) := by rw [IntWalk.i64_in _ (by omega)]; omega
  have hn1 := fun H' => sumNum_does (G := G) (cutBt (b := b) (ts := ts) (l := 1) (h := 5) (by omega) (by omega)) (by simp; omega) H'
  have hn2 := fun H' => sumNum_does (G := G) (cutBt (b := b) (ts := ts) (l := 13) (h := 17) (by omega) (by omega)) (by simp; omega) H'
  have hn3 := fun H' => sumNum_does (G := G) (cutBt (b := b) (ts := ts) (l := 5) (h := 13) (by omega) (by omega)) (by simp; omega) H'
  have hcut := cutBt (b := b) (ts := ts) (l := 1) (h := 13) (by omega) (by omega)
  have c5 : (5 : Int) ≤ b.length := by omega
  have c13 : (13 : Int) ≤ b.length := by omega
  have c17 : (17 : Int) ≤ b.length := by omega
  have d1 : 1 < b.length := by omega
  have d5 : 5 < b.length := by omega
  have d13 : 13 < b.length := by omega
  obtain ⟨m, hm⟩ : ∃ m, m = unle ((b.drop 1).take 4) := ⟨_, rfl⟩
  have hm32 : m < 2 ^ 32 := by
    have := unle_lt ((b.drop 1).take 4)
    have e4 : ((b.drop 1).take 4).length = 4 := by rw [List.length_take, List.length_drop]; omega
    rw [e4] at this
    rw [hm]; simpa using this
  simp [c1, c2, hat, hx, c5, d1, -List.drop_one]
  refine does_use (hn1 H) ?_
  rintro r H1 ⟨rfl, rfl⟩
  have hmm : unle (List.take (5 - 1) (List.drop 1 b)) = m := hm.symm
  rw [hmm]
  have w2 : IntKind.u64.wrap ((b.length - 17 : Nat) : Int) = ((b.length - 17 : Nat) : Int) := IntWalk.u64_in _ (by omega)
  by_cases hC : 60000 < m ∨ b.length - 17 < m
  · have e : take b = (0, [], 0) := by
      unfold take
      rw [if_neg e0]
      simp only
      rw [← hm, if_pos hC]
    by_cases hC1 : 60000 < m
    · have hC1' : (60000 : Int) < m := by omega
      simp [c1, c2, hat, hx, c5, d1, hC1, hC1', e, -List.drop_one]
    · have hC1' : ¬ (60000 : Int) < m := by omega
      have hC2' : ((b.length - 17 : Nat) : Int) < m := by omega
      have hC2 : b.length - 17 < m := by omega
      simp [c1, c2, hat, hx, c5, d1, hC1, hC1', hC2, hC2', w1, w2, e, -List.drop_one]
  have hC1 : ¬ 60000 < m := by omega
  have hC1' : ¬ (60000 : Int) < m := by omega
  have hC2' : ¬ ((b.length - 17 : Nat) : Int) < m := by omega
  have hC2 : ¬ b.length - 17 < m := by omega
  have w3 : IntKind.i64.wrap (m : Int) = (m : Int) := IntWalk.i64_in _ (by omega)
  have w4 : IntKind.i64.wrap (17 + (m : Int)) = ((17 + m : Nat) : Int) := by rw [IntWalk.i64_in _ (by omega)]; omega
  obtain ⟨z, hz⟩ : ∃ z, z = 17 + m := ⟨_, rfl⟩
  rw [← hz] at w4
  have hzl : z ≤ b.length := by omega
  have hz17 : (17 : Int) ≤ z := by omega
  have hzl' : (z : Int) ≤ b.length := by omega
  have htx := cutBt (b := b) (ts := ts) (l := 17) (h := z) (by omega) (by omega)
  simp [c1, c2, hat, hx, c5, d1, hC1, hC1', hC2, hC2', w1, w2, w3, w4, c17, hzl, hz17, hzl', -List.drop_one]
  obtain ⟨tx, htx0⟩ : ∃ tx, tx = (b.drop 17).take m := ⟨_, rfl⟩
  have hzm : z - 17 = m := by omega
  have htl : tx.length = m := by rw [htx0, List.length_take, List.length_drop]; omega
  rw [hzm] at htx
  rw [← htx0] at htx
  have htv : ∃ tv, (if 17 < b.length then some (AV.vsl (List.drop 17 (strCs b ++ ts)) (z - 17)) else some (AV.vsl [] 0)) = some tv ∧ BtA tv tx := by
    by_cases h : 17 < b.length
    · exact ⟨_, if_pos h, by rw [hzm]; exact htx⟩
    · have : tx = [] := List.length_eq_zero_iff.1 (by omega)
      exact ⟨_, if_neg h, by rw [this]; exact .inr ⟨[], rfl⟩⟩
  obtain ⟨tv, e1, htv⟩ := htv
  rw [e1]
  have g1 := htv.len
  have g2 := htv.first
  have g3 := htv.sc
  have g4 := htv.ni
  rw [htl] at g1 g2
  have k1 : m ≤ 140737488355328 := by omega
  have k2 : m ≤ 4611686018427387904 := by omega
  have htk : take b = if unle ((b.drop 13).take 4) ≠ (crc ((b.drop 1).take 12 ++ tx)).toNat then (0, [], 0) else (unle ((b.drop 5).take 8), tx, 17 + m) := by
    unfold take
    rw [if_neg e0]
    simp only
    rw [← hm, if_neg hC, ← htx0]
  have hold : ∀ j x, H1.get j = some x → j ≠ H1.next ∧ j ≠ H1.next + 1 := fun j x hj => by have l := next_lt hw hj; omega
  have hcrl : ((b.drop 1).take 12).length = 12 := by rw [List.length_take, List.length_drop]; omega
  have hlive : ∀ (H2 : AHeap) (i cap : Nat) (op : Bool) (junk : List AV), H2.get i = some (.cells (strCs tx ++ junk)) →
      Does Tryz.prog G 145 [.vsl (List.drop 1 (strCs b ++ ts)) 12, .sl i 0 1 m cap op] H2 fun r h => r = .int .u64 (crc ((b.drop 1).take 12 ++ tx)).toNat ∧ h = H2 := by
    intro H2 i cap op junk hg
    have hr := res_buf0 (cap := cap) (op := op) hg
    rw [htl] at hr
    exact (Does.borrow (n := 2) (.keep _ (.res hr .nil)) (crc2_does hcut (.bV tx) (by rw [hcrl]; omega) _) (by rintro r _ ⟨rfl, _⟩; rfl)).mono fun r h ⟨⟨_, h1, _⟩, h2⟩ => ⟨h1, h2⟩
  generalize hcc : (crc ((b.drop 1).take 12 ++ tx)).toNat = cc at htk hlive
  generalize hu4 : unle ((b.drop 13).take 4) = u4 at htk
  have hn2' : ∀ H', Does Tryz.prog G 144 [AV.vsl (List.drop 13 (strCs b ++ ts)) 4] H' fun r h => r = .int .u64 u4 ∧ h = H' := fun H' => (hn2 H').mono fun r h ⟨h1, h2⟩ => ⟨by rw [h1, ← hu4], h2⟩
  by_cases hm0 : m = 0
  · have txe : tx = [] := List.length_eq_zero_iff.1 (by omega)
    have g2' := htv.first0 (by omega)
    subst hm0
    simp [g1, g2', g3, strCs_sc, strCs_len, -afirst, -alenOf]
    refine aw_still mixedOrdR (by kernel_rfl) ?_
    intro es hes
    simp [c13, c17, d13, d1, -List.drop_one]
    refine ⟨_, hn2' _, as_cont ?_⟩
    simp [c13, c17, d13, d1, -List.drop_one]
    refine ⟨_, hlive _ _ _ _ [] (by simp [txe, strCs]), as_cont ?_⟩
    simp [c13, c17, d13, d1, -List.drop_one]
    subst hes
    refine ⟨by kernel_rfl, ?_⟩
    by_cases hq : u4 = cc
    · have hq' : ((u4 : Int) != (cc : Int)) = false := by simp [hq]
      rw [if_neg (by simpa using hq)] at htk
      simp [hq', c5, c13, d5, -List.drop_one]
      refine does_use (hn3 _) ?_
      rintro r H2 ⟨rfl, rfl⟩
      simp [htk]
      refine ⟨_, ⟨rfl, by omega⟩, fun j x hj => ?_, .inr ⟨H1.next, ⟨0, .inl (by rw [htl])⟩, Nat.le_refl _, by simp [txe, strCs]⟩⟩
      obtain ⟨q1, q2⟩ := hold j x hj
      simp [q1, q2, hj]
    · have hq' : ((u4 : Int) != (cc : Int)) = true := by rw [bne_iff_ne]; omega
      rw [if_pos hq] at htk
      simp [hq', htk]
      intro j x hj
      obtain ⟨q1, q2⟩ := hold j x hj
      simp [q1, q2, hj]
  · have hm1 : ¬ m ≤ 0 := by omega
    simp [g1, g2, g3, hm0, hm1, k1, k2, strCs_sc, strCs_len, htl, -afirst, -alenOf]
    refine aw_still mixedOrdR (by kernel_rfl) ?_
    intro es hes
    simp [c13, c17, d13, d1, -List.drop_one]
    refine ⟨_, hn2' _, as_cont ?_⟩
    simp [c13, c17, d13, d1, -List.drop_one]
    refine ⟨_, hlive _ _ _ _ [] (by simp), as_cont ?_⟩
    simp [c13, c17, d13, d1, -List.drop_one]
    subst hes
    refine ⟨by kernel_rfl, ?_⟩
    by_cases hq : u4 = cc
    · have hq' : ((u4 : Int) != (cc : Int)) = false := by simp [hq]
      rw [if_neg (by simpa using hq)] at htk
      simp [hq', c5, c13, d5, -List.drop_one]
      refine does_use (hn3 _) ?_
      rintro r H2 ⟨rfl, rfl⟩
      simp [htk]
      refine ⟨_, ⟨rfl, by omega⟩, fun j x hj => ?_, .inr ⟨H1.next + 1, ⟨m, .inr (by rw [htl])⟩, by omega, by simp⟩⟩
      obtain ⟨q1, q2⟩ := hold j x hj
      simp [q1, q2, hj]
    · have hq' : ((u4 : Int) != (cc : Int)) = true := by rw [bne_iff_ne]; omega
      rw [if_pos hq] at htk
      simp [hq', htk]
      intro j x hj
      obtain ⟨q1, q2⟩ := hold j x hj
      simp [q1, q2, hj]
theorem take_does' {bv : AV} {b : Bs} (hb : BtA bv b) (hl : b.length ≤ 1000000000) (H : AHeap) :
    Does Tryz.prog G 95 [bv] H fun r h => ∃ tv, (BtA tv (take b).2.1 ∧ ∀ n, AV.idLt n tv = true) ∧ r = .tuple [.int .u64 (take b).1, tv, .int .i64 (take b).2.2] ∧ h = H := by
  refine Does.wfs fun hw ha => (take_run hb hl H).ghost fun r H1 ⟨tv, hr, hs, ht⟩ => ?_
  rcases ht with ⟨rfl, e⟩ | ⟨i, cap, op, rfl, hi, hg⟩
  · exact ⟨r, H, Ghost.back hw (by rw [hr]; rfl) hs, .nilsl, ⟨by rw [e]; exact .nil, fun _ => rfl⟩, hr, rfl⟩
  · have e1 : r.frz i (strCs (take b).2.1) = .tuple [.int .u64 (take b).1, bV (take b).2.1, .int .i64 (take b).2.2] := by
      rw [hr]
      simp [AV.frz, AV.frzs, take_strCs, bV]
    refine ⟨r.frz i (strCs (take b).2.1), H, (Ghost.frz hg).trans (Ghost.back hw ?_ (AHeap.frz_old hw hi hs)), bV _, ⟨.bV _, fun n => by simp [AV.idLt, bV, strCs_lt]⟩, e1, rfl⟩
    rw [e1]
    simp [AV.idLt, AV.allLt, bV, strCs_lt]
theorem take_does {bv : AV} {b : Bs} (hb : BtA bv b) (hl : b.length ≤ 1000000000) (H : AHeap) :
    Does Tryz.prog G 95 [bv] H fun r h => ∃ tv, BtA tv (take b).2.1 ∧ r = .tuple [.int .u64 (take b).1, tv, .int .i64 (take b).2.2] ∧ h = H :=
  (take_does' hb hl H).mono fun r h ⟨tv, h1, h2, h3⟩ => ⟨tv, h1.1, h2, h3⟩
end Go.Proofs.YtekbjlihciedjaaGreatDoor

namespace Go.Proofs.YtekbjlihciedjaaGreatDoor
open Go Go.Abs Go.Rp
variable {G : Nat → Option AV}
inductive Bts : List AV → List Bs → Prop
  | nil : Bts [] []
  | cons {v : AV} {b : Bs} {vs : List AV} {l : List Bs} (h : BtA v b) (t : Bts vs l) : Bts (v :: vs) (b :: l)
theorem Bts.len {vs : List AV} {l : List Bs} (h : Bts vs l) : vs.length = l.length := by
  induction h with
  | nil => rfl
  | cons h t ih => simp [ih]
theorem Bts.snoc {vs : List AV} {l : List Bs} (h : Bts vs l) {v : AV} {b : Bs} (hv : BtA v b) : Bts (vs ++ [v]) (l ++ [b]) := by
  induction h with
  | nil => exact .cons hv .nil
  | cons h t ih => exact .cons h ih
def LsA (H0 H : AHeap) (v : AV) (l : List Bs) : Prop := (v = .nilsl ∧ l = []) ∨ ∃ i op vs, v = .sl i 0 1 l.length l.length op ∧ H0.next ≤ i ∧ H.get i = some (.cells vs) ∧ Bts vs l
theorem LsA.new {H0 H : AHeap} {i n : Nat} {vs : List AV} {v : AV} {l : List Bs} {b : Bs} (hi : H0.next ≤ i) (hn : n = l.length + 1) (hg : H.get i = some (.cells (vs ++ [v]))) (hv : Bts vs l) (hb : BtA v b) : LsA H0 H (.sl i 0 1 n n true) (l ++ [b]) :=
  .inr ⟨i, true, vs ++ [v], by rw [hn]; simp, hi, hg, hv.snoc hb⟩
set_option maxHeartbeats 8000000 in
set_option maxRecDepth 100000 in
theorem all_run {bv : AV} {b : Bs} (hb : BtA bv b) (hl : b.length ≤ 1000000000) (H : AHeap) :
    Does Tryz.prog G 58 [bv, .int .u64 0] H fun r H1 => ∃ lv, r = .tuple [lv, .int .i64 (all (b.length + 1) 0 b).2] ∧ LsA H H1 lv (all (b.length + 1) 0 b).1 ∧ ∀ j x, H.get j = some x → H1.get j = some x := by
  refine Does.wf Tryz.call58 fun hw _ => ?_
  refine does_f Tryz.call58 Tryz.func58 rfl (by simp [Tryz.f58]) ?_
  simp
  refine aws_loopw (fun n T' H' => ∃ (pre : List Bs) (size next : Nat), size ≤ b.length ∧ pre.length ≤ size ∧ b.length - size < n + 1 ∧ next < 18446744073709551616 ∧ T' 0 = bv ∧ T' 5 = .int .i64 size ∧ T' 6 = .int .u64 next ∧ LsA H H' (T' 4) pre ∧
    (all (b.length + 1) 0 b).1 = pre ++ (all (n + 1) next (b.drop size)).1 ∧ (all (b.length + 1) 0 b).2 = size + (all (n + 1) next (b.drop size)).2 ∧ (∀ j x, H.get j = some x → H'.get j = some x) ∧ H.next ≤ H'.next) b.length ?_ ?_
  · exact ⟨[], 0, 0, by omega, by simp, by omega, by omega, by simp, by simp, by simp, .inl ⟨by simp, rfl⟩, by simp, by simp, fun j x hj => hj, Nat.le_refl _⟩
  rintro n T H1 ⟨pre, size, next, hsz, hpl, hn, hnx, t0, t5, t6, hL, hA1, hA2, hs, hHn⟩ hw1 _
  have hcut : ∃ tv, aslice Tryz.prog 22 bv (some (.int .i64 size)) none none = some tv ∧ BtA tv (b.drop size) := by
    rcases hb with ⟨rfl, rfl⟩ | ⟨ts, rfl⟩
    · have : size = 0 := by simpa using hsz
      subst this
      exact ⟨.nilsl, by simp, .nil⟩
    · have h1 : (size : Int) ≤ b.length := by omega
      by_cases h : size < b.length
      · refine ⟨.vsl (List.drop size (strCs b ++ ts)) (b.length - size), by simp [hsz, h], ?_⟩
        have := cutBt (b := b) (ts := ts) (l := size) (h := b.length) (by omega) (by omega)
        rwa [List.take_of_length_le (by simp)] at this
      · refine ⟨.vsl [] 0, by simp [hsz, h], ?_⟩
        rw [List.drop_eq_nil_of_le (by omega)]
        exact .inr ⟨[], rfl⟩
  obtain ⟨tv, e1, htv⟩ := hcut
  simp [t0, t5, t6, e1, -aslice]
  refine does_usew (take_does htv (by simp; omega) H1) ?_
  rintro r H2 ⟨xv, hxv, rfl, rfl⟩ _ _
  have hts := take_size (b.drop size)
  have hal : all (n + 1) next (b.drop size) = if (take (b.drop size)).2.2 = 0 ∨ (take (b.drop size)).1 ≠ next then ([], 0)
      else if next = 18446744073709551615 then ([(take (b.drop size)).2.1], (take (b.drop size)).2.2)
      else ((take (b.drop size)).2.1 :: (all n (next + 1) ((b.drop size).drop (take (b.drop size)).2.2)).1, (take (b.drop size)).2.2 + (all n (next + 1) ((b.drop size).drop (take (b.drop size)).2.2)).2) := rfl
  generalize take (b.drop size) = x at *
  obtain ⟨xn, xt, xk⟩ := x
  simp only at hxv hts hal
  rw [List.length_drop] at hts
  by_cases hk0 : xk = 0
  · rw [if_pos (.inl hk0)] at hal
    rw [hal] at hA1 hA2
    simp at hA1 hA2
    simp [hk0, t0, t5, t6]
    exact ⟨_, ⟨rfl, by rw [hA2]⟩, by rw [hA1]; exact hL, hs⟩
  by_cases hne : xn = next
  case neg =>
    rw [if_pos (.inr hne)] at hal
    rw [hal] at hA1 hA2
    simp at hA1 hA2
    have hne' : ((xn : Int) != (next : Int)) = true := by rw [bne_iff_ne]; omega
    simp [hk0, hne', t0, t5, t6]
    exact ⟨_, ⟨rfl, by rw [hA2]⟩, by rw [hA1]; exact hL, hs⟩
  rw [if_neg (by simp [hk0, hne])] at hal
  have w1 : IntKind.i64.wrap ((size : Int) + xk) = ((size + xk : Nat) : Int) := by rw [IntWalk.i64_in _ (by omega)]; omega
  have hxc := hxv.cells
  have hxs := hxv.sc
  have hxl := htv.len
  subst hne
  have k1 : (pre.length + 1) * 24 ≤ 140737488355328 := by omega
  have k2 : pre.length + 1 ≤ 4611686018427387904 := by omega
  have k3 : ¬ pre.length + 1 ≤ pre.length := by omega
  have w2 : xn ≠ 18446744073709551615 → IntKind.u64.wrap ((xn : Int) + 1) = ((xn + 1 : Nat) : Int) := fun h => by rw [IntWalk.u64_in _ (by omega)]; omega
  -- what is behind the append
  have hfin : ∀ {H3 : AHeap} {lv : AV}, LsA H H3 lv (pre ++ [xt]) → (∀ j x, H.get j = some x → H3.get j = some x) → H.next ≤ H3.next → xn ≠ 18446744073709551615 →
      ∃ m, m < n ∧ ∃ (pre' : List Bs) (size' : Nat), size' ≤ b.length ∧ pre'.length ≤ size' ∧ b.length - size' < m + 1 ∧ ∃ next' : Nat, next' < 18446744073709551616 ∧ (size : Int) + xk = size' ∧ (xn : Int) + 1 = next' ∧ LsA H H3 lv pre' ∧
        (all (b.length + 1) 0 b).1 = pre' ++ (all (m + 1) next' (b.drop size')).1 ∧ (all (b.length + 1) 0 b).2 = size' + (all (m + 1) next' (b.drop size')).2 ∧ (∀ j x, H.get j = some x → H3.get j = some x) ∧ H.next ≤ H3.next := by
    intro H3 lv h1 h2 h4 h3
    rw [if_neg h3] at hal
    rw [hal, List.drop_drop] at hA1 hA2
    have hn1 : n = (n - 1) + 1 := by omega
    refine ⟨n - 1, by omega, pre ++ [xt], size + xk, by omega, by simp; omega, by omega, xn + 1, by omega, by push_cast; rfl, by push_cast; rfl, h1, ?_, ?_, h2, h4⟩
    · rw [hA1, ← hn1]; simp
    · rw [hA2, ← hn1]; simp only; omega
  have hend2 : xn = 18446744073709551615 → (all (b.length + 1) 0 b).1 = pre ++ [xt] ∧ (all (b.length + 1) 0 b).2 = size + xk := by
    intro h
    rw [if_pos h] at hal
    rw [hal] at hA1 hA2
    exact ⟨hA1, hA2⟩
  have hend3 : ¬ xn = 18446744073709551615 → ¬ (xn : Int) = 18446744073709551615 := fun h => by omega
  have hold : ∀ j x, H.get j = some x → H2.get j = some x ∧ j < H2.next ∧ j < H.next := fun j x hj => ⟨hs j x hj, next_lt hw1 (hs j x hj), next_lt hw hj⟩
  rcases hL with ⟨t4, hp0⟩ | ⟨i, op, vs, t4, hi, hg, hvs⟩
  · subst hp0
    by_cases hend : xn = 18446744073709551615
    · skip
      simp [hk0, t0, t4, t5, t6, hxc, hxs, w1, hend]
      obtain ⟨a1, a2⟩ := hend2 hend
      rw [a1, a2]
      refine ⟨_, ⟨rfl, by push_cast; rfl⟩, ?_, fun j x hj => ?_⟩
      · exact LsA.new (vs := []) (by omega) rfl (by simp) .nil hxv
      obtain ⟨q1, q2, q3⟩ := hold j x hj
      have q4 : j ≠ H2.next := by omega
      have q5 : j ≠ H2.next + 1 := by omega
      simp [q1, q4, q5]
    · skip
      simp [hk0, t0, t4, t5, t6, hxc, hxs, w1, w2 hend, hend3 hend, hend]
      refine hfin ?_ (fun j x hj => ?_) ?_ hend
      · exact LsA.new (vs := []) (by omega) rfl (by simp) .nil hxv
      rotate_left
      · simp; omega
      obtain ⟨q1, q2, q3⟩ := hold j x hj
      have q4 : j ≠ H2.next := by omega
      have q5 : j ≠ H2.next + 1 := by omega
      simp [q1, q4, q5]
  · have n1 : i ≠ H2.next := by have := next_lt hw1 hg; omega
    have hvl := hvs.len
    have tkv : List.take pre.length vs = vs := by rw [← hvl, List.take_length]
    cases op
    · by_cases hend : xn = 18446744073709551615
      · skip
        simp [hk0, t0, t4, t5, t6, hxc, hxs, w1, hg, n1, hvl, k1, k2, k3, hend]
        obtain ⟨a1, a2⟩ := hend2 hend
        rw [a1, a2]
        refine ⟨_, ⟨rfl, by push_cast; rfl⟩, ?_, fun j x hj => ?_⟩
        · exact LsA.new (vs := vs) (by omega) rfl (by simp [tkv]) hvs hxv
        obtain ⟨q1, q2, q3⟩ := hold j x hj
        have q4 : j ≠ H2.next := by omega
        have q5 : j ≠ H2.next + 1 := by omega
        have q6 : j ≠ i := by omega
        simp [q1, q4, q5, q6]
      · skip
        simp [hk0, t0, t4, t5, t6, hxc, hxs, w1, w2 hend, hend3 hend, hg, n1, hvl, k1, k2, k3, hend]
        refine hfin ?_ (fun j x hj => ?_) ?_ hend
        · exact LsA.new (vs := vs) (by omega) rfl (by simp [tkv]) hvs hxv
        rotate_left
        · simp; omega
        obtain ⟨q1, q2, q3⟩ := hold j x hj
        have q4 : j ≠ H2.next := by omega
        have q5 : j ≠ H2.next + 1 := by omega
        have q6 : j ≠ i := by omega
        simp [q1, q4, q5, q6]
    · by_cases hend : xn = 18446744073709551615
      · skip
        simp [hk0, t0, t4, t5, t6, hxc, hxs, w1, hg, n1, hvl, k1, k2, k3, hend]
        obtain ⟨a1, a2⟩ := hend2 hend
        rw [a1, a2]
        refine ⟨_, ⟨rfl, by push_cast; rfl⟩, ?_, fun j x hj => ?_⟩
        · exact LsA.new (vs := vs) (by omega) rfl (by simp [tkv]) hvs hxv
        obtain ⟨q1, q2, q3⟩ := hold j x hj
        have q4 : j ≠ H2.next := by omega
        have q5 : j ≠ H2.next + 1 := by omega
        have q6 : j ≠ i := by omega
        simp [q1, q4, q5, q6]
      · skip
        simp [hk0, t0, t4, t5, t6, hxc, hxs, w1, w2 hend, hend3 hend, hg, n1, hvl, k1, k2, k3, hend]
        refine hfin ?_ (fun j x hj => ?_) ?_ hend
        · exact LsA.new (vs := vs) (by omega) rfl (by simp [tkv]) hvs hxv
        rotate_left
        · simp; omega
        obtain ⟨q1, q2, q3⟩ := hold j x hj
        have q4 : j ≠ H2.next := by omega
        have q5 : j ≠ H2.next + 1 := by omega
        have q6 : j ≠ i := by omega
        simp [q1, q4, q5, q6]
end Go.Proofs.YtekbjlihciedjaaGreatDoor

namespace Go.Proofs.YtekbjlihciedjaaGreatDoor
open Go Go.Abs Go.Rp
variable {G : Nat → Option AV}
theorem cloneB_run {b : Bs} {ts : List AV} (hl : b.length ≤ 1000000000) (H : AHeap) : Does Tryz.prog G 26 [.vsl (strCs b ++ ts) b.length] H fun r H1 =>
    ∃ i cap op junk, r = .sl i 0 1 b.length cap op ∧ H.next ≤ i ∧ H1.get i = some (.cells (strCs b ++ junk)) ∧ ∀ j x, H.get j = some x → H1.get j = some x := by
  refine Does.wf Tryz.call26 fun hw _ => ?_
  have k1 : b.length ≤ 140737488355328 := by omega
  have k2 : b.length ≤ 4611686018427387904 := by omega
  have hold : ∀ j x, H.get j = some x → j ≠ H.next ∧ j ≠ H.next + 1 := fun j x hj => by have l := next_lt hw hj; omega
  refine does_f Tryz.call26 Tryz.func26 rfl (by simp [Tryz.f26]) ?_
  by_cases h0 : b.length = 0
  · have hb : b = [] := List.length_eq_zero_iff.1 h0
    subst hb
    simp [strCs]
    intro j x hj
    obtain ⟨e0, e1⟩ := hold j x hj
    simp [e0, hj]
  · have h1 : ¬ b.length ≤ 0 := by omega
    simp [h0, h1, k1, k2, strCs_sc, strCs_len]
    intro j x hj
    obtain ⟨e0, e1⟩ := hold j x hj
    simp [e0, e1, hj]
theorem cloneB_does {bv : AV} {b : Bs} (hb : BtA bv b) (hl : b.length ≤ 1000000000) (H : AHeap) : Does Tryz.prog G 26 [bv] H fun r h => BtA r b ∧ h = H := by
  rcases hb with ⟨rfl, rfl⟩ | ⟨ts, rfl⟩
  · refine does_f Tryz.call26 Tryz.func26 rfl (by simp [Tryz.f26]) ?_
    simp
    exact .nil
  · exact (fresh_bytes (cloneB_run hl H)).mono fun r h ⟨h1, h2⟩ => ⟨by rw [h1]; exact .bV b, h2⟩
end Go.Proofs.YtekbjlihciedjaaGreatDoor

namespace Go.Proofs.YtekbjlihciedjaaGreatDoor
open Go Go.Abs Go.Rp
variable {G : Nat → Option AV}
def FlAt (n s : AV) (f : Fl) : Prop := BtA n f.now ∧ BtA s f.synced
def dkV (n0 s0 n1 s1 n2 s2 : AV) (d : Dk) : List AV := [n0, s0, .bool d.f0.other, n1, s1, .bool d.f1.other, n2, s2, .bool d.f2.other, .bool d.off, .bool d.crashed, .int .i64 d.fuse, .int .i64 d.lives]
def DkC (cs : List AV) (d : Dk) : Prop := ∃ n0 s0 n1 s1 n2 s2, cs = dkV n0 s0 n1 s1 n2 s2 d ∧ FlAt n0 s0 d.f0 ∧ FlAt n1 s1 d.f1 ∧ FlAt n2 s2 d.f2
def DkAt (H : AHeap) (k : Nat) (d : Dk) : Prop := ∃ cs, DkC cs d ∧ H.get k = some (.cells cs)
def DkTo (H h : AHeap) (k : Nat) (d : Dk) : Prop := ∃ cs, DkC cs d ∧ h = H.set k (.cells cs)
theorem DkTo.at {H h : AHeap} {k : Nat} {d : Dk} (t : DkTo H h k d) : DkAt h k d := by
  obtain ⟨cs, h1, rfl⟩ := t
  exact ⟨cs, h1, by simp⟩
theorem DkTo.off {H h : AHeap} {k : Nat} {d : Dk} (t : DkTo H h k d) {j : Nat} (hj : j ≠ k) : h.get j = H.get j := by
  obtain ⟨cs, h1, rfl⟩ := t
  simp [hj]
def dkOk (d : Dk) : Prop := 0 ≤ d.fuse ∧ d.fuse ≤ 9223372036854775807 ∧ 0 ≤ d.lives ∧ d.lives ≤ 1000000000 ∧ d.f0.now.length ≤ 262144 ∧ d.f1.now.length ≤ 262144 ∧ d.f2.now.length ≤ 262144 ∧ d.f0.synced.length ≤ 262144 ∧ d.f1.synced.length ≤ 262144 ∧ d.f2.synced.length ≤ 262144
theorem set_self {H : AHeap} {k : Nat} {x : AObj} (h : H.get k = some x) : H.set k x = H := by
  refine AHeap.ext' rfl fun i => ?_
  simp only [AHeap.get_set]
  split
  · rename_i e; rw [e, h]
  · rfl
theorem may_does {H : AHeap} {k : Nat} {d : Dk} (hk : DkAt H k d) {n : Nat} (hn : n < 3) : Does Tryz.prog G 24 [.ptr k 0, .int .i64 n] H fun r h => r = .int .i64 (if d.off = true then 4 else 0) ∧ h = H := by
  obtain ⟨cs, ⟨n0, s0, n1, s1, n2, s2, rfl, _⟩, hk⟩ := hk
  refine does_f Tryz.call24 Tryz.func24 rfl (by simp [Tryz.f24]) ?_
  have c1 : ¬ (n : Int) < 0 := by omega
  have c2 : ¬ (3 : Int) ≤ n := by omega
  obtain ⟨f0, f1, f2, off, crashed, fuse, lives⟩ := d
  cases off <;> simp [c1, c2, hk, dkV]
theorem blown_does {H : AHeap} {k : Nat} {d : Dk} (hk : DkAt H k d) (hd : dkOk d) : Does Tryz.prog G 27 [.ptr k 0] H fun r h => r = .bool d.blown.1 ∧ DkTo H h k d.blown.2 := by
  obtain ⟨cs, ⟨n0, s0, n1, s1, n2, s2, rfl, hf⟩, hk⟩ := hk
  obtain ⟨d1, d2, d3, d4, _⟩ := hd
  refine does_f Tryz.call27 Tryz.func27 rfl (by simp [Tryz.f27]) ?_
  obtain ⟨f0, f1, f2, off, crashed, fuse, lives⟩ := d
  simp only at d1 d2 d3 d4 hf
  have w1 : IntKind.i64.wrap (fuse - 1) = fuse - 1 := IntWalk.i64_in _ (by omega)
  by_cases h0 : fuse = 0
  · subst h0
    simp [hk, dkV, Dk.blown]
    exact ⟨_, ⟨n0, s0, n1, s1, n2, s2, rfl, hf⟩, (set_self hk).symm⟩
  · by_cases h1 : 0 < fuse - 1
    · have h1' : 1 < fuse := by omega
      simp [hk, dkV, Dk.blown, h0, h1, h1', w1]
      exact ⟨_, ⟨n0, s0, n1, s1, n2, s2, rfl, hf⟩, rfl⟩
    · have h1' : ¬ 1 < fuse := by omega
      simp [hk, dkV, Dk.blown, h0, h1, h1', w1]
      exact ⟨_, ⟨n0, s0, n1, s1, n2, s2, rfl, hf⟩, rfl⟩
theorem dkOk_blown {d : Dk} (h : dkOk d) : dkOk d.blown.2 := by
  obtain ⟨h1, h2, h3, h4, h5⟩ := h
  unfold Dk.blown
  split
  · exact ⟨h1, h2, h3, h4, h5⟩
  · split
    · exact ⟨by simp only; omega, by simp only; omega, h3, h4, h5⟩
    · exact ⟨by simp only; omega, by simp only; omega, h3, h4, h5⟩
set_option maxHeartbeats 8000000 in
theorem change_does {H : AHeap} {k : Nat} {d : Dk} (hk : DkAt H k d) (hd : dkOk d) {n : Nat} (hn : n < 3) {bv : AV} {b : Bs} (hb : BtA bv b) (hl : b.length ≤ 1000000000) (o : Bool) :
    Does Tryz.prog G 25 [.ptr k 0, .int .i64 n, bv, .bool o] H fun r h => r = .int .i64 (d.change n b o).1 ∧ DkTo H h k (d.change n b o).2 := by
  refine does_f Tryz.call25 Tryz.func25 rfl (by simp [Tryz.f25]) ?_
  have hlv : alen Tryz.prog 22 bv = some (.int .i64 b.length) := by
    rcases hb with ⟨rfl, rfl⟩ | ⟨ts, rfl⟩ <;> simp [alen]
  by_cases hA : 262144 < b.length
  · have hA' : (262144 : Int) < b.length := by omega
    have e : d.change n b o = (6, d) := by simp [Dk.change, hA]
    obtain ⟨cs, hc, hg⟩ := hk
    simp [hlv, hA', e, -alen]
    exact ⟨cs, hc, (set_self hg).symm⟩
  have hA' : ¬ (262144 : Int) < b.length := by omega
  simp [hlv, hA', -alen]
  refine does_use (blown_does hk hd) ?_
  rintro r h ⟨rfl, ht⟩
  have hx : d.change n b o = if d.blown.1 = true then (4, d.blown.2) else (0, d.blown.2.setF n { d.blown.2.file n with now := b, other := (d.blown.2.file n).other || o }) := by simp [Dk.change, hA]
  obtain ⟨cs, ⟨n0, s0, n1, s1, n2, s2, rfl, h0, h1, h2⟩, rfl⟩ := ht
  generalize d.blown = y at *
  obtain ⟨y1, y2⟩ := y
  simp only at *
  cases y1
  case true =>
    simp [hx]
    exact ⟨_, ⟨n0, s0, n1, s1, n2, s2, rfl, h0, h1, h2⟩, rfl⟩
  have hbs := hb.sc
  have hbc := hb.cells
  obtain ⟨f0, f1, f2, off, crashed, fuse, lives⟩ := y2
  obtain ⟨fn0, fs0, fo0⟩ := f0
  obtain ⟨fn1, fs1, fo1⟩ := f1
  obtain ⟨fn2, fs2, fo2⟩ := f2
  simp only at *
  match n, hn with
  | 0, _ =>
    cases fo0 <;> simp [dkV, hbs, hbc] <;> refine aw_drawn [(8, 0)] mixedOrdR (by kernel_rfl) ?_ <;> intro es hes <;> simp [rds, heapF] <;> refine ⟨by subst hes; exact ⟨by kernel_rfl, by kernel_rfl⟩, ?_⟩ <;> rw [hx]
    · exact ⟨by simp, _, ⟨bv, s0, n1, s1, n2, s2, rfl, ⟨hb, h0.2⟩, h1, h2⟩, by simp [dkV, Dk.setF, Dk.file]⟩
    · exact ⟨by simp, _, ⟨bv, s0, n1, s1, n2, s2, rfl, ⟨hb, h0.2⟩, h1, h2⟩, by simp [dkV, Dk.setF, Dk.file]⟩
  | 1, _ =>
    cases fo1 <;> simp [dkV, hbs, hbc] <;> refine aw_drawn [(8, 0)] mixedOrdR (by kernel_rfl) ?_ <;> intro es hes <;> simp [rds, heapF] <;> refine ⟨by subst hes; exact ⟨by kernel_rfl, by kernel_rfl⟩, ?_⟩ <;> rw [hx]
    · exact ⟨by simp, _, ⟨n0, s0, bv, s1, n2, s2, rfl, h0, ⟨hb, h1.2⟩, h2⟩, by simp [dkV, Dk.setF, Dk.file]⟩
    · exact ⟨by simp, _, ⟨n0, s0, bv, s1, n2, s2, rfl, h0, ⟨hb, h1.2⟩, h2⟩, by simp [dkV, Dk.setF, Dk.file]⟩
  | 2, _ =>
    cases fo2 <;> simp [dkV, hbs, hbc] <;> refine aw_drawn [(8, 0)] mixedOrdR (by kernel_rfl) ?_ <;> intro es hes <;> simp [rds, heapF] <;> refine ⟨by subst hes; exact ⟨by kernel_rfl, by kernel_rfl⟩, ?_⟩ <;> rw [hx]
    · exact ⟨by simp, _, ⟨n0, s0, n1, s1, bv, s2, rfl, h0, h1, ⟨hb, h2.2⟩⟩, by simp [dkV, Dk.setF, Dk.file]⟩
    · exact ⟨by simp, _, ⟨n0, s0, n1, s1, bv, s2, rfl, h0, h1, ⟨hb, h2.2⟩⟩, by simp [dkV, Dk.setF, Dk.file]⟩
end Go.Proofs.YtekbjlihciedjaaGreatDoor

namespace Go.Proofs.YtekbjlihciedjaaGreatDoor
open Go Go.Abs Go.Rp
variable {G : Nat → Option AV}
theorem file_len {d : Dk} (hd : dkOk d) (n : Nat) : (d.file n).now.length ≤ 262144 := by
  obtain ⟨_, _, _, _, h0, h1, h2, _⟩ := hd
  unfold Dk.file
  split
  · exact h0
  · split
    · exact h1
    · exact h2
theorem nowAt {H : AHeap} {k : Nat} {d : Dk} (hk : DkAt H k d) {n : Nat} (hn : n < 3) : ∃ cs v, H.get k = some (.cells cs) ∧ cs.length = 13 ∧ cs[3 * n]? = some v ∧ BtA v (d.file n).now ∧ DkC cs d := by
  obtain ⟨cs, hc, hg⟩ := hk
  have hc' := hc
  obtain ⟨n0, s0, n1, s1, n2, s2, rfl, h0, h1, h2⟩ := hc
  match n, hn with
  | 0, _ => exact ⟨_, n0, hg, rfl, rfl, h0.1, hc'⟩
  | 1, _ => exact ⟨_, n1, hg, rfl, rfl, h1.1, hc'⟩
  | 2, _ => exact ⟨_, n2, hg, rfl, rfl, h2.1, hc'⟩
set_option maxHeartbeats 8000000 in
theorem read_does {H : AHeap} {k : Nat} {d : Dk} (hk : DkAt H k d) (hd : dkOk d) {n : Nat} (hn : n < 3) :
    Does Tryz.prog G 57 [.ptr k 0, .int .i64 n] H fun r h => (if d.off = true then r = .tuple [.nilsl, .int .i64 4] else ∃ v, BtA v (d.file n).now ∧ r = .tuple [v, .int .i64 0]) ∧ h = H := by
  refine does_f Tryz.call57 Tryz.func57 rfl (by simp [Tryz.f57]) ?_
  simp
  refine does_use (may_does hk hn) ?_
  rintro r h ⟨rfl, rfl⟩
  by_cases hoff : d.off = true
  · simp [hoff]
  obtain ⟨cs, v, hg, hcl, hv, hb, _⟩ := nowAt hk hn
  have hl := file_len hd n
  have c1 : (n : Int) < 3 := by omega
  have c2 : n * 3 ≤ cs.length := by omega
  have hv' : cs[n * 3]? = some v := by rw [Nat.mul_comm]; exact hv
  simp [hoff, hg, c1, c2, hn, hv']
  refine does_use (cloneB_does hb (by omega) _) ?_
  rintro r h2 ⟨hr, rfl⟩
  simp
  exact ⟨by simpa using hoff, hr⟩
set_option maxHeartbeats 8000000 in
theorem settle_does {H : AHeap} {k : Nat} {d : Dk} (hk : DkAt H k d) (hd : dkOk d) {n : Nat} (hn : n < 3) :
    Does Tryz.prog G 28 [.ptr k (n * 3)] H fun r h => DkTo H h k (d.setF n (d.file n).settle) := by
  have hfl := file_len hd n
  obtain ⟨cs, ⟨n0, s0, n1, s1, n2, s2, rfl, h0, h1, h2⟩, hg⟩ := hk
  refine does_f Tryz.call28 Tryz.func28 rfl (by simp [Tryz.f28]) ?_
  obtain ⟨f0, f1, f2, off, crashed, fuse, lives⟩ := d
  match n, hn with
  | 0, _ =>
    simp [hg, dkV]
    refine does_use (cloneB_does h0.1 (by simp [Dk.file] at hfl; simp only; omega) _) ?_
    rintro r h ⟨hr, rfl⟩
    simp [hg, dkV, hr.cells, hr.sc]
    exact ⟨_, ⟨n0, r, n1, s1, n2, s2, rfl, ⟨h0.1, hr⟩, h1, h2⟩, by simp [dkV, Dk.setF, Dk.file, Fl.settle]⟩
  | 1, _ =>
    simp [hg, dkV]
    refine does_use (cloneB_does h1.1 (by simp [Dk.file] at hfl; simp only; omega) _) ?_
    rintro r h ⟨hr, rfl⟩
    simp [hg, dkV, hr.cells, hr.sc]
    exact ⟨_, ⟨n0, s0, n1, r, n2, s2, rfl, h0, ⟨h1.1, hr⟩, h2⟩, by simp [dkV, Dk.setF, Dk.file, Fl.settle]⟩
  | 2, _ =>
    simp [hg, dkV]
    refine does_use (cloneB_does h2.1 (by simp [Dk.file] at hfl; simp only; omega) _) ?_
    rintro r h ⟨hr, rfl⟩
    simp [hg, dkV, hr.cells, hr.sc]
    exact ⟨_, ⟨n0, s0, n1, s1, n2, r, rfl, h0, h1, ⟨h2.1, hr⟩⟩, by simp [dkV, Dk.setF, Dk.file, Fl.settle]⟩
set_option maxHeartbeats 8000000 in
theorem sync_does {H : AHeap} {k : Nat} {d : Dk} (hk : DkAt H k d) (hd : dkOk d) {n : Nat} (hn : n < 3) :
    Does Tryz.prog G 9 [.ptr k 0, .int .i64 n] H fun r h => r = .int .i64 (d.sync n).1 ∧ DkTo H h k (d.sync n).2 := by
  refine does_f Tryz.call9 Tryz.func9 rfl (by simp [Tryz.f9]) ?_
  simp
  refine does_use (may_does hk hn) ?_
  rintro r h ⟨rfl, rfl⟩
  by_cases hoff : d.off = true
  · have e : d.sync n = (4, d) := by simp [Dk.sync, hoff]
    simp [hoff, e]
    obtain ⟨cs, hc, hg⟩ := hk
    exact ⟨cs, hc, (set_self hg).symm⟩
  simp [hoff]
  refine does_use (blown_does hk hd) ?_
  rintro r h2 ⟨rfl, ht⟩
  have hx : d.sync n = if d.blown.1 = true then (4, d.blown.2) else (0, d.blown.2.setF n (d.blown.2.file n).settle) := by simp [Dk.sync, hoff]
  have hd2 := dkOk_blown hd
  generalize d.blown = y at *
  obtain ⟨y1, y2⟩ := y
  simp only at *
  cases y1
  case true =>
    simp [hx]
    exact ht
  have hat := ht.at
  obtain ⟨cs, v, hg, hcl, hv, hbv, hC⟩ := nowAt hat hn
  have c1 : (n : Int) < 3 := by omega
  have c2 : n * 3 ≤ cs.length := by omega
  simp [hg, c1, c2, hn]
  refine does_use (settle_does hat hd2 hn) ?_
  rintro r h3 ht3
  simp [hx]
  obtain ⟨cs', hc', rfl⟩ := ht3
  obtain ⟨cs'', hc'', rfl⟩ := ht
  exact ⟨cs', hc', by simp⟩
theorem dkOk_setF {d : Dk} (h : dkOk d) (n : Nat) {f : Fl} (h1 : f.now.length ≤ 262144) (h2 : f.synced.length ≤ 262144) : dkOk (d.setF n f) := by
  obtain ⟨k1, k2, k3, k4, k5, k6, k7, k8, k9, k10⟩ := h
  unfold Dk.setF
  split
  · exact ⟨k1, k2, k3, k4, h1, k6, k7, h2, k9, k10⟩
  · split
    · exact ⟨k1, k2, k3, k4, k5, h1, k7, k8, h2, k10⟩
    · exact ⟨k1, k2, k3, k4, k5, k6, h1, k8, k9, h2⟩
theorem synced_len {d : Dk} (hd : dkOk d) (n : Nat) : (d.file n).synced.length ≤ 262144 := by
  obtain ⟨_, _, _, _, _, _, _, h0, h1, h2⟩ := hd
  unfold Dk.file
  split
  · exact h0
  · split
    · exact h1
    · exact h2
theorem power_does {H : AHeap} {k : Nat} {d : Dk} (hk : DkAt H k d) : Does Tryz.prog G 79 [.ptr k 0] H fun r h => r = .bool (!d.off) ∧ h = H := by
  obtain ⟨cs, ⟨n0, s0, n1, s1, n2, s2, rfl, h0, h1, h2⟩, hg⟩ := hk
  refine does_f Tryz.call79 Tryz.func79 rfl (by simp [Tryz.f79]) ?_
  simp [hg, dkV]
theorem lives_does {H : AHeap} {k : Nat} {d : Dk} (hk : DkAt H k d) : Does Tryz.prog G 33 [.ptr k 0] H fun r h => r = .int .i64 d.lives ∧ h = H := by
  obtain ⟨cs, ⟨n0, s0, n1, s1, n2, s2, rfl, h0, h1, h2⟩, hg⟩ := hk
  refine does_f Tryz.call33 Tryz.func33 rfl (by simp [Tryz.f33]) ?_
  simp [hg, dkV]
theorem new_does (H : AHeap) : Does Tryz.prog G 7 [] H fun r h => r = .ptr H.next 0 ∧ ∃ cs, DkC cs Dk.new ∧ h = H.push (.cells cs) := by
  refine does_f Tryz.call7 Tryz.func7 rfl (by simp [Tryz.f7]) ?_
  simp
  exact ⟨_, ⟨.nilsl, .nilsl, .nilsl, .nilsl, .nilsl, .nilsl, rfl, ⟨.nil, .nil⟩, ⟨.nil, .nil⟩, ⟨.nil, .nil⟩⟩, by simp [dkV, Dk.new, Fl.new]⟩
end Go.Proofs.YtekbjlihciedjaaGreatDoor

namespace Go.Proofs.YtekbjlihciedjaaGreatDoor
open Go Go.Abs Go.Rp
variable {G : Nat → Option AV}
set_option maxHeartbeats 8000000 in
theorem put_does {H : AHeap} {k : Nat} {d : Dk} (hk : DkAt H k d) (hd : dkOk d) {n : Nat} (hn : n < 3) {bv : AV} {b : Bs} (hb : BtA bv b) (hl : b.length ≤ 1000000000) :
    Does Tryz.prog G 8 [.ptr k 0, .int .i64 n, bv] H fun r h => r = .int .i64 (d.put n b).1 ∧ DkTo H h k (d.put n b).2 := by
  refine does_f Tryz.call8 Tryz.func8 rfl (by simp [Tryz.f8]) ?_
  simp
  refine does_use (may_does hk hn) ?_
  rintro r h ⟨rfl, rfl⟩
  by_cases hoff : d.off = true
  · have e : d.put n b = (4, d) := by simp [Dk.put, hoff]
    obtain ⟨cs, hc, hg⟩ := hk
    simp [hoff, e]
    exact ⟨cs, hc, (set_self hg).symm⟩
  have e : d.put n b = d.change n b true := by simp [Dk.put, hoff]
  simp [hoff]
  refine does_use (cloneB_does hb hl _) ?_
  rintro r h2 ⟨hr, rfl⟩
  simp
  refine does_use (change_does hk hd hn hr hl true) ?_
  rintro r h3 ⟨rfl, ht⟩
  simp [e]
  exact ht
set_option maxHeartbeats 8000000 in
theorem dkCut_does {H : AHeap} {k : Nat} {d : Dk} (hk : DkAt H k d) (hd : dkOk d) {n : Nat} (hn : n < 3) {m : Nat} (hm : m ≤ 1000000000) :
    Does Tryz.prog G 59 [.ptr k 0, .int .i64 n, .int .i64 m] H fun r h => r = .int .i64 (d.cut n m).1 ∧ DkTo H h k (d.cut n m).2 := by
  refine does_f Tryz.call59 Tryz.func59 rfl (by simp [Tryz.f59]) ?_
  simp
  refine does_use (may_does hk hn) ?_
  rintro r h ⟨rfl, rfl⟩
  obtain ⟨cs0, hc0, hg0⟩ := hk
  by_cases hoff : d.off = true
  · have e : d.cut n m = (4, d) := by simp [Dk.cut, hoff]
    simp [hoff, e]
    exact ⟨cs0, hc0, (set_self hg0).symm⟩
  obtain ⟨cs, v, hg, hcl, hv, hbv, hC⟩ := nowAt (H := h) ⟨cs0, hc0, hg0⟩ hn
  have hfl := file_len hd n
  have c1 : (n : Int) < 3 := by omega
  have c2 : n * 3 ≤ cs.length := by omega
  have hv' : cs[n * 3]? = some v := by rw [Nat.mul_comm]; exact hv
  have c0 : ¬ (m : Int) < 0 := by omega
  have hlv : alen Tryz.prog 22 v = some (.int .i64 (d.file n).now.length) := by
    rcases hbv with ⟨rfl, e⟩ | ⟨ts, rfl⟩
    · simp [alen, e]
    · simp [alen]
  by_cases hA : (d.file n).now.length < m
  · have e : d.cut n m = (1, d) := by simp [Dk.cut, hoff, hA]
    have hA' : ((d.file n).now.length : Int) < m := by omega
    simp [hoff, hg, c0, c1, c2, hn, hv', hlv, hA', e, -alen]
    exact ⟨cs0, hc0, (set_self hg0).symm⟩
  have hA' : ¬ ((d.file n).now.length : Int) < m := by omega
  have e : d.cut n m = d.change n ((d.file n).now.take m) true := by simp [Dk.cut, hoff, hA]
  have hcut : ∃ tv, aslice Tryz.prog 22 v none (some (.int .i64 m)) none = some tv ∧ BtA tv ((d.file n).now.take m) := by
    rcases hbv with ⟨rfl, e⟩ | ⟨ts, rfl⟩
    · rw [e] at hA ⊢
      have : m = 0 := by simpa using hA
      subst this
      exact ⟨.nilsl, by simp, .nil⟩
    · have h1 : m ≤ (d.file n).now.length := by omega
      by_cases h : 0 < (d.file n).now.length
      · refine ⟨.vsl (strCs (d.file n).now ++ ts) m, by simp [h1, h], ?_⟩
        have := cutBt (b := (d.file n).now) (ts := ts) (l := 0) (h := m) (by omega) h1
        simpa using this
      · have e0 : (d.file n).now = [] := List.length_eq_zero_iff.1 (by omega)
        have : m = 0 := by omega
        subst this
        refine ⟨.vsl [] 0, by simp [h1, h], ?_⟩
        rw [List.take_zero]
        exact .inr ⟨[], rfl⟩
  obtain ⟨tv, e1, htv⟩ := hcut
  simp [hoff, hg, c0, c1, c2, hn, hv', hlv, hA', e1, -alen, -aslice]
  refine does_use (cloneB_does htv (by simp; omega) _) ?_
  rintro r h2 ⟨hr, rfl⟩
  simp
  refine does_use (change_does ⟨cs0, hc0, hg0⟩ hd hn hr (by simp; omega) true) ?_
  rintro r h3 ⟨rfl, ht⟩
  simp [e]
  exact ht
end Go.Proofs.YtekbjlihciedjaaGreatDoor

namespace Go.Proofs.YtekbjlihciedjaaGreatDoor
open Go Go.Abs Go.Rp
variable {G : Nat → Option AV}
def LsL (H : AHeap) (v : AV) (l : List Bs) : Prop := (v = .nilsl ∧ l = []) ∨ ∃ i op vs, v = .sl i 0 1 l.length l.length op ∧ H.get i = some (.cells vs) ∧ Bts vs l
theorem LsL.len {H : AHeap} {v : AV} {l : List Bs} (h : LsL H v l) : alen Tryz.prog 87 v = some (.int .i64 l.length) := by
  rcases h with ⟨rfl, rfl⟩ | ⟨i, op, vs, rfl, _⟩ <;> simp [alen]
theorem LsL.keep {H H' : AHeap} {v : AV} {l : List Bs} (h : LsL H v l) (hk : ∀ i op, v = .sl i 0 1 l.length l.length op → H'.get i = H.get i) : LsL H' v l := by
  rcases h with h | ⟨i, op, vs, rfl, hg, hv⟩
  · exact .inl h
  · exact .inr ⟨i, op, vs, rfl, by rw [hk i op rfl]; exact hg, hv⟩
structure Lg where
  l : List Bs
  synced : Int
  lives : Int
  done : Bool
def lgV (k : Nat) (lv : AV) (L : Lg) : List AV := [.ptr k 0, lv, .int .i64 L.synced, .int .i64 L.lives, .bool L.done]
def LgAt (H : AHeap) (g k : Nat) (lv : AV) (L : Lg) : Prop := H.get g = some (.cells (lgV k lv L)) ∧ LsL H lv L.l
theorem Lg.ne_k {H : AHeap} {k : Nat} {d : Dk} (hk : DkAt H k d) {v : AV} {l : List Bs} (h2 : LsL H v l) {i : Nat} {op : Bool} (e : v = .sl i 0 1 l.length l.length op) : i ≠ k := by
  obtain ⟨cs, ⟨n0, s0, n1, s1, n2, s2, rfl, _⟩, hg⟩ := hk
  rintro rfl
  rcases h2 with ⟨rfl, _⟩ | ⟨j, op', vs, e2, hg', hv⟩
  · cases e
  · rw [e] at e2; cases e2
    rw [hg] at hg'
    simp only [Option.some.injEq, AObj.cells.injEq] at hg'
    rw [← hg'] at hv
    unfold dkV at hv
    cases hv with | cons h t => cases t with | cons h t => cases t with | cons h t => rcases h with ⟨h, _⟩ | ⟨ts, h⟩ <;> cases h
theorem lgLen_does {H : AHeap} {g k : Nat} {lv : AV} {L : Lg} (hg : LgAt H g k lv L) : Does Tryz.prog G 66 [.ptr g 0] H fun r h => r = .int .i64 L.l.length ∧ h = H := by
  have hl := hg.2.len
  refine does_f Tryz.call66 Tryz.func66 rfl (by simp [Tryz.f66]) ?_
  simp [hg.1, lgV, hl, -alen]
end Go.Proofs.YtekbjlihciedjaaGreatDoor

namespace Go.Proofs.YtekbjlihciedjaaGreatDoor
open Go Go.Abs Go.Rp
variable {G : Nat → Option AV}
end Go.Proofs.YtekbjlihciedjaaGreatDoor

namespace Go.Proofs.YtekbjlihciedjaaGreatDoor
open Go Go.Abs Go.Rp
variable {G : Nat → Option AV}
end Go.Proofs.YtekbjlihciedjaaGreatDoor

namespace Go.Rp
open Go Go.Abs
theorem frzs_append (i : Nat) (c : List AV) : ∀ a b : List AV, AV.frzs i c (a ++ b) = AV.frzs i c a ++ AV.frzs i c b
  | [], b => rfl
  | x :: a, b => by simp only [List.cons_append, AV.frzs, frzs_append i c a b]
theorem frzs_strCs (i : Nat) (c : List AV) : ∀ b : Bs, AV.frzs i c (strCs b) = strCs b
  | [] => rfl
  | x :: b => by
    have e : strCs (x :: b) = .int .u8 x.toNat :: strCs b := rfl
    rw [e]
    simp only [AV.frzs, AV.frz, frzs_strCs i c b]
theorem BtA.frz {v : AV} {bs : Bs} (h : BtA v bs) (i : Nat) (c : List AV) : BtA (v.frz i c) bs := by
  rcases h with ⟨rfl, rfl⟩ | ⟨ts, rfl⟩
  · exact .nil
  · refine .inr ⟨AV.frzs i c ts, ?_⟩
    simp only [AV.frz, frzs_append, frzs_strCs]
theorem frz_old1 {H0 H : AHeap} (hw : H0.Wf) {i : Nat} (hi : H0.next ≤ i) {cs : List AV} {j : Nat} {x : AObj} (h0 : H0.get j = some x) (h : H.get j = some x) : (H.frz i cs).get j = some x := by
  have h1 := hw j x h0
  simp only [AHeap.frz]
  rw [if_neg (by omega), h]
  cases x with
  | cells c => simp only; rw [AV.frzs_lt hi c h1.2]
  | row t c => simp only; rw [AV.frzs_lt hi c h1.2]
  | map es =>
    have h2 := h1.2
    rw [AObj.cellsList, AV.allLt_append, Bool.and_eq_true] at h2
    have e1 := AV.frzs_fst i cs es
    have e2 := AV.frzs_snd i cs es
    rw [AV.frzs_lt hi _ h2.1] at e1
    rw [AV.frzs_lt hi _ h2.2] at e2
    simp only
    congr 2
    exact pairs_ext e1 e2
end Go.Rp

namespace Go.Proofs.YtekbjlihciedjaaGreatDoor
open Go Go.Abs Go.Rp
variable {G : Nat → Option AV}
theorem Bts.frz {vs : List AV} {l : List Bs} (h : Bts vs l) (i : Nat) (c : List AV) : Bts (AV.frzs i c vs) l := by
  induction h with
  | nil => exact .nil
  | cons h t ih => exact .cons (h.frz i c) ih
end Go.Proofs.YtekbjlihciedjaaGreatDoor

namespace Go.Proofs.YtekbjlihciedjaaGreatDoor
open Go Go.Abs Go.Rp
variable {G : Nat → Option AV}
theorem Bts.get {vs : List AV} {l : List Bs} (h : Bts vs l) : ∀ {n : Nat} {b : Bs}, l[n]? = some b → ∃ v, vs[n]? = some v ∧ BtA v b := by
  induction h with
  | nil => intro n b h; simp at h
  | cons h t ih =>
    intro n b hn
    cases n with
    | zero => simp at hn; subst hn; exact ⟨_, rfl, h⟩
    | succ n => simpa using ih (by simpa using hn)
def GotR (H : AHeap) (b : Bs) (r : AV) (h : AHeap) : Prop := ∃ i cap op, r = .tuple [.sl i 0 1 b.length cap op, .bool true] ∧ H.next ≤ i ∧ h.get i = some (.cells (strCs b)) ∧ ∀ j x, H.get j = some x → h.get j = some x
set_option maxHeartbeats 2000000 in
theorem lgGet_run {H : AHeap} {g k : Nat} {lv : AV} {L : Lg} (hg : LgAt H g k lv L) {n : Nat} {b : Bs} (hn : L.l[n]? = some b) (hl : b.length ≤ 1000000000) :
    Does Tryz.prog G 67 [.ptr g 0, .int .i64 n] H (GotR H b) := by
  refine Does.wf Tryz.call67 fun hw _ => ?_
  have hnl : n < L.l.length := by
    rcases Nat.lt_or_ge n L.l.length with q | q
    · exact q
    · rw [List.getElem?_eq_none q] at hn; simp at hn
  have hll := hg.2.len
  obtain ⟨i, op, vs, e, hgi, hvs⟩ : ∃ i op vs, lv = .sl i 0 1 L.l.length L.l.length op ∧ H.get i = some (.cells vs) ∧ Bts vs L.l := by
    rcases hg.2 with ⟨_, h⟩ | h
    · rw [h] at hnl; simp at hnl
    · exact h
  obtain ⟨v, hv, hb⟩ := hvs.get hn
  have hvl := hvs.len
  have h1 := hb.len
  have h2 := hb.first
  have h3 := hb.sc
  have h4 := hb.ni
  have gn : g ≠ H.next := by have := next_lt hw hg.1; omega
  have in_ : i ≠ H.next := by have := next_lt hw hgi; omega
  have c1 : ¬ (n : Int) < 0 := by omega
  have c2 : ¬ (L.l.length : Int) ≤ n := by omega
  have c3 : (n : Int) < L.l.length := by omega
  have c4 : n ≤ vs.length := by omega
  have k1 : b.length ≤ 140737488355328 := by omega
  have k2 : b.length ≤ 4611686018427387904 := by omega
  subst e
  refine does_f Tryz.call67 Tryz.func67 rfl (by simp [Tryz.f67]) ?_
  by_cases hb0 : b.length = 0
  · have hbe : b = [] := List.length_eq_zero_iff.1 hb0
    have h2' := hb.first0 hb0
    simp [hg.1, lgV, c1, c2, c3, c4, hnl, gn, in_, hgi, hv, h1, h2', h3, hb0, -afirst, -alenOf]
    refine ⟨H.next, 0, false, by rw [hb0], Nat.le_refl _, by simp [hbe, strCs], fun j x hj => ?_⟩
    have := next_lt hw hj
    simp [hj]; omega
  · have hb1 : ¬ b.length ≤ 0 := by omega
    simp [hg.1, lgV, c1, c2, c3, c4, hnl, gn, in_, hgi, hv, h1, h2, h3, hb0, hb1, k1, k2, strCs_sc, strCs_len, -afirst, -alenOf]
    refine ⟨H.next + 1, b.length, true, rfl, by omega, by simp, fun j x hj => ?_⟩
    have := next_lt hw hj
    have e0 : j ≠ H.next := by omega
    have e1 : j ≠ H.next + 1 := by omega
    simp [e0, e1, hj]
theorem lgGet_does {H : AHeap} {g k : Nat} {lv : AV} {L : Lg} (hg : LgAt H g k lv L) {n : Nat} {b : Bs} (hn : L.l[n]? = some b) (hl : b.length ≤ 1000000000) :
    Does Tryz.prog G 67 [.ptr g 0, .int .i64 n] H fun r h => r = .tuple [bV b, .bool true] ∧ h = H := by
  refine Does.frozen (lgGet_run hg hn hl) ?_
  rintro hw _ r H1 ⟨i, cap, op, rfl, hi, hgi, hs⟩
  have e1 : AV.frz i (strCs b) (.tuple [.sl i 0 1 b.length cap op, .bool true]) = .tuple [bV b, .bool true] := by simp [AV.frz, AV.frzs, take_strCs, bV]
  refine ⟨i, strCs b, hi, hgi, hs, ?_, ?_⟩
  · rw [e1]; simp [AV.idLt, AV.allLt, bV, strCs_lt]
  · rw [e1]; exact ⟨rfl, rfl⟩
def LgNew (H : AHeap) (k : Nat) (d d' : Dk) (l : List Bs) (r : AV) (h : AHeap) : Prop := ∃ g lv, r = .tuple [.ptr g 0, .int .i64 0] ∧ LgAt h g k lv ⟨l, l.length, d'.lives, false⟩ ∧ DkAt h k d' ∧ (∀ j x, H.get j = some x → j ≠ g) ∧
  (∀ i op, lv = .sl i 0 1 l.length l.length op → H.next ≤ i) ∧ ∀ j x, j ≠ k → H.get j = some x → h.get j = some x
theorem sync_zero {d : Dk} (ho : d.off = false) (hf : d.fuse = 0) (n : Nat) : d.sync n = (0, d.setF n (d.file n).settle) := by simp [Dk.sync, ho, Dk.blown, hf]
theorem cut_zero {d : Dk} (ho : d.off = false) (hf : d.fuse = 0) (hok : dkOk d) {n m : Nat} (hm : m ≤ (d.file n).now.length) : d.cut n m = (0, d.setF n { d.file n with now := (d.file n).now.take m, other := true }) := by
  have := file_len hok n
  have h1 : ¬ (d.file n).now.length < m := by omega
  have h2 : ¬ 262144 < ((d.file n).now.take m).length := by rw [List.length_take]; omega
  simp only [Dk.cut, ho, Bool.false_eq_true, if_false, if_neg h1, Dk.change, if_neg h2, Dk.blown, hf, if_true, Bool.or_true]
theorem setF_rest (d : Dk) (n : Nat) (f : Fl) : (d.setF n f).off = d.off ∧ (d.setF n f).fuse = d.fuse ∧ (d.setF n f).lives = d.lives := by
  unfold Dk.setF
  split
  · exact ⟨rfl, rfl, rfl⟩
  · split <;> exact ⟨rfl, rfl, rfl⟩
theorem LsA.lsl {H0 H : AHeap} {v : AV} {l : List Bs} (h : LsA H0 H v l) : LsL H v l := by
  rcases h with h | ⟨i, op, vs, h1, _, h3, h4⟩
  · exact .inl h
  · exact .inr ⟨i, op, vs, h1, h3, h4⟩
theorem LsA.cells {H0 H : AHeap} {v : AV} {l : List Bs} (h : LsA H0 H v l) : v.cells = [v] := by
  rcases h with ⟨rfl, _⟩ | ⟨i, op, vs, rfl, _⟩ <;> rfl
theorem lg_new {H h3 h4 : AHeap} {k : Nat} {d d3 d4 : Dk} {lv : AV} {l : List Bs} (hw : H.Wf) (hk : k < H.next) (hk3 : DkAt h3 k d3) (hw3 : h3.Wf) (hL : LsA H h3 lv l) (hs : ∀ j x, j ≠ k → H.get j = some x → h3.get j = some x) (ht : DkTo h3 h4 k d4) :
    LgNew H k d d4 l (.tuple [.ptr h4.next 0, .int .i64 0]) (h4.push (.cells (lgV k lv ⟨l, l.length, d4.lives, false⟩))) := by
  obtain ⟨cs, hc, rfl⟩ := ht
  have hk' : k < h3.next := by obtain ⟨c, _, hc⟩ := hk3; exact next_lt hw3 hc
  refine ⟨h3.next, lv, rfl, ⟨by simp, ?_⟩, ⟨cs, hc, by simp; omega⟩, ?_, fun i op e => ?_, fun j x hj hx => ?_⟩
  · refine hL.lsl.keep fun i op e => ?_
    have n1 := Lg.ne_k hk3 hL.lsl e
    have n2 : i ≠ h3.next := by
      rcases hL with ⟨h, _⟩ | ⟨i', op', vs, e', _, hgi, _⟩
      · rw [h] at e; cases e
      · rw [e] at e'; cases e'
        have := next_lt hw3 hgi; omega
    simp [n1, n2]
  · intro j x hx
    by_cases hj : j = k
    · omega
    · have := next_lt hw3 (hs j x hj hx); omega
  · rcases hL with ⟨h, _⟩ | ⟨i', op', vs, e', hi, hgi, _⟩
    · rw [h] at e; cases e
    · rw [e] at e'; cases e'
      exact hi
  · have h1 := hs j x hj hx
    have h2 := next_lt hw3 h1
    simp [hj]
    rw [if_neg (by omega)]; exact h1
set_option maxHeartbeats 2000000 in
theorem lgOpen_does {H : AHeap} {k : Nat} {d : Dk} (hk : DkAt H k d) (ho : d.off = false) (hok : dkOk d) (hf : d.fuse = 0) :
    Does Tryz.prog G 31 [.ptr k 0] H (LgNew H k d (if (all (d.f0.now.length + 1) 0 d.f0.now).2 < d.f0.now.length then ((d.cut 0 (all (d.f0.now.length + 1) 0 d.f0.now).2).2.sync 0).2 else (d.sync 0).2) (all (d.f0.now.length + 1) 0 d.f0.now).1) := by
  refine Does.wf Tryz.call31 fun hw _ => ?_
  have hl0 := file_len hok 0
  have hl0 : d.f0.now.length ≤ 262144 := hl0
  refine does_f Tryz.call31 Tryz.func31 rfl (by simp [Tryz.f31]) ?_
  simp
  refine does_use (read_does (n := 0) hk hok (by decide)) ?_
  rintro r h ⟨hr, rfl⟩
  rw [if_neg (by simp [ho])] at hr
  obtain ⟨v, hv, rfl⟩ := hr
  have hv : BtA v d.f0.now := hv
  simp
  refine does_usew (all_run hv (by omega) h) ?_
  rintro r h2 ⟨lv, rfl, hL, hs⟩ hw2 _
  have hsz := all_size (d.f0.now.length + 1) 0 d.f0.now
  generalize all (d.f0.now.length + 1) 0 d.f0.now = A at *
  obtain ⟨l, size⟩ := A
  simp only at hL hsz
  have hvl : alen Tryz.prog 22 v = some (.int .i64 d.f0.now.length) := by
    rcases hv with ⟨rfl, e⟩ | ⟨ts, rfl⟩
    · simp [alen, e]
    · simp [alen]
  have hk2 : DkAt h2 k d := by obtain ⟨cs, hc, hg⟩ := hk; exact ⟨cs, hc, hs _ _ hg⟩
  by_cases hc : size < d.f0.now.length
  · have hc' : (size : Int) < d.f0.now.length := by omega
    simp [hvl, hc', hc, -alen]
    have hz : size ≤ (d.file 0).now.length := by show size ≤ d.f0.now.length; omega
    refine does_usew (dkCut_does (n := 0) hk2 hok (by decide) (by omega)) ?_
    rintro r h3 ⟨rfl, ht1⟩ hw3 _
    rw [cut_zero ho hf hok hz] at ht1 ⊢
    simp
    obtain ⟨r1, r2, r3⟩ := setF_rest d 0 { d.file 0 with now := (d.file 0).now.take size, other := true }
    have hok2 : dkOk (d.setF 0 { d.file 0 with now := (d.file 0).now.take size, other := true }) := dkOk_setF hok 0 (by simp; have := file_len hok 0; omega) (synced_len hok 0)
    have hk3 := ht1.at
    generalize d.setF 0 { d.file 0 with now := (d.file 0).now.take size, other := true } = d2 at *
    have ho2 : d2.off = false := by rw [r1]; exact ho
    have hf2 : d2.fuse = 0 := by rw [r2]; exact hf
    have hoff3 := fun {j : Nat} (hj : j ≠ k) => ht1.off hj
    have hL3 : LsA h h3 lv l := by
      rcases hL with h' | ⟨i, op, vs, e, hi, hgi, hv⟩
      · exact .inl h'
      · refine .inr ⟨i, op, vs, e, hi, ?_, hv⟩
        rw [hoff3 (Lg.ne_k hk2 (LsA.lsl (H0 := h) (.inr ⟨i, op, vs, e, hi, hgi, hv⟩)) e)]; exact hgi
    refine does_usew (sync_does (n := 0) hk3 hok2 (by decide)) ?_
    rintro r h4 ⟨rfl, ht⟩ hw4 _
    have kn : k < h.next := by obtain ⟨c, _, hc⟩ := hk; exact next_lt hw hc
    have hll := hL3.lsl.len
    have hlc := hL3.cells
    rw [sync_zero ho2 hf2] at ht ⊢
    simp [hll, -alen]
    refine does_use (lives_does ht.at) ?_
    rintro r h5 ⟨rfl, rfl⟩
    simp [hlc]
    rw [if_pos hc]
    exact lg_new hw kn hk3 hw3 hL3 (fun j x hj hx => by rw [hoff3 hj]; exact hs j x hx) ht
  · have hc' : ¬ (size : Int) < d.f0.now.length := by omega
    simp [hvl, hc', hc, -alen]
    refine does_usew (sync_does (n := 0) hk2 hok (by decide)) ?_
    rintro r h4 ⟨rfl, ht⟩ hw4 _
    have kn : k < h.next := by obtain ⟨c, _, hc⟩ := hk; exact next_lt hw hc
    have hll := hL.lsl.len
    have hlc := hL.cells
    rw [sync_zero ho hf] at ht ⊢
    simp [hll, -alen]
    refine does_use (lives_does ht.at) ?_
    rintro r h5 ⟨rfl, rfl⟩
    simp [hlc]
    rw [if_neg hc]
    exact lg_new hw kn hk2 hw2 hL (fun j x _ hj => hs j x hj) ht
end Go.Proofs.YtekbjlihciedjaaGreatDoor

namespace Go.Proofs.YtekbjlihciedjaaGreatDoor
open Go Go.Abs Go.Rp
variable {G : Nat → Option AV}
def ckRead (b : Bs) : Nat × Bs := if (take b).2.2 ≠ b.length then (0, []) else ((take b).1, (take b).2.1)
def ckLast (b1 b2 : Bs) : Nat × Nat × Bs :=
  if (ckRead b1).1 = 0 ∧ (ckRead b2).1 = 0 then (0, 0, []) else if (ckRead b1).1 < (ckRead b2).1 then (2, ckRead b2) else (1, ckRead b1)
def CkR (H : AHeap) (x : Nat × Bs) (r : AV) (h : AHeap) : Prop := ∃ v, BtA v x.2 ∧ r = .tuple [.agg [.int .u64 x.1, v], .int .i64 0] ∧ h = H
set_option maxHeartbeats 2000000 in
theorem ckRead_does {H : AHeap} {k : Nat} {d : Dk} (hk : DkAt H k d) (hok : dkOk d) (ho : d.off = false) {n : Nat} (hn : n < 3) :
    Does Tryz.prog G 166 [.ptr k 0, .int .i64 n] H (CkR H (ckRead (d.file n).now)) := by
  refine Does.wf Tryz.call166 fun hw _ => ?_
  refine Does.ghost (R := fun r h => ∃ v, BtA v (ckRead (d.file n).now).2 ∧ AV.idLt H.next v = true ∧ r = .tuple [.agg [.int .u64 (ckRead (d.file n).now).1, v], .int .i64 0] ∧ ∀ j y, H.get j = some y → h.get j = some y) ?_ ?_
  · have hfl := file_len hok n
    have kn : k < H.next := by obtain ⟨c, _, hc⟩ := hk; exact next_lt hw hc
    refine does_f Tryz.call166 Tryz.func166 rfl (by simp [Tryz.f166]) ?_
    simp
    have hk2 : ∀ x, DkAt (H.push x) k d := by
      obtain ⟨cs, hc, hg⟩ := hk
      exact fun x => ⟨cs, hc, by simp [hg, show k ≠ H.next by omega]⟩
    refine does_usew (read_does (hk2 _) hok hn) ?_
    rintro r h ⟨hr, rfl⟩ _ hlt
    rw [if_neg (by simp [ho])] at hr
    obtain ⟨v, hv, rfl⟩ := hr
    have hvl : alen Tryz.prog 22 v = some (.int .i64 (d.file n).now.length) := by
      rcases hv with ⟨rfl, e⟩ | ⟨ts, rfl⟩
      · simp [alen, e]
      · simp [alen]
    simp
    refine does_usew (take_does' hv (by omega) _) ?_
    rintro r h2 ⟨tv, ⟨htv, hid⟩, rfl, rfl⟩ _ hlt2
    by_cases hc : (take (d.file n).now).2.2 = (d.file n).now.length
    · have e : ckRead (d.file n).now = ((take (d.file n).now).1, (take (d.file n).now).2.1) := by simp [ckRead, hc]
      simp [hvl, hc, e, htv.cells, htv.sc, -alen]
      exact ⟨tv, htv, hid _, rfl, fun j y hj => by
        have := next_lt hw hj
        rw [if_neg (by omega)]; exact hj⟩
    · have e : ckRead (d.file n).now = (0, []) := by simp [ckRead, hc]
      have hc' : (((take (d.file n).now).2.2 : Int) != ((d.file n).now.length : Int)) = true := by rw [bne_iff_ne]; omega
      simp [hvl, hc', e, -alen]
      exact ⟨.nilsl, .nil, rfl, rfl, fun j y hj => by
        have := next_lt hw hj
        rw [if_neg (by omega)]; exact hj⟩
  · rintro r h ⟨v, h1, h2, h3, h4⟩
    exact ⟨r, H, Ghost.back hw (by rw [h3]; simp [AV.idLt, AV.allLt, h2]) h4, v, h1, h3, rfl⟩
def CkL (H : AHeap) (x : Nat × Nat × Bs) (r : AV) (h : AHeap) : Prop := ∃ v, BtA v x.2.2 ∧ r = .tuple [.int .i64 x.1, .agg [.int .u64 x.2.1, v], .int .i64 0] ∧ ∀ j y, H.get j = some y → h.get j = some y
set_option maxHeartbeats 4000000 in
theorem ckLast_run {H : AHeap} {k : Nat} {d : Dk} (hk : DkAt H k d) (hok : dkOk d) (ho : d.off = false) :
    Does Tryz.prog G 111 [.ptr k 0] H (CkL H (ckLast d.f1.now d.f2.now)) := by
  refine Does.wf Tryz.call111 fun hw _ => ?_
  have kn : k < H.next := by obtain ⟨c, _, hc⟩ := hk; exact next_lt hw hc
  have hkx : ∀ h' : AHeap, h'.get k = H.get k → DkAt h' k d := by
    obtain ⟨cs, hc, hg⟩ := hk
    exact fun h' e => ⟨cs, hc, by rw [e]; exact hg⟩
  have k0 : k ≠ H.next := by omega
  have k1 : k ≠ H.next + 1 := by omega
  have k2 : k ≠ H.next + 1 + 1 := by omega
  refine does_f Tryz.call111 Tryz.func111 rfl (by simp [Tryz.f111]) ?_
  simp
  refine does_use (ckRead_does (n := 1) (hkx _ (by simp [k0])) hok ho (by decide)) ?_
  rintro r h ⟨v1, h1, rfl, rfl⟩
  have h1 : BtA v1 (ckRead d.f1.now).2 := h1
  have e1 : ckRead (d.file 1).now = ckRead d.f1.now := rfl
  rw [e1]
  simp [h1.cells, h1.sc]
  refine does_use (ckRead_does (n := 2) (hkx _ (by simp [k0, k1])) hok ho (by decide)) ?_
  rintro r h ⟨v2, h2, rfl, rfl⟩
  have h2 : BtA v2 (ckRead d.f2.now).2 := h2
  have e2 : ckRead (d.file 2).now = ckRead d.f2.now := rfl
  rw [e2]
  have hL : ckLast d.f1.now d.f2.now = if (ckRead d.f1.now).1 = 0 ∧ (ckRead d.f2.now).1 = 0 then (0, 0, []) else if (ckRead d.f1.now).1 < (ckRead d.f2.now).1 then (2, ckRead d.f2.now) else (1, ckRead d.f1.now) := rfl
  generalize ckRead d.f1.now = x1 at *
  generalize ckRead d.f2.now = x2 at *
  obtain ⟨m1, b1⟩ := x1
  obtain ⟨m2, b2⟩ := x2
  simp only at h1 h2 hL
  have hkeep : ∀ j y, H.get j = some y → j ≠ H.next ∧ j ≠ H.next + 1 ∧ j ≠ H.next + 1 + 1 := fun j y hj => by have := next_lt hw hj; omega
  have n0 : (H.next = H.next + 1 + 1) = False := eq_false (by omega)
  have n1 : (H.next + 1 = H.next + 1 + 1) = False := eq_false (by omega)
  have n2 : (H.next = H.next + 1) = False := eq_false (by omega)
  simp [h2.cells, h2.sc]
  by_cases z1 : m1 = 0
  · have z1' : decide (m1 = 0) = true := by simp [z1]
    by_cases z2 : m2 = 0
    · have z2' : decide (m2 = 0) = true := by simp [z2]
      rw [if_pos ⟨z1, z2⟩] at hL
      rw [hL]
      simp [z1', z2', k0, k1, k2, n0, n1, n2]
      exact ⟨.nilsl, .nil, rfl, fun j y hj => by
        obtain ⟨q0, q1, q2⟩ := hkeep j y hj
        simp [q0, q1, q2, hj]⟩
    · have z2' : decide (m2 = 0) = false := by simp [z2]
      have z3 : m1 < m2 := by omega
      rw [if_neg (by simp [z2]), if_pos z3] at hL
      rw [hL]
      simp [z1', z2', z3, k0, k1, k2, n0, n1, n2]
      refine aw_drawn [(0, 0)] mixedOrdR (by kernel_rfl) ?_
      intro es hes
      simp [h1.cells, h1.sc, h2.cells, h2.sc, n0, n1, n2]
      refine ⟨by subst hes; exact ⟨by kernel_rfl, by kernel_rfl⟩, ?_, ?_⟩
      · simp [rds, heapF, n0, n1, n2]
      exact ⟨_, h2, rfl, fun j y hj => by
        obtain ⟨q0, q1, q2⟩ := hkeep j y hj
        simp [q0, q1, q2, hj]⟩
  · have z1' : decide (m1 = 0) = false := by simp [z1]
    by_cases z3 : m1 < m2
    · rw [if_neg (by simp [z1]), if_pos z3] at hL
      rw [hL]
      simp [z1', z3, k0, k1, k2, n0, n1, n2]
      refine aw_drawn [(0, 0)] mixedOrdR (by kernel_rfl) ?_
      intro es hes
      simp [h1.cells, h1.sc, h2.cells, h2.sc, n0, n1, n2]
      refine ⟨by subst hes; exact ⟨by kernel_rfl, by kernel_rfl⟩, ?_, ?_⟩
      · simp [rds, heapF, n0, n1, n2]
      exact ⟨_, h2, rfl, fun j y hj => by
        obtain ⟨q0, q1, q2⟩ := hkeep j y hj
        simp [q0, q1, q2, hj]⟩
    · rw [if_neg (by simp [z1]), if_neg z3] at hL
      rw [hL]
      simp [z1', z3, k0, k1, k2, n0, n1, n2]
      refine aw_drawn [(0, 0)] mixedOrdR (by kernel_rfl) ?_
      intro es hes
      simp [h1.cells, h1.sc, h2.cells, h2.sc, n0, n1, n2]
      refine ⟨by subst hes; exact ⟨by kernel_rfl, by kernel_rfl⟩, ?_, ?_⟩
      · simp [rds, heapF, n0, n1, n2]
      exact ⟨_, h1, rfl, fun j y hj => by
        obtain ⟨q0, q1, q2⟩ := hkeep j y hj
        simp [q0, q1, q2, hj]⟩
end Go.Proofs.YtekbjlihciedjaaGreatDoor

namespace Go.Proofs.YtekbjlihciedjaaGreatDoor
open Go Go.Abs Go.Rp
variable {G : Nat → Option AV}
def CkD (H : AHeap) (x : Nat × Nat × Bs) (r : AV) (h : AHeap) : Prop := (∃ v, BtA v x.2.2 ∧ r = if x.1 = 0 then .tuple [.int .u64 0, .nilsl, .int .i64 5] else .tuple [.int .u64 x.2.1, v, .int .i64 0]) ∧ ∀ j y, H.get j = some y → h.get j = some y
set_option maxHeartbeats 4000000 in
theorem ckLoad_run {H : AHeap} {k : Nat} {d : Dk} (hk : DkAt H k d) (hok : dkOk d) (ho : d.off = false) :
    Does Tryz.prog G 60 [.ptr k 0] H (CkD H (ckLast d.f1.now d.f2.now)) := by
  refine Does.wf Tryz.call60 fun hw _ => ?_
  refine does_f Tryz.call60 Tryz.func60 rfl (by simp [Tryz.f60]) ?_
  simp
  refine does_usew (ckLast_run hk hok ho) ?_
  rintro r h ⟨v, hv, rfl, hs⟩ hw2 _
  have hkeep : ∀ j y, H.get j = some y → j ≠ h.next ∧ h.get j = some y := fun j y hj => by have := next_lt hw2 (hs j y hj); exact ⟨by omega, hs j y hj⟩
  generalize ckLast d.f1.now d.f2.now = x at *
  obtain ⟨f, n, b⟩ := x
  simp only at hv
  simp [hv.cells, hv.sc]
  by_cases hf : f = 0
  · have hf' : decide (f = 0) = true := by simp [hf]
    simp [hf', hf]
    refine ⟨⟨v, hv, rfl⟩, fun j y hj => ?_⟩
    obtain ⟨q1, q2⟩ := hkeep j y hj
    simp [q1, q2]
  · have hf' : decide (f = 0) = false := by simp [hf]
    simp [hf', hf]
    refine aw_still mixedOrdR (by kernel_rfl) ?_
    intro es hes
    simp [hv.cells, hv.sc]
    subst hes
    refine ⟨by kernel_rfl, ⟨v, hv, by simp [hf]⟩, fun j y hj => ?_⟩
    obtain ⟨q1, q2⟩ := hkeep j y hj
    simp [q1, q2]
end Go.Proofs.YtekbjlihciedjaaGreatDoor

namespace Go.Proofs.YtekbjlihciedjaaGreatDoor
open Go Go.Abs Go.Rp
variable {G : Nat → Option AV}
def ints (l : List Int) : List AV := l.map (.int .i64 ·)
theorem ints_len (l : List Int) : (ints l).length = l.length := by simp [ints]
theorem ints_lt (n : Nat) : ∀ l : List Int, AV.allLt n (ints l) = true
  | [] => rfl
  | v :: l => by
    have := ints_lt n l
    simp only [ints, List.map_cons, AV.allLt] at this ⊢
    rw [this]; rfl
theorem ints_sc (l : List Int) : (ints l).all AV.scalar = true := by simp [ints]
def RowA (v : AV) (row : Option (List Int)) : Prop := (v = .nilsl ∧ row = none) ∨ ∃ ts l, v = .vsl (ints l ++ ts) l.length ∧ row = some l
def rowV : Option (List Int) → AV
  | none => .nilsl
  | some l => .vsl (ints l) l.length
theorem RowA.rowV (row : Option (List Int)) : RowA (rowV row) row := by
  cases row with
  | none => exact .inl ⟨rfl, rfl⟩
  | some l => exact .inr ⟨[], l, by simp [Proofs.YtekbjlihciedjaaGreatDoor.rowV], rfl⟩
theorem cloneRow_does {v : AV} {row : Option (List Int)} (hv : RowA v row) (hl : (row.getD []).length ≤ 1000000000) (H : AHeap) :
    Does Tryz.prog G 84 [v] H fun r h => r = rowV row ∧ h = H := by
  rcases hv with ⟨rfl, rfl⟩ | ⟨ts, l, rfl, rfl⟩
  · refine does_f Tryz.call84 Tryz.func84 rfl (by simp [Tryz.f84]) ?_
    simp [rowV]
  · have hl : l.length ≤ 1000000000 := hl
    refine fresh_sl (z := 1) (by simp [ints]) (ints_lt _ _) ?_
    refine Does.wf Tryz.call84 fun hw _ => ?_
    have k1 : l.length * 8 ≤ 140737488355328 := by omega
    have k2 : l.length ≤ 4611686018427387904 := by omega
    have hold : ∀ j x, H.get j = some x → j ≠ H.next ∧ j ≠ H.next + 1 := fun j x hj => by have l := next_lt hw hj; omega
    refine does_f Tryz.call84 Tryz.func84 rfl (by simp [Tryz.f84]) ?_
    by_cases h0 : l.length = 0
    · have hb : l = [] := List.length_eq_zero_iff.1 h0
      subst hb
      simp [ints]
      intro j x hj
      obtain ⟨e0, e1⟩ := hold j x hj
      simp [e0, hj]
    · have h1 : ¬ l.length ≤ 0 := by omega
      have tk : List.take l.length (ints l ++ ts) = ints l := List.take_left' (ints_len l)
      simp [h0, h1, k1, k2, tk, ints_sc, ints_len]
      intro j x hj
      obtain ⟨e0, e1⟩ := hold j x hj
      simp [e0, e1, hj]
def enV (e : En) (v : AV) : AV := .agg [.int .u64 e.id, .int .u64 e.view, v]
theorem RowA.cells {v : AV} {row : Option (List Int)} (h : RowA v row) : v.cells = [v] := by rcases h with ⟨rfl, _⟩ | ⟨ts, l, rfl, _⟩ <;> rfl
theorem RowA.sc {v : AV} {row : Option (List Int)} (h : RowA v row) : v.scalar = true := by rcases h with ⟨rfl, _⟩ | ⟨ts, l, rfl, _⟩ <;> rfl
theorem rowV_lt (n : Nat) (row : Option (List Int)) : AV.idLt n (rowV row) = true := by
  cases row with
  | none => rfl
  | some l => simp [rowV, AV.idLt, ints_lt]
theorem copyEn_does {e : En} {v : AV} (hv : RowA v e.row) (hl : e.l.length ≤ 1000000000) (H : AHeap) : Does Tryz.prog G 50 [enV e v] H fun r h => r = enV e (rowV e.row) ∧ h = H := by
  refine Does.forgot (R := fun r h => r = enV e (rowV e.row) ∧ ∀ j x, H.get j = some x → h.get j = some x) ?_ (fun hw ha r H1 ⟨h1, h2⟩ => ⟨h2, by rw [h1]; simp [enV, AV.idLt, AV.allLt, rowV_lt], h1, rfl⟩)
  refine Does.wf Tryz.call50 fun hw _ => ?_
  have hr := RowA.rowV e.row
  refine does_f Tryz.call50 Tryz.func50 rfl (by simp [Tryz.f50]) ?_
  simp [enV]
  refine does_use (cloneRow_does hv hl _) ?_
  rintro r h ⟨rfl, rfl⟩
  simp [hr.cells, hr.sc, enV]
  intro j x hj
  have := next_lt hw hj
  have e0 : j ≠ H.next := by omega
  have e1 : j ≠ H.next + 1 := by omega
  simp [e0, e1, hj]
end Go.Proofs.YtekbjlihciedjaaGreatDoor

namespace Go.Proofs.YtekbjlihciedjaaGreatDoor
open Go Go.Abs Go.Rp
variable {G : Nat → Option AV}
end Go.Proofs.YtekbjlihciedjaaGreatDoor

namespace Go.Proofs.YtekbjlihciedjaaGreatDoor
open Go Go.Abs Go.Rp
variable {G : Nat → Option AV}
def rdV (v : AV) (b : Bs) : AV := match rdU b with
  | none => .nilsl
  | some (_, t) => if t.length = 0 then .vsl [] 0 else match v with
    | .vsl cs _ => .vsl (cs.drop (b.length - t.length)) t.length
    | w => w
theorem rdV_len {i n : Nat} (h : i < n) : n - (n - (i + 1)) = i + 1 := by omega
theorem rdGo_suf : ∀ (b : Bs) (i a u : Nat) (t : Bs), rdGo i a b = some (u, t) → t <:+ b
  | [], _, _, _, _, h => by simp [rdGo] at h
  | x :: r, i, a, u, t, h => by
    rw [rdGo] at h
    split at h
    · simp at h
    · split at h
      · exact (rdGo_suf r _ _ u t h).trans (List.suffix_cons x r)
      · split at h
        · simp at h
        · simp only [Option.some.injEq, Prod.mk.injEq] at h
          obtain ⟨rfl, rfl⟩ := h
          exact List.suffix_cons x r
theorem rdV_bt {v : AV} {b : Bs} {bad : Bool} (hv : BtA v b) : BtA (rdV v b) (Rd.U ⟨b, bad⟩).2.b := by
  unfold rdV Rd.U
  simp only
  cases h : rdU b with
  | none => exact .nil
  | some x =>
    obtain ⟨u, t⟩ := x
    have hs := List.suffix_iff_eq_drop.1 (rdGo_suf b 0 0 u t h)
    have hle := (rdGo_suf b 0 0 u t h).length_le
    simp only
    by_cases h0 : t.length = 0
    · rw [if_pos h0]
      have : t = [] := List.length_eq_zero_iff.1 h0
      subst this
      exact .inr ⟨[], rfl⟩
    · rw [if_neg h0]
      rcases hv with ⟨rfl, rfl⟩ | ⟨ts, rfl⟩
      · simp at hle; exact absurd (by rw [hle]; rfl) h0
      · refine .inr ⟨ts, ?_⟩
        simp only
        rw [drop_strCs (by omega), ← hs]
set_option maxHeartbeats 4000000 in
set_option maxRecDepth 100000 in
theorem rdU_exact {H : AHeap} {k : Nat} {v : AV} {b : Bs} {bad : Bool} (hv : BtA v b) (hk : H.get k = some (.cells [v, .bool bad])) (hl : b.length ≤ 1000000000) : Does Tryz.prog G 62 [.ptr k 0] H fun x h => x = .int .u64 (Rd.U ⟨b, bad⟩).1 ∧ h = H.set k (.cells [rdV v b, .bool (Rd.U ⟨b, bad⟩).2.bad]) := by
  refine does_f Tryz.call62 Tryz.func62 rfl (by simp [Tryz.f62]) ?_
  simp
  refine aws_loop (fun m T' H' => ∃ i a : Nat, i + m = 9 ∧ H' = H ∧ T' 0 = .ptr k 0 ∧ T' 6 = .int .i64 i ∧ T' 3 = .int .u64 a ∧ a < 2 ^ (7 * i) ∧ rdU b = rdGo i a (b.drop i)) 9 ?_ ?_
  · exact ⟨0, 0, rfl, rfl, by simp, by simp, by simp, by simp, rfl⟩
  rintro m T H1 ⟨i, a, him, rfl, t0, t6, t3, ha, hr⟩
  have i10 : (i : Int) < 10 := by omega
  by_cases hi : i < b.length
  · obtain ⟨ts, rfl⟩ : ∃ ts, v = .vsl (strCs b ++ ts) b.length := by
      rcases hv with ⟨_, h⟩ | h
      · rw [h] at hi; simp at hi
      · exact h
    have hi' : ¬ b.length ≤ i := by omega
    have hii : (i : Int) < b.length := by omega
    have he : b[i]? = some b[i] := List.getElem?_eq_getElem hi
    have hd : b.drop i = b[i] :: b.drop (i + 1) := List.drop_eq_getElem_cons hi
    generalize b[i] = x at he hd
    rw [hd, rdGo] at hr
    have hcs : (strCs b ++ ts)[i]? = some (.int .u8 x.toNat) := by
      rw [List.getElem?_append_left (by rw [strCs_len]; exact hi)]
      simp [strCs, he]
    have hx := x.toNat_lt
    obtain ⟨s, hs⟩ : ∃ s, s = 7 * i := ⟨_, rfl⟩
    obtain ⟨p, hp⟩ : ∃ p, p = x.toNat % 128 := ⟨_, rfl⟩
    have w1 : IntKind.i64.wrap (7 * (i : Int)) = (s : Int) := by rw [IntWalk.i64_in _ (by omega)]; omega
    have w2 : ¬ (s : Int) < 0 := by omega
    have w3 := and127 hx
    rw [← hp] at w3
    have w4 : IntKind.u64.wrap (p : Int) = (p : Int) := IntWalk.u64_in _ (by omega)
    by_cases hA : i = 9 ∧ 1 < x.toNat
    · rw [if_pos hA] at hr
      have h9 : decide ((i : Int) = 9) = true := by simp; omega
      have hx1' : (1 : Int) < x.toNat := by omega
      simp [t0, t6, t3, hk, i10, hi', hii, hcs, hx1', h9]
      refine does_use (spoil_does hk) ?_
      rintro r h rfl
      have e : Rd.U ⟨b, bad⟩ = (0, ⟨[], true⟩) := by simp [Rd.U, hr]
      simp [e, rdV, hr]
    rw [if_neg hA] at hr
    have hsm := rd_small (i := i) (by omega) hx hA
    have w5 := rd_shl (i := i) (by omega) hsm
    obtain ⟨w6, w7⟩ := rd_or (i := i) (by omega) ha hsm
    rw [← hp, ← hs] at hsm w5 w6 w7
    rw [← hs] at hr ha
    generalize hq : p * 2 ^ s = q at hsm w5 w6 w7
    have hq' : (if 128 ≤ x.toNat then x.toNat - 128 else x.toNat) * 2 ^ s = q := by
      rw [← hq]; congr 1; split <;> omega
    have wi : IntKind.i64.wrap ((i : Int) + 1) = ((i + 1 : Nat) : Int) := by rw [IntWalk.i64_in _ (by omega)]; omega
    by_cases hB : 128 ≤ x.toNat
    · rw [if_pos hB] at hr hq'
      rw [hq'] at hr
      have h9 : decide ((i : Int) = 9) = false := by simp; omega
      have w8 : (IntKind.u8.wrap ((x.toNat % 2 ^ IntKind.u8.bits &&& 128 % 2 ^ IntKind.u8.bits : Nat) : Int) != 0) = true := by rw [bne_iff_ne, ne_eq, and128 hx]; omega
      simp [t0, t6, t3, hk, i10, hi', hii, hcs, h9, w1, w2, w3, w4, w5, w6, w8, wi]
      have hp1 : p ≤ 127 := by omega
      have hlt : a + q < 2 ^ (7 * (i + 1)) := by
        rw [show 7 * (i + 1) = s + 7 by omega, Nat.pow_add, ← hq]
        have h1 : p * 2 ^ s ≤ 127 * 2 ^ s := Nat.mul_le_mul_right _ hp1
        omega
      exact ⟨m - 1, by omega, i + 1, by omega, by push_cast; rfl, a + q, by push_cast; rfl, hlt, hr⟩
    rw [if_neg hB] at hr hq'
    have w8 : (IntKind.u8.wrap ((x.toNat % 2 ^ IntKind.u8.bits &&& 128 % 2 ^ IntKind.u8.bits : Nat) : Int) = 0) := by rw [and128 hx]; omega
    by_cases hz : x.toNat = 0 ∧ 0 < i
    · rw [if_pos hz] at hr
      have hz1 : decide (x.toNat = 0) = true := by simp; omega
      have hz2 := hz.2
      by_cases h9 : i = 9
      · skip
        have h9' : decide ((i : Int) = 9) = true := by simp; omega
        have hx1 : ¬ (1 : Int) < x.toNat := by omega
        simp [t0, t6, t3, hk, i10, hi', hii, hcs, h9', hx1, hz1, hz2, w1, w2, w3, w4, w5, w6, w8, wi]
        refine does_use (spoil_does hk) ?_
        rintro r h rfl
        have e : Rd.U ⟨b, bad⟩ = (0, ⟨[], true⟩) := by simp [Rd.U, hr]
        simp [e, rdV, hr]
      · skip
        have h9' : decide ((i : Int) = 9) = false := by simp; omega
        simp [t0, t6, t3, hk, i10, hi', hii, hcs, h9', hz1, hz2, w1, w2, w3, w4, w5, w6, w8, wi]
        refine does_use (spoil_does hk) ?_
        rintro r h rfl
        have e : Rd.U ⟨b, bad⟩ = (0, ⟨[], true⟩) := by simp [Rd.U, hr]
        simp [e, rdV, hr]
    rw [if_neg hz] at hr
    by_cases hz1 : x.toNat = 0
    · have hz2 : ¬ 0 < i := by omega
      have hz3 : decide (x.toNat = 0) = true := by simp; omega
      have h9 : ¬ i = 9 := by omega
      · skip
        have h9' : decide ((i : Int) = 9) = false := by simp; omega
        simp [t0, t6, t3, hk, i10, hi', hii, hcs, h9', hz3, hz2, w1, w2, w3, w4, w5, w6, w8, wi]
        rw [if_pos ⟨by omega, by omega⟩]
        rw [hq'] at hr
        have e : Rd.U ⟨b, bad⟩ = (a + q, ⟨b.drop (i + 1), bad⟩) := by simp [Rd.U, hr]
        by_cases hend : i + 1 < b.length
        · simp [hend, hk, e, t0, rdV, hr, rdV_len (by omega : i < b.length)]
          rw [if_neg (by omega)]
        · simp [hend, hk, e, t0, rdV, hr, (by omega : b.length - (i + 1) = 0)]
    · have hz3 : decide (x.toNat = 0) = false := by simp; omega
      by_cases h9 : i = 9
      · skip
        have h9' : decide ((i : Int) = 9) = true := by simp; omega
        have hx1 : ¬ (1 : Int) < x.toNat := by omega
        simp [t0, t6, t3, hk, i10, hi', hii, hcs, h9', hx1, hz3, w1, w2, w3, w4, w5, w6, w8, wi]
        rw [if_pos ⟨by omega, by omega⟩]
        rw [hq'] at hr
        have e : Rd.U ⟨b, bad⟩ = (a + q, ⟨b.drop (i + 1), bad⟩) := by simp [Rd.U, hr]
        by_cases hend : i + 1 < b.length
        · simp [hend, hk, e, t0, rdV, hr, rdV_len (by omega : i < b.length)]
          rw [if_neg (by omega)]
        · simp [hend, hk, e, t0, rdV, hr, (by omega : b.length - (i + 1) = 0)]
      · skip
        have h9' : decide ((i : Int) = 9) = false := by simp; omega
        simp [t0, t6, t3, hk, i10, hi', hii, hcs, h9', hz3, w1, w2, w3, w4, w5, w6, w8, wi]
        rw [if_pos ⟨by omega, by omega⟩]
        rw [hq'] at hr
        have e : Rd.U ⟨b, bad⟩ = (a + q, ⟨b.drop (i + 1), bad⟩) := by simp [Rd.U, hr]
        by_cases hend : i + 1 < b.length
        · simp [hend, hk, e, t0, rdV, hr, rdV_len (by omega : i < b.length)]
          rw [if_neg (by omega)]
        · simp [hend, hk, e, t0, rdV, hr, (by omega : b.length - (i + 1) = 0)]
  · have hi' : b.length ≤ i := by omega
    have hd : b.drop i = [] := List.drop_eq_nil_of_le hi'
    rw [hd, rdGo] at hr
    have hlv : alen Tryz.prog 22 v = some (.int .i64 b.length) := by
      rcases hv with ⟨rfl, rfl⟩ | ⟨ts, rfl⟩ <;> simp [alen]
    simp [t0, t6, t3, hk, i10, hi', hlv, -alen]
    refine does_use (spoil_does hk) ?_
    rintro r h rfl
    have e : Rd.U ⟨b, bad⟩ = (0, ⟨[], true⟩) := by simp [Rd.U, hr]
    simp [e, rdV, hr]
theorem rdI_exact {H : AHeap} {k : Nat} {v : AV} {b : Bs} {bad : Bool} (hv : BtA v b) (hk : H.get k = some (.cells [v, .bool bad])) (hl : b.length ≤ 1000000000) : Does Tryz.prog G 70 [.ptr k 0] H fun x h => x = .int .i64 (Rd.I ⟨b, bad⟩).1 ∧ h = H.set k (.cells [rdV v b, .bool (Rd.I ⟨b, bad⟩).2.bad]) := by
  refine does_f Tryz.call70 Tryz.func70 rfl (by simp [Tryz.f70]) ?_
  simp
  refine does_use (rdU_exact hv hk hl) ?_
  rintro x h ⟨rfl, ht⟩
  simp
  rw [unzig_bits (rdU_lt _).1]
  exact ⟨rfl, ht⟩
end Go.Proofs.YtekbjlihciedjaaGreatDoor

namespace Go.Proofs.YtekbjlihciedjaaGreatDoor
open Go Go.Abs Go.Rp
variable {G : Nat → Option AV}
theorem rdIs_le : ∀ (n : Nat) (r : Rd), (rdIs n r).2.b.length ≤ r.b.length ∧ (rdIs n r).1.length = n
  | 0, r => ⟨Nat.le_refl _, rfl⟩
  | n + 1, r => by
    have h1 := rdIs_le n r.I.2
    have h2 := (rdU_lt r).2
    simp only [rdIs, Rd.I, List.length_cons] at h1 ⊢
    exact ⟨by omega, by omega⟩
def RowG (H0 : AHeap) (H : AHeap) (l : List Int) (w : AV) : Prop := (l = [] ∧ w = .nilsl) ∨ ∃ p cap op junk, l ≠ [] ∧ w = .sl p 0 1 l.length cap op ∧ H0.next ≤ p ∧ H.get p = some (.cells (ints l ++ junk)) ∧ l.length + junk.length = cap
def EnRun (o : Option En) (H : AHeap) (r : AV) (h : AHeap) : Prop := (∀ j x, H.get j = some x → h.get j = some x) ∧
  match o with
  | none => r = .tuple [.agg [.int .u64 0, .int .u64 0, .nilsl], .int .i64 3]
  | some e => ∃ w, r = .tuple [enV e w, .int .i64 0] ∧ RowG H h e.l w ∧ (e.row = if e.l = [] then none else some e.l)
set_option maxHeartbeats 4000000 in
set_option maxRecDepth 100000 in
theorem getEn_run {bv : AV} {b : Bs} (hb : BtA bv b) (hl : b.length ≤ 1000000000) (H : AHeap) : Does Tryz.prog G 113 [bv] H (EnRun (getEn b) H) := by
  refine Does.wf Tryz.call113 fun hw _ => ?_
  refine does_f Tryz.call113 Tryz.func113 rfl (by simp [Tryz.f113]) ?_
  simp
  refine does_usew (packRead_does hb hl _) ?_
  rintro r H1 ⟨k, rfl, hk, hg, hs⟩ hw1 _
  simp
  refine does_usew (rdU_does (r := ⟨b, false⟩) hg hl) ?_
  rintro x H2 ⟨rfl, v2, hv2, rfl⟩ hw2 _
  have hl2 := rdU_lt ⟨b, false⟩
  generalize e1 : Rd.U ⟨b, false⟩ = r1 at *
  obtain ⟨u1, b1, d1⟩ := r1
  simp only at hv2 hl2 ⊢
  simp
  refine does_usew (rdU_does (r := ⟨b1, d1⟩) (k := k) ⟨v2, hv2, by simp⟩ (by simp; omega)) ?_
  rintro x H3 ⟨rfl, v3, hv3, rfl⟩ hw3 _
  have hl3 := rdU_lt ⟨b1, d1⟩
  generalize e2 : Rd.U ⟨b1, d1⟩ = r2 at *
  obtain ⟨u2, b2, d2⟩ := r2
  simp only at hv3 hl3 ⊢
  have ha : H.next ≠ k := by simp at hk; omega
  have hga : H1.get H.next = some (.cells [.int .u64 0, .int .u64 0, .nilsl]) := by
    have := hs H.next (.cells [.int .u64 0, .int .u64 0, .nilsl])
    simp at this
    exact this
  have hkq : k ≠ H1.next := by obtain ⟨v, _, hv⟩ := hg; have := next_lt hw1 hv; omega
  have haq : H.next ≠ H1.next := by have := next_lt hw1 hga; omega
  have hkH : H.next < k := by simp at hk; omega
  have hHq : H.next < H1.next := next_lt hw1 hga
  have hkeep : ∀ j x, H.get j = some x → j ≠ k ∧ j ≠ H1.next ∧ j ≠ H.next ∧ H1.get j = some x := fun j x hj => by
    have h1 := next_lt hw hj
    refine ⟨by omega, by omega, by omega, hs j x ?_⟩
    have h2 : j ≠ H.next := by omega
    simp [h2, hj]
  simp [ha, hga]
  refine does_usew (rdU_does (r := ⟨b2, d2⟩) (k := k) ⟨v3, hv3, by simp [hkq]⟩ (by simp; omega)) ?_
  rintro x H4 ⟨rfl, v4, hv4, rfl⟩ hw4 _
  have hl4 := rdU_lt ⟨b2, d2⟩
  generalize e3 : Rd.U ⟨b2, d2⟩ = r3 at *
  obtain ⟨n, b3, d3⟩ := r3
  simp only at hv4 hl4 ⊢
  simp
  refine does_use (rdLeft_does (r := ⟨b3, d3⟩) (k := k) ⟨v4, hv4, by simp⟩) ?_
  rintro x h ⟨rfl, rfl⟩
  have w1 : IntKind.u64.wrap (b3.length : Int) = (b3.length : Int) := IntWalk.u64_in _ (by omega)
  have hG : getEn b = if b3.length < n then none else if (rdIs n ⟨b3, d3⟩).2.bad = true ∨ 0 < (rdIs n ⟨b3, d3⟩).2.b.length then none else some ⟨u1, u2, if n = 0 then none else some (rdIs n ⟨b3, d3⟩).1⟩ := by
    simp only [getEn, e1, e2, e3]
  by_cases hn : b3.length < n
  · have hn' : (b3.length : Int) < n := by omega
    rw [if_pos hn] at hG
    rw [hG]
    simp [w1, hn, hn', EnRun, ha, haq, hga, hkq, hkq.symm, ha.symm, haq.symm]
    intro j x hj
    obtain ⟨q1, q2, q3, q4⟩ := hkeep j x hj
    simp [q1, q2, q3, q4]
  · have hn' : ¬ (b3.length : Int) < n := by omega
    rw [if_neg hn] at hG
    simp [w1, hn, hn']
    have hx := rdIs_le n ⟨b3, d3⟩
    generalize hX : rdIs n ⟨b3, d3⟩ = X at *
    refine aws_loopw (fun m T' H' => ∃ l v b' d' w, l.length + m = n ∧ (l ++ (rdIs m ⟨b', d'⟩).1 = X.1 ∧ (rdIs m ⟨b', d'⟩).2 = X.2) ∧ b'.length ≤ b3.length ∧ BtA v b' ∧ H'.get k = some (.cells [v, .bool d']) ∧ H'.get H1.next = some (.cells [.int .u64 u1, .int .u64 u2, w]) ∧ RowG H H' l w ∧
      H'.get H.next = some (.cells [.int .u64 0, .int .u64 0, .nilsl]) ∧ (∀ j x, H.get j = some x → H'.get j = some x) ∧ H1.next < H'.next ∧ (∀ p cap op, w = .sl p 0 1 l.length cap op → p ≠ k ∧ p ≠ H1.next ∧ p ≠ H.next) ∧
      T' 2 = .ptr H.next 0 ∧ T' 4 = .ptr k 0 ∧ T' 5 = .ptr H1.next 0 ∧ T' 22 = .int .u64 n ∧ T' 23 = .int .u64 l.length) n ?_ ?_
    · refine ⟨[], v4, b3, d3, .nilsl, by simp, ⟨by rw [hX]; rfl, by rw [hX]⟩, Nat.le_refl _, hv4, by simp, by simp [hkq.symm], .inl ⟨rfl, rfl⟩, by simp [ha, haq, hga], fun j x hj => ?_, by simp, by simp, by simp, by simp, by simp, by simp, by simp⟩
      obtain ⟨q1, q2, q3, q4⟩ := hkeep j x hj
      simp [q1, q2, q3, q4]
    rintro m T H' ⟨l, v, b', d', w, hlm, ⟨hX1, hX2⟩, hb', hv, hgk, hgq, hw', hga', hs', hnx, hpp, t2, t4, t5, t22, t23⟩ hw5 _
    have hwc : w.cells = [w] ∧ w.scalar = true := by
      rcases hw' with ⟨_, rfl⟩ | ⟨p, cap, op, junk, _, rfl, _⟩ <;> simp
    cases m with
    | zero =>
      have c1 : ¬ (l.length : Int) < n := by omega
      simp [rdIs] at hX1 hX2
      rw [← hX2] at hG
      have hel : (En.mk u1 u2 (if n = 0 then none else some X.1)).l = l := by
        rw [← hX1]
        by_cases h0 : n = 0
        · have : l = [] := List.length_eq_zero_iff.1 (by omega)
          simp [En.l, h0, this]
        · simp [En.l, h0]
      simp [t22, t23, c1, t4]
      refine does_use (rdBad_does (r := ⟨b', d'⟩) ⟨v, hv, hgk⟩) ?_
      rintro x h ⟨rfl, rfl⟩
      have keep3 : ∀ j x, H.get j = some x → j ≠ H.next := fun j x hj => (hkeep j x hj).2.2.1
      cases d' with
      | true =>
        have hG : getEn b = none := by rw [hG]; simp
        simp [t2, t4, hG, EnRun, hga']
        intro j x hj
        simp [keep3 j x hj, hs' j x hj]
      | false =>
        simp [t4]
        refine does_use (rdLeft_does (r := ⟨b', false⟩) ⟨v, hv, hgk⟩) ?_
        rintro x h ⟨rfl, rfl⟩
        by_cases h0 : b'.length = 0
        · have hb0 : b' = [] := List.length_eq_zero_iff.1 h0
          subst hb0
          simp at hG
          simp [t2, t5, hG, EnRun, hga', hgq, hwc.1, hwc.2, haq]
          refine ⟨fun j x hj => ?_, w, by simp [enV], ?_⟩
          · simp [keep3 j x hj, hs' j x hj]
          · rw [hel]
            refine ⟨?_, ?_⟩
            · rcases hw' with h | ⟨p, cap, op, junk, h1, rfl, h2, h3, h4⟩
              · exact .inl h
              · have := hpp p cap op rfl
                exact .inr ⟨p, cap, op, junk, h1, rfl, h2, by simp [this.2.2, h3], h4⟩
            · rw [← hX1]
              by_cases h0 : n = 0
              · have : l = [] := List.length_eq_zero_iff.1 (by omega)
                simp [h0, this]
              · have : l ≠ [] := fun h => by subst h; simp at hlm; omega
                simp [h0, this]
        · have h0' : 0 < b'.length := by omega
          have h1 : b' ≠ [] := fun h => by subst h; simp at h0
          simp [h1] at hG
          simp [t2, t4, hG, EnRun, hga', h0', h1]
          intro j x hj
          simp [keep3 j x hj, hs' j x hj]
    | succ m =>
      have c1 : (l.length : Int) < n := by omega
      have hxs : (rdIs (m + 1) ⟨b', d'⟩) = ((Rd.I ⟨b', d'⟩).1 :: (rdIs m (Rd.I ⟨b', d'⟩).2).1, (rdIs m (Rd.I ⟨b', d'⟩).2).2) := rfl
      have hbt := rdV_bt (bad := d') hv
      have hle := (rdU_lt ⟨b', d'⟩).2
      have hI2 : (Rd.I ⟨b', d'⟩).2 = (Rd.U ⟨b', d'⟩).2 := rfl
      have hex := rdI_exact (G := G) (bad := d') hv hgk (by omega)
      rw [hxs] at hX1 hX2
      rw [hI2] at hX1 hX2 hex
      generalize (Rd.I ⟨b', d'⟩).1 = x at *
      generalize (Rd.U ⟨b', d'⟩).2 = rr at *
      obtain ⟨b2', d2'⟩ := rr
      simp only at hex hX1 hX2 hbt hle
      generalize rdV v b' = v' at *
      have hqk : H1.next ≠ k := hkq.symm
      have n1 : H1.next ≠ H'.next := by omega
      have n2 : H1.next ≠ H'.next + 1 := by omega
      have hkn := next_lt hw5 hgk
      have hkn' : k < H'.next := hkn
      have n3 : k ≠ H'.next := by omega
      have n4 : k ≠ H'.next + 1 := by omega
      have n5 : H.next ≠ H'.next := by omega
      have n6 : H.next ≠ H'.next + 1 := by omega
      have hold : ∀ j y, H.get j = some y → j ≠ k ∧ j ≠ H1.next ∧ j ≠ H.next ∧ j ≠ H'.next ∧ j ≠ H'.next + 1 ∧ H'.get j = some y := fun j y hj => by
        obtain ⟨q1, q2, q3, q4⟩ := hkeep j y hj
        have := next_lt hw5 (hs' j y hj)
        exact ⟨q1, q2, q3, by omega, by omega, hs' j y hj⟩
      have wi : IntKind.u64.wrap ((l.length : Int) + 1) = ((l.length + 1 : Nat) : Int) := by rw [IntWalk.u64_in _ (by omega)]; omega
      simp [t22, t23, c1]
      refine aw_drawn [(1, 0), (1, 4)] mixedOrdR (by kernel_rfl) ?_
      intro es hes
      simp [adf_stop, -adf_cons, t4, t5, hgq, hwc.1, hwc.2]
      refine ⟨_, _, hex, Nat.le_refl _, ?_⟩
      refine ad_go (fun T' => T' 2 = .ptr H.next 0 ∧ T' 4 = .ptr k 0 ∧ T' 5 = .ptr H1.next 0 ∧ T' 22 = .int .u64 n ∧ T' 23 = .int .u64 l.length ∧ T' 26 = w ∧ T' 28 = .int .i64 x) (by simp [t2, t4, t5, t22, t23]) ?_
      rintro T1 ⟨t2, t4, t5, t22, t23, t26, t28⟩
      rcases hw' with ⟨rfl, rfl⟩ | ⟨p, cap, op, junk, hl0, rfl, hp, hgp, hcap⟩
      · simp [adf_stop, -adf_cons, t2, t4, t5, t22, t23, t26, t28, n1, n2, n3, n4, n5, n6, hqk, hgq, hkq, ha, haq, hga', -Bool.exists_bool]
        refine ⟨by subst hes; exact ⟨by kernel_rfl, by kernel_rfl⟩, ?_, ?_⟩
        · simp [rds, heapF, hgq, hqk]
        simp at hX1 hlm
        refine ⟨m, by omega, [x], ?_⟩
        refine ⟨by simp; omega, v', b2', d2', ⟨hX1, hX2⟩, by omega, hbt, ?_⟩
        refine ⟨⟨rfl, rfl⟩, .inr ⟨H'.next + 1, 1, true, [], by simp, rfl, by omega, by simp [n2.symm, ints], rfl⟩, fun j y hj => ?_, by omega, fun _ => ⟨by omega, by omega, by omega⟩, by simpa using wi⟩
        obtain ⟨q1, q2, q3, q4, q5, q6⟩ := hold j y hj
        simp [q1, q2, q4, q5, q6]
      · obtain ⟨p1, p2, p3⟩ := hpp p cap op rfl
        have hpn := next_lt hw5 hgp
        have p4 : p ≠ H'.next := by omega
        have hij : (ints l).length = l.length := ints_len l
        have c2 : (l.length + 1) * 8 ≤ 140737488355328 := by omega
        have c3 : l.length ≤ 4611686018427387903 := by omega
        have dk : List.drop (l.length + 1) (ints l ++ junk) = junk.drop 1 := by rw [← List.drop_drop, List.drop_left' hij]
        have hil : ints (l ++ [x]) = ints l ++ [AV.int .i64 x] := by simp [ints]
        have hXl : (l ++ [x]) ++ (rdIs m ⟨b2', d2'⟩).1 = X.1 := by rw [← hX1]; simp
        by_cases hc : l.length + 1 ≤ cap
        · have c4 : 1 ≤ junk.length := by omega
          simp [adf_stop, -adf_cons, t2, t4, t5, t22, t23, t26, t28, n1, n2, n3, n4, n5, n6, hqk, hgq, hkq, ha, haq, hga', p1, p1.symm, p2, p2.symm, p3, p3.symm, p4, hgp, hij, hc, c2, c3, c4, dk, -Bool.exists_bool]
          refine ⟨by subst hes; exact ⟨by kernel_rfl, by kernel_rfl⟩, ?_, ?_⟩
          · simp [rds, heapF, hgq, hqk]
          refine ⟨m, by omega, l ++ [x], ?_⟩
          refine ⟨by simp; omega, v', b2', d2', ⟨hXl, hX2⟩, by omega, hbt, ?_⟩
          refine ⟨⟨rfl, rfl⟩, .inr ⟨p, cap, op, junk.tail, by simp, by simp, hp, by simp [p2, p2.symm, hil], by simp; omega⟩, fun j y hj => ?_, by omega, fun p' c' => ⟨fun h _ _ _ => by subst h; exact ⟨p1, p2, p3⟩, fun h _ _ _ => by subst h; exact ⟨p1, p2, p3⟩⟩, by rw [wi]; simp⟩
          obtain ⟨q1, q2, q3, q4, q5, q6⟩ := hold j y hj
          have q7 : j ≠ p := by have := next_lt hw hj; omega
          simp [q1, q2, q4, q5, q6, q7]
        · have c4 := c3
          cases op
          · simp [adf_stop, -adf_cons, t2, t4, t5, t22, t23, t26, t28, n1, n2, n3, n4, n5, n6, hqk, hgq, hkq, ha, haq, hga', p1, p1.symm, p2, p2.symm, p3, p3.symm, p4, hgp, hij, hc, c2, c3, c4, dk, -Bool.exists_bool]
            refine ⟨by subst hes; exact ⟨by kernel_rfl, by kernel_rfl⟩, ?_, ?_⟩
            · simp [rds, heapF, hgq, hqk]
            refine ⟨m, by omega, l ++ [x], ?_⟩
            refine ⟨by simp; omega, v', b2', d2', ⟨hXl, hX2⟩, by omega, hbt, ?_⟩
            refine ⟨⟨rfl, rfl⟩, .inr ⟨H'.next + 1, l.length + 1, true, [], by simp, by simp, by omega, by simp [n2.symm, hil], by simp⟩, fun j y hj => ?_, by omega, fun _ => ⟨by omega, by omega, by omega⟩, by rw [wi]; simp⟩
            obtain ⟨q1, q2, q3, q4, q5, q6⟩ := hold j y hj
            have q7 : j ≠ p := by have := next_lt hw hj; omega
            simp [q1, q2, q4, q5, q6, q7]
          · simp [adf_stop, -adf_cons, t2, t4, t5, t22, t23, t26, t28, n1, n2, n3, n4, n5, n6, hqk, hgq, hkq, ha, haq, hga', p1, p1.symm, p2, p2.symm, p3, p3.symm, p4, hgp, hij, hc, c2, c3, c4, dk, -Bool.exists_bool]
            refine ⟨by subst hes; exact ⟨by kernel_rfl, by kernel_rfl⟩, ?_, ?_⟩
            · simp [rds, heapF, hgq, hqk]
            refine ⟨m, by omega, l ++ [x], ?_⟩
            refine ⟨by simp; omega, v', b2', d2', ⟨hXl, hX2⟩, by omega, hbt, ?_⟩
            refine ⟨⟨rfl, rfl⟩, .inr ⟨H'.next + 1, l.length + 1, true, [], by simp, by simp, by omega, by simp [n2.symm, hil], by simp⟩, fun j y hj => ?_, by omega, fun _ => ⟨by omega, by omega, by omega⟩, by rw [wi]; simp⟩
            obtain ⟨q1, q2, q3, q4, q5, q6⟩ := hold j y hj
            have q7 : j ≠ p := by have := next_lt hw hj; omega
            simp [q1, q2, q4, q5, q6, q7]
end Go.Proofs.YtekbjlihciedjaaGreatDoor

namespace Go.Proofs.YtekbjlihciedjaaGreatDoor
open Go Go.Abs Go.Rp
variable {G : Nat → Option AV}
def enR : Option En → AV
  | none => .tuple [.agg [.int .u64 0, .int .u64 0, .nilsl], .int .i64 3]
  | some e => .tuple [enV e (rowV e.row), .int .i64 0]
theorem enR_lt (n : Nat) (o : Option En) : AV.idLt n (enR o) = true := by
  cases o with
  | none => rfl
  | some e => simp [enR, enV, AV.idLt, AV.allLt, rowV_lt]
theorem getEn_does {bv : AV} {b : Bs} (hb : BtA bv b) (hl : b.length ≤ 1000000000) (H : AHeap) : Does Tryz.prog G 113 [bv] H fun r h => r = enR (getEn b) ∧ h = H := by
  refine Does.forgot (R := fun r h => r = enR (getEn b) ∧ ∀ j x, H.get j = some x → h.get j = some x) ?_ (fun hw ha r H1 ⟨h1, h2⟩ => ⟨h2, by rw [h1]; exact enR_lt _ _, h1, rfl⟩)
  have h := getEn_run (G := G) hb hl H
  cases hg : getEn b with
  | none =>
    rw [hg] at h
    exact h.mono fun r H1 ⟨h1, h2⟩ => ⟨h2, h1⟩
  | some e =>
    rw [hg] at h
    by_cases h0 : e.l = []
    · refine h.mono fun r H1 ⟨h1, w, h2, h3, h4⟩ => ⟨?_, h1⟩
      rw [if_pos h0] at h4
      rcases h3 with ⟨_, rfl⟩ | ⟨p, cap, op, junk, h3, _⟩
      · simp [h2, enR, h4, rowV]
      · exact absurd h0 h3
    · refine Does.frz1 h ?_
      rintro hw _ r H1 ⟨h1, w, rfl, h3, h4⟩
      rw [if_neg h0] at h4
      rcases h3 with ⟨h3, _⟩ | ⟨p, cap, op, junk, h3, rfl, h5, h6, h7⟩
      · exact absurd h3 h0
      · refine ⟨p, ints e.l ++ junk, h5, h6, ?_, AHeap.frz_old hw h5 h1⟩
        have tk : List.take e.l.length (ints e.l ++ junk) = ints e.l := List.take_left' (ints_len _)
        simp [enR, enV, h4, rowV, AV.frz, AV.frzs, tk]
end Go.Proofs.YtekbjlihciedjaaGreatDoor

namespace Go.Rp
open Go Go.Abs
theorem vrels_of {E E' : Env} {g : AV → AV} (h : ∀ {a : AV} {v : Value}, VRel E a v → VRel E' (g a) v) : ∀ {as_ : List AV} {vs : List Value}, VRels E as_ vs → VRels E' (as_.map g) vs
  | _, _, .nil => .nil
  | _, _, .cons hv t => .cons (h hv) (vrels_of h t)
theorem Does.lend {P : Program} {G : Nat → Option AV} {f : FuncId} {args : List AV} {H : AHeap} {i : Nat} {cs : List AV} {R : AV → AHeap → Prop} (hi : H.get i = some (.cells cs))
    (h : Does P G f (args.map (AV.frz i cs)) (H.frz i cs) R) : Does P G f args H R :=
  ⟨fun E w vs hR hG hv => by
    obtain ⟨E', hx, hR', hk⟩ := hR.frz hi
    exact (h.run E' w vs hR' (hG.mono hx.knows) (vrels_of hk hv)).mono fun v w' ⟨r, H1, E1, g1, g2, g3, g4⟩ => ⟨r, H1, E1, g1, hx.trans g2, g3, g4⟩⟩
end Go.Rp

namespace Go.Proofs.YtekbjlihciedjaaGreatDoor
open Go Go.Abs Go.Rp
variable {G : Nat → Option AV}
def entsC (l : List En) : List AV := l.flatMap fun e => [.int .u64 e.id, .int .u64 e.view, rowV e.row]
theorem entsC_len (l : List En) : (entsC l).length = l.length * 3 := by
  induction l with
  | nil => rfl
  | cons e l ih => simp [entsC] at ih ⊢; omega
theorem frzs_len (i : Nat) (c : List AV) : ∀ l : List AV, (AV.frzs i c l).length = l.length
  | [] => rfl
  | a :: l => by simp [AV.frzs, frzs_len i c l]
theorem frzs_ints (i : Nat) (c : List AV) : ∀ l : List Int, AV.frzs i c (ints l) = ints l
  | [] => rfl
  | a :: l => by
    have := frzs_ints i c l
    simp only [ints, List.map_cons, AV.frzs, AV.frz] at this ⊢
    rw [this]
theorem frz_rowV (i : Nat) (c : List AV) (row : Option (List Int)) : AV.frz i c (rowV row) = rowV row := by
  cases row with
  | none => rfl
  | some l => simp only [rowV, AV.frz, frzs_ints]
theorem frzs_entsC (i : Nat) (c : List AV) : ∀ l : List En, AV.frzs i c (entsC l) = entsC l
  | [] => rfl
  | e :: l => by
    have := frzs_entsC i c l
    simp only [entsC, List.flatMap_cons, List.cons_append, List.nil_append, AV.frzs, AV.frz, frz_rowV] at this ⊢
    rw [this]
end Go.Proofs.YtekbjlihciedjaaGreatDoor

namespace Go.Proofs.YtekbjlihciedjaaGreatDoor
open Go Go.Abs Go.Rp
variable {G : Nat → Option AV}
end Go.Proofs.YtekbjlihciedjaaGreatDoor

namespace Go.Rp
open Go Go.Abs
def Gr (H : AHeap) (z n : Nat) (cs : List AV) (v : AV) (b : Nat → Prop) : Prop :=
  (n = 0 ∧ cs = [] ∧ v = .nilsl) ∨ ∃ p o cap op pre junk, v = .sl p o z n cap op ∧ b p ∧ H.get p = some (.cells (pre ++ (cs ++ junk))) ∧ pre.length = o ∧ cs.length = n * z ∧ n * z + junk.length = cap * z ∧ n ≤ cap
theorem Gr.keep {H H' : AHeap} {z n : Nat} {cs : List AV} {v : AV} {b : Nat → Prop} (h : Gr H z n cs v b) (hk : ∀ j x, b j → H.get j = some x → H'.get j = some x) : Gr H' z n cs v b := by
  rcases h with h | ⟨p, o, cap, op, pre, junk, h1, h2, h3, h4⟩
  · exact .inl h
  · exact .inr ⟨p, o, cap, op, pre, junk, h1, h2, hk p _ h2 h3, h4⟩
theorem Gr.mono {H : AHeap} {z n : Nat} {cs : List AV} {v : AV} {b b' : Nat → Prop} (h : Gr H z n cs v b) (hb : ∀ j, b j → b' j) : Gr H z n cs v b' := by
  rcases h with h | ⟨p, o, cap, op, pre, junk, h1, h2, h3⟩
  · exact .inl h
  · exact .inr ⟨p, o, cap, op, pre, junk, h1, hb p h2, h3⟩
theorem Gr.sc {H : AHeap} {z n : Nat} {cs : List AV} {v : AV} {b : Nat → Prop} (h : Gr H z n cs v b) : v.scalar = true := by
  rcases h with ⟨_, _, rfl⟩ | ⟨p, o, cap, op, pre, junk, rfl, _⟩ <;> rfl
theorem Gr.cells {H : AHeap} {z n : Nat} {cs : List AV} {v : AV} {b : Nat → Prop} (h : Gr H z n cs v b) : v.cells = [v] := by
  rcases h with ⟨_, _, rfl⟩ | ⟨p, o, cap, op, pre, junk, rfl, _⟩ <;> rfl
theorem Gr.alen {H : AHeap} {z n : Nat} {cs : List AV} {v : AV} {b : Nat → Prop} (h : Gr H z n cs v b) {P : Program} {t e : TypeId} (ht : P.underlying t = some (.slice e)) : Go.Abs.alen P t v = some (.int .i64 n) := by
  rcases h with ⟨rfl, _, rfl⟩ | ⟨p, o, cap, op, pre, junk, rfl, _⟩
  · simp [Go.Abs.alen, ht]
  · simp [Go.Abs.alen, ht]
structure ElemOk (P : Program) (t u e : TypeId) (z by_ : Nat) : Prop where
  slice : P.underlying t = some (.slice e)
  seq : ∃ d, P.underlying u = some d ∧ isSeq d = true
  info : ∃ info zz, P.info? e = some info ∧ azero P e = some zz ∧ zz.cells.length = z ∧ info.size = z ∧ info.bytes = by_
theorem Gr.app {P : Program} {t u e : TypeId} {z by_ : Nat} (he : ElemOk P t u e z by_) {H : AHeap} {n m : Nat} {cs news : List AV} {v x : AV} {b : Nat → Prop} (h : Gr H z n cs v b)
    (hx : ∀ k i, x ≠ .int k i) (hl : alenOf x = some m) (hf : afirst H.get z m x = some news) (hsc : news.all AV.scalar = true) (hn : news.length = m * z) (h0 : 0 < m) (hz : 0 < z) (hb1 : (n + m) * by_ ≤ 140737488355328) (hb2 : n + m ≤ 4611686018427387904) {nx : Nat} (hnx : nx = H.next) :
    ∃ v' eff, aappend P t u H.get nx v x = some (v', eff) ∧ Gr (H.eff eff) z (n + m) (cs ++ news) v' (fun j => b j ∨ j = H.next) ∧ (∀ j, ¬ b j → j ≠ H.next → (H.eff eff).get j = H.get j) ∧ H.next ≤ (H.eff eff).next := by
  subst hnx
  obtain ⟨d, hu, hd⟩ := he.seq
  obtain ⟨info, zz, i1, i2, i3, i4, i5⟩ := he.info
  have hunf : ∀ s, aappend P t u H.get H.next s x = (match s with
        | .nilsl => if m = 0 then some (.nilsl, .same)
          else if m * info.bytes ≤ 140737488355328 ∧ m ≤ 4611686018427387904 then some (.sl H.next 0 info.size m m true, .new (.cells news)) else none
        | .vsl cs len => if m = 0 then some (.vsl cs len, .same) else none
        | .csl cs len => if m = 0 then some (.csl cs len, .same)
          else if len * info.size ≤ cs.length ∧ (len + m) * info.bytes ≤ 140737488355328 ∧ len + m ≤ 4611686018427387904 then some (.sl H.next 0 info.size (len + m) (len + m) true, .new (.cells (cs.take (len * info.size) ++ news)))
          else none
        | .sl i o zz len cap opn => if zz = info.size then
          match H.get i with
          | some (.cells cs) =>
            if len + m ≤ cap then
              if o + (len + m) * zz ≤ cs.length then some (.sl i o zz (len + m) cap opn, .put i (.cells (splice cs (o + len * zz) news))) else none
            else if o + len * zz ≤ cs.length ∧ (len + m) * info.bytes ≤ 140737488355328 ∧ len + m ≤ 4611686018427387904 then
              if opn then some (.sl H.next 0 zz (len + m) (len + m) true, .move i (.cells ((cs.drop o).take (len * zz) ++ news)))
              else some (.sl H.next 0 zz (len + m) (len + m) true, .new (.cells ((cs.drop o).take (len * zz) ++ news)))
            else none
          | _ => none
          else none
        | _ => none) := by
    intro s
    unfold aappend
    split
    · exact absurd rfl (hx _ _)
    · have hf' : afirst H.get info.size m x = some news := by rw [i4]; exact hf
      simp only [he.slice, hu, hd, i1, i2, if_true, hl, hf']
      rw [if_pos (i3.trans i4.symm), if_pos ⟨hsc, by rw [i4]; exact hn⟩]
      rfl
  rw [hunf]
  rcases h with ⟨rfl, rfl, rfl⟩ | ⟨p, o, cap, op, pre, junk, rfl, h2, h3, h4, h5, h6, h7⟩
  · simp only
    rw [if_neg (by omega), if_pos (by rw [i5]; simp only [Nat.zero_add] at hb1 hb2; exact ⟨hb1, hb2⟩)]
    refine ⟨_, _, rfl, .inr ⟨H.next, 0, m, true, [], [], by rw [i4, Nat.zero_add], .inr rfl, by simp, rfl, by simpa using hn, by simp, by omega⟩, fun j _ hj => by simp [hj], by simp⟩
  · have hpl : o + (n + m) * z ≤ (pre ++ (cs ++ junk)).length ∨ cap < n + m := by
      rcases Nat.lt_or_ge cap (n + m) with q | q
      · exact .inr q
      · left
        have := Nat.mul_le_mul_right z q
        simp only [List.length_append]; omega
    have htk : ((pre ++ (cs ++ junk)).drop o).take (n * z) = cs := by rw [List.drop_left' h4, List.take_left' h5]
    have hle : o + n * z ≤ (pre ++ (cs ++ junk)).length := by simp only [List.length_append]; omega
    simp only [h3]
    rw [if_pos i4.symm]
    by_cases hc : n + m ≤ cap
    · rw [if_pos hc, if_pos (by rcases hpl with q | q <;> omega)]
      refine ⟨_, _, rfl, .inr ⟨p, o, cap, op, pre, junk.drop (m * z), rfl, .inl h2, ?_, h4, ?_, ?_, hc⟩, fun j hj _ => ?_, by simp⟩
      · have e : splice (pre ++ (cs ++ junk)) (o + n * z) news = pre ++ ((cs ++ news) ++ junk.drop (m * z)) := by
          unfold splice
          have e1 : (pre ++ (cs ++ junk)).take (o + n * z) = pre ++ cs := by
            rw [← List.append_assoc, List.take_left' (by simp [h4, h5])]
          have e2 : (pre ++ (cs ++ junk)).drop (o + n * z + news.length) = junk.drop (m * z) := by
            rw [← List.append_assoc, ← List.drop_drop, List.drop_left' (by simp [h4, h5]), hn]
          rw [e1, e2, List.append_assoc, List.append_assoc]
        rw [e]
        simp
      · rw [List.length_append, h5, hn, Nat.add_mul]
      · rw [List.length_drop, Nat.add_mul]
        have := Nat.mul_le_mul_right z hc
        rw [Nat.add_mul] at this
        omega
      · have : j ≠ p := fun e => hj (e ▸ h2)
        simp [this]
    · rw [if_neg hc, if_pos ⟨hle, by rw [i5]; exact hb1, hb2⟩, htk]
      have gr : ∀ H' : AHeap, H'.get H.next = some (.cells (cs ++ news)) → Gr H' z (n + m) (cs ++ news) (.sl H.next 0 z (n + m) (n + m) true) (fun j => b j ∨ j = H.next) := fun H' hg =>
        .inr ⟨H.next, 0, n + m, true, [], [], rfl, .inr rfl, by simpa using hg, rfl, by rw [List.length_append, h5, hn, Nat.add_mul], by simp, Nat.le_refl _⟩
      cases op
      · exact ⟨_, _, rfl, gr _ (by simp), fun j _ hj => by simp [hj], by simp⟩
      · refine ⟨_, _, rfl, gr _ (by simp), fun j hb hj => ?_, by simp⟩
        have : j ≠ p := fun e => hb (e ▸ h2)
        simp [hj, this]
end Go.Rp

namespace Go.Proofs.YtekbjlihciedjaaGreatDoor
open Go Go.Abs Go.Rp
variable {G : Nat → Option AV}
def EnF (v : AV) (l : List En) : Prop := (v = .nilsl ∧ l = []) ∨ ∃ ts, v = .vsl (entsC l ++ ts) l.length
def entsV (l : List En) : AV := if l.isEmpty then .nilsl else .vsl (entsC l) l.length
theorem EnF.entsV (l : List En) : EnF (entsV l) l := by
  cases l with
  | nil => exact .inl ⟨rfl, rfl⟩
  | cons e l => exact .inr ⟨[], by simp [Go.Proofs.YtekbjlihciedjaaGreatDoor.entsV]⟩
theorem entsC_lt (n : Nat) : ∀ l : List En, AV.allLt n (entsC l) = true
  | [] => rfl
  | e :: l => by
    have := entsC_lt n l
    simp only [entsC, List.flatMap_cons, List.cons_append, List.nil_append, AV.allLt, AV.idLt, rowV_lt, Bool.true_and] at this ⊢
    exact this
theorem entsV_lt (n : Nat) (l : List En) : AV.idLt n (entsV l) = true := by
  unfold entsV
  split
  · rfl
  · simp only [AV.idLt]; exact entsC_lt n l
theorem EnF.alen {v : AV} {l : List En} (h : EnF v l) {P : Program} {t e : TypeId} (ht : P.underlying t = some (.slice e)) : Go.Abs.alen P t v = some (.int .i64 l.length) := by
  rcases h with ⟨rfl, rfl⟩ | ⟨ts, rfl⟩ <;> simp [Go.Abs.alen, ht]
theorem EnF.sc {v : AV} {l : List En} (h : EnF v l) : v.scalar = true := by rcases h with ⟨rfl, rfl⟩ | ⟨ts, rfl⟩ <;> rfl
theorem EnF.cells {v : AV} {l : List En} (h : EnF v l) : v.cells = [v] := by rcases h with ⟨rfl, rfl⟩ | ⟨ts, rfl⟩ <;> rfl
theorem EnF.vsl {v : AV} {l : List En} (h : EnF v l) (h0 : 0 < l.length) : ∃ ts, v = .vsl (entsC l ++ ts) l.length := by
  rcases h with ⟨rfl, rfl⟩ | h
  · simp at h0
  · exact h
theorem entsC_append (a b : List En) : entsC (a ++ b) = entsC a ++ entsC b := by simp [entsC]
theorem entsC_at {l : List En} {i : Nat} {e : En} (h : l[i]? = some e) (ts : List AV) : ((entsC l ++ ts).drop (i * 3)).take 3 = [.int .u64 e.id, .int .u64 e.view, rowV e.row] := by
  have hi : i < l.length := (List.getElem?_eq_some_iff.1 h).1
  have e1 : l = l.take i ++ (e :: l.drop (i + 1)) := by
    have h2 : l[i] = e := (List.getElem?_eq_some_iff.1 h).2
    rw [← h2, ← List.drop_eq_getElem_cons hi, List.take_append_drop]
  have hl : (entsC (l.take i)).length = i * 3 := by rw [entsC_len, List.length_take]; omega
  rw [e1, entsC_append, List.append_assoc, List.drop_left' hl]
  simp [entsC]
theorem entsC_take (l : List En) (n : Nat) (ts : List AV) (h : n ≤ l.length) : ∃ ts', entsC l ++ ts = entsC (l.take n) ++ ts' := ⟨entsC (l.drop n) ++ ts, by rw [← List.append_assoc, ← entsC_append, List.take_append_drop]⟩
def msC (m : Ms) (ev : AV) : List AV := [.int .i64 m.kind, .int .i64 m.frm, .int .i64 m.to, .int .u64 m.view, .int .u64 m.last, .int .u64 m.op, .int .u64 m.commit, ev, .nilsl]
inductive MsR : List AV → List Ms → Prop
  | nil : MsR [] []
  | snoc {cs : List AV} {l : List Ms} {m : Ms} {ev : AV} (h : MsR cs l) (he : EnF ev m.ents) : MsR (cs ++ msC m ev) (l ++ [m])
def heldC (l : List (Nat × Nat)) : List (AV × AV) := l.map fun x => (.int .i64 x.1, .int .u64 x.2)
inductive VotR : List (AV × AV) → List (Nat × Nat × List En) → Prop
  | nil : VotR [] []
  | cons {es : List (AV × AV)} {l : List (Nat × Nat × List En)} {k u : Nat} {x : List En} {v : AV} (hv : EnF v x) (h : VotR es l) : VotR ((.int .i64 k, .agg [.int .u64 u, v]) :: es) ((k, u, x) :: l)
def coC (c : Co) (lv : AV) (g h : Nat) (wv : AV) : List AV :=
  [.int .i64 c.me, .int .i64 c.n, .int .u64 c.view, .int .u64 c.last, lv, .int .i64 c.agreed, .bool c.lead, .int .i64 c.quiet, .map g, .map h, wv]
def CoAt (H : AHeap) (O : Nat → Prop) (i : Nat) (c : Co) : Prop := ∃ lv g h es wv, H.get i = some (.cells (coC c lv g h wv)) ∧ H.get g = some (.map es) ∧ H.get h = some (.map (heldC c.held)) ∧
  EnF lv c.list ∧ VotR es c.got ∧ Gr H 3 c.wait.length (entsC c.wait) wv (fun j => O j ∧ j ≠ i) ∧ O i ∧ O g ∧ O h ∧ g ≠ h
theorem CoAt.keep {H H' : AHeap} {O : Nat → Prop} {i : Nat} {c : Co} (h : CoAt H O i c) (hk : ∀ j x, O j → H.get j = some x → H'.get j = some x) : CoAt H' O i c := by
  obtain ⟨lv, g, h, es, wv, h1, h2, h3, h4, h5, h6, h7, h8, h9, h10⟩ := h
  exact ⟨lv, g, h, es, wv, hk i _ h7 h1, hk g _ h8 h2, hk h _ h9 h3, h4, h5, h6.keep fun j x hj => hk j x hj.1, h7, h8, h9, h10⟩
structure CoOk (c : Co) : Prop where
  n0 : 0 < c.n
  n7 : c.n ≤ 7
  me : c.me < c.n
  view : c.view ≤ 1099511627776
  last : c.last < 2 ^ 64
  list : c.list.length ≤ 200
  agreed : c.agreed ≤ c.list.length
  wait : c.wait.length ≤ 200
  quiet : c.quiet < 2 ^ 62
end Go.Proofs.YtekbjlihciedjaaGreatDoor

namespace Go.Proofs.YtekbjlihciedjaaGreatDoor
open Go Go.Abs Go.Rp
variable {G : Nat → Option AV}
theorem EnF.cs {v : AV} {l : List En} (h : EnF v l) (h0 : 0 < l.length) : ∃ C, v = .vsl C l.length ∧ l.length * 3 ≤ C.length ∧ ∀ i e, l[i]? = some e → (C.drop (i * 3)).take 3 = [.int .u64 e.id, .int .u64 e.view, rowV e.row] := by
  obtain ⟨ts, rfl⟩ := h.vsl h0
  exact ⟨_, rfl, by rw [List.length_append, entsC_len]; omega, fun i e he => entsC_at he ts⟩
def FoundAt (b : Bool) (H : AHeap) (r : AV) (h : AHeap) : Prop := (∃ x : Int, r = .int .i64 x ∧ decide (0 ≤ x) = b) ∧ h = H
set_option maxHeartbeats 4000000 in
set_option maxRecDepth 100000 in
theorem index_en {l : List En} {v : AV} (hv : EnF v l) (hl : l.length ≤ 1000000) {p : En → Bool} {fc : FuncId} {caps : List AV} {H : AHeap}
    (hc : ∀ e ∈ l, Does Tryz.prog G fc (.agg [.int .u64 e.id, .int .u64 e.view, rowV e.row] :: caps) H fun r h => r = .bool (p e) ∧ h = H) :
    Does Tryz.prog G 209 [v, .func (.func fc) [] caps] H (FoundAt (l.any p) H) := by
  refine does_f Tryz.call209 Tryz.func209 rfl (by simp [Tryz.f209]) ?_
  have hal : alen Tryz.prog 48 v = some (.int .i64 l.length) := by rcases hv with ⟨rfl, rfl⟩ | ⟨ts, rfl⟩ <;> simp [alen]
  simp [hal, -alen]
  refine aws_loopw (fun k T' H' => ∃ i : Nat, i + k = l.length ∧ H' = H ∧ T' 0 = v ∧ T' 1 = .func (.func fc) [] caps ∧ T' 7 = .int .i64 l.length ∧ T' 8 = .int .i64 i ∧ l.any p = (l.drop i).any p) l.length ?_ ?_
  · exact ⟨0, by simp, rfl, by simp, by simp, by simp, by simp, by simp⟩
  rintro k T H1 ⟨i, hik, rfl, t0, t1, t7, t8, hs⟩ hw1 _
  by_cases hi : i < l.length
  · have hii : (i : Int) < l.length := by omega
    obtain ⟨C, hvC, hCl, hat⟩ := hv.cs (by omega)
    have he : l[i]? = some l[i] := List.getElem?_eq_getElem hi
    have hd := hc l[i] (List.getElem_mem hi)
    have hat := hat i _ he
    have hdr : l.drop i = l[i] :: l.drop (i + 1) := List.drop_eq_getElem_cons hi
    rw [hdr, List.any_cons] at hs
    generalize l[i] = e at *
    have h3 : 3 ≤ C.length - i * 3 := by omega
    have wr : IntKind.i64.wrap ((i : Int) + 1) = ((i + 1 : Nat) : Int) := by rw [IntWalk.i64_in _ (by omega)]; omega
    rw [hvC] at t0
    simp [t0, t1, t7, t8, hi, hii, h3, hat]
    refine does_use hd ?_
    rintro r h ⟨rfl, rfl⟩
    cases hp : p e with
    | true =>
      rw [hp, Bool.true_or] at hs
      simp [t0, t1, t7, t8]
      exact ⟨⟨_, rfl, by rw [hs]; simp⟩, rfl⟩
    | false =>
      rw [hp, Bool.false_or] at hs
      simp [t0, t1, t7, t8]
      exact ⟨k - 1, by omega, i + 1, by omega, hvC.symm, wr, hs⟩
  · obtain rfl : i = l.length := by omega
    simp [t7, t8]
    refine ⟨⟨_, rfl, ?_⟩, rfl⟩
    rw [hs, List.drop_length]; rfl
theorem contains_en {l : List En} {v : AV} (hv : EnF v l) (hl : l.length ≤ 1000000) {p : En → Bool} {fc : FuncId} {caps : List AV} {H : AHeap}
    (hc : ∀ e ∈ l, Does Tryz.prog G fc (.agg [.int .u64 e.id, .int .u64 e.view, rowV e.row] :: caps) H fun r h => r = .bool (p e) ∧ h = H) :
    Does Tryz.prog G 138 [v, .func (.func fc) [] caps] H fun r h => r = .bool (l.any p) ∧ h = H := by
  refine does_f Tryz.call138 Tryz.func138 rfl (by simp [Tryz.f138]) ?_
  simp
  refine does_use (index_en hv hl hc) ?_
  rintro r h ⟨⟨x, rfl, hx⟩, rfl⟩
  rw [← hx]
  simp
theorem hasC_does {e : En} {id k : Nat} {H : AHeap} (hk : H.get k = some (.cells [.int .u64 id])) :
    Does Tryz.prog G 139 [.agg [.int .u64 e.id, .int .u64 e.view, rowV e.row], .ptr k 0] H fun r h => r = .bool (decide (e.id = id)) ∧ h = H := by
  refine Does.forgot (R := fun r h => r = .bool (decide (e.id = id)) ∧ ∀ j x, H.get j = some x → h.get j = some x) ?_ (fun hw ha r H1 ⟨h1, h2⟩ => ⟨h2, by rw [h1]; rfl, h1, rfl⟩)
  refine Does.wf Tryz.call139 fun hw _ => ?_
  have hkn := next_lt hw hk
  have hr := RowA.rowV e.row
  have hne : k ≠ H.next := by omega
  refine does_f Tryz.call139 Tryz.func139 rfl (by simp [Tryz.f139]) ?_
  simp [hr.cells, hr.sc, hk, hne]
  refine ⟨by omega, fun j x hj => ?_⟩
  have := next_lt hw hj
  have e0 : j ≠ H.next := by omega
  simp [e0, hj]
theorem has_does {l : List En} {v : AV} (hv : EnF v l) (hl : l.length ≤ 1000000) (id : Nat) (H : AHeap) :
    Does Tryz.prog G 87 [v, .int .u64 id] H fun r h => r = .bool (hasId l id) ∧ h = H := by
  refine Does.forgot (R := fun r h => r = .bool (hasId l id) ∧ ∀ j x, H.get j = some x → h.get j = some x) ?_ (fun hw ha r H1 ⟨h1, h2⟩ => ⟨h2, by rw [h1]; rfl, h1, rfl⟩)
  refine Does.wf Tryz.call87 fun hw _ => ?_
  refine does_f Tryz.call87 Tryz.func87 rfl (by simp [Tryz.f87]) ?_
  simp
  refine does_use (contains_en hv hl (p := fun e => decide (e.id = id)) fun e _ => hasC_does (k := H.next) (by simp)) ?_
  rintro r h ⟨rfl, rfl⟩
  simp [hasId]
  intro j x hj
  have := next_lt hw hj
  have e0 : j ≠ H.next := by omega
  simp [e0, hj]
theorem may_does' {e : En} {v : AV} (hv : RowA v e.row) (H : AHeap) : Does Tryz.prog G 86 [enV e v] H fun r h => r = .bool (may e) ∧ h = H := by
  refine Does.forgot (R := fun r h => r = .bool (may e) ∧ ∀ j x, H.get j = some x → h.get j = some x) ?_ (fun hw ha r H1 ⟨h1, h2⟩ => ⟨h2, by rw [h1]; rfl, h1, rfl⟩)
  refine Does.wf Tryz.call86 fun hw _ => ?_
  have hlv : alen Tryz.prog 45 v = some (.int .i64 e.l.length) := by
    rcases hv with ⟨rfl, h⟩ | ⟨ts, l, rfl, h⟩
    · simp [alen, En.l, h]
    · simp [alen, En.l, h]
  refine does_f Tryz.call86 Tryz.func86 rfl (by simp [Tryz.f86]) ?_
  have old : ∀ (X : AObj) j x, H.get j = some x → (H.push X).get j = some x := fun X j x hj => by
    have := next_lt hw hj
    have e0 : j ≠ H.next := by omega
    simp [e0, hj]
  by_cases h0 : 0 < e.id
  · have h0' : (0 : Int) < e.id := by omega
    simp [enV, hv.cells, hv.sc, hlv, h0, h0', may, -alen]
    exact ⟨by omega, old _⟩
  · have h0' : ¬ (0 : Int) < e.id := by omega
    simp [enV, hv.cells, hv.sc, hlv, h0, h0', may, -alen]
    exact old _
end Go.Proofs.YtekbjlihciedjaaGreatDoor

namespace Go.Proofs.YtekbjlihciedjaaGreatDoor
open Go Go.Abs Go.Rp
variable {G : Nat → Option AV}
theorem equalRow_does {a b : Option (List Int)} {v w : AV} (hv : RowA v a) (hw' : RowA w b) (ha : (a.getD []).length ≤ 1000000) (H : AHeap) :
    Does Tryz.prog G 168 [v, w] H fun r h => r = .bool (decide (a.getD [] = b.getD [])) ∧ h = H := by
  refine does_f Tryz.call168 Tryz.func168 rfl (by simp [Tryz.f168]) ?_
  have hal : ∀ {c : Option (List Int)} {u : AV}, RowA u c → alen Tryz.prog 45 u = some (.int .i64 (c.getD []).length) := by
    intro c u h
    rcases h with ⟨rfl, rfl⟩ | ⟨ts, l, rfl, rfl⟩ <;> simp [alen]
  have h1 := hal hv
  have h2 := hal hw'
  by_cases hne : (a.getD []).length = (b.getD []).length
  case neg =>
    have c1 : (((a.getD []).length : Int) != (b.getD []).length) = true := by simp; omega
    have c2 : ¬ a.getD [] = b.getD [] := fun e => hne (by rw [e])
    simp [h1, h2, c1, c2, -alen]
  have c1 : (((a.getD []).length : Int) != (b.getD []).length) = false := by simp; omega
  simp [h1, h2, c1, -alen]
  refine aws_loopw (fun k T' H' => ∃ i : Nat, i + k = (a.getD []).length ∧ H' = H ∧ T' 0 = v ∧ T' 1 = w ∧ T' 12 = .int .i64 (a.getD []).length ∧ T' 13 = .int .i64 i ∧ (a.getD [] = b.getD [] ↔ (a.getD []).drop i = (b.getD []).drop i)) (a.getD []).length ?_ ?_
  · exact ⟨0, by simp, rfl, by simp, by simp, by simp, by simp, by simp⟩
  rintro k T H1 ⟨i, hik, rfl, t0, t1, t12, t13, hs⟩ hw1 _
  by_cases hi : i < (a.getD []).length
  · have hii : (i : Int) < (a.getD []).length := by omega
    have hvs : ∀ {c : Option (List Int)} {u : AV}, RowA u c → 0 < (c.getD []).length → ∃ ts, u = .vsl (ints (c.getD []) ++ ts) (c.getD []).length := by
      intro c u h h0
      rcases h with ⟨rfl, rfl⟩ | ⟨ts, l, rfl, rfl⟩
      · simp at h0
      · exact ⟨ts, rfl⟩
    obtain ⟨ta, e1⟩ := hvs hv (by omega)
    obtain ⟨tb, e2⟩ := hvs hw' (by omega)
    generalize a.getD [] = la at *
    generalize b.getD [] = lb at *
    have g1 : la[i]? = some la[i] := List.getElem?_eq_getElem hi
    have hib : i < lb.length := by omega
    have g2 : lb[i]? = some lb[i] := List.getElem?_eq_getElem hib
    have d1 : la.drop i = la[i] :: la.drop (i + 1) := List.drop_eq_getElem_cons hi
    have d2 : lb.drop i = lb[i] :: lb.drop (i + 1) := List.drop_eq_getElem_cons hib
    rw [d1, d2, List.cons.injEq] at hs
    have at1 : (ints la ++ ta).drop i = .int .i64 la[i] :: (ints la ++ ta).drop (i + 1) := by
      rw [List.drop_eq_getElem_cons (by rw [List.length_append, ints_len]; omega)]
      rw [List.getElem_append_left (by rw [ints_len]; exact hi)]
      simp [ints]
    have at2 : (ints lb ++ tb).drop i = .int .i64 lb[i] :: (ints lb ++ tb).drop (i + 1) := by
      rw [List.drop_eq_getElem_cons (by rw [List.length_append, ints_len]; omega)]
      rw [List.getElem_append_left (by rw [ints_len]; exact hib)]
      simp [ints]
    generalize la[i] = x at *
    generalize lb[i] = y at *
    have wr : IntKind.i64.wrap ((i : Int) + 1) = ((i + 1 : Nat) : Int) := by rw [IntWalk.i64_in _ (by omega)]; omega
    rw [e1] at t0
    rw [e2] at t1
    simp [t0, t1, t12, t13, hi, hii, hib]
    refine aw_still mixedOrdR (by kernel_rfl) ?_
    intro es hes
    simp [t0, t1, t12, t13, hi, hii, hib, at1, at2]
    subst hes
    refine ⟨by kernel_rfl, ?_⟩
    by_cases hxy : x = y
    · have c2 : (x != y) = false := by simp [hxy]
      simp [t0, t1, t12, t13, c2]
      exact ⟨k - 1, by omega, i + 1, by omega, e1.symm, e2.symm, wr, by rw [hs]; simp [hxy]⟩
    · have c2 : (x != y) = true := by simp [hxy]
      simp [t0, t1, t12, t13, c2]
      intro e
      exact hxy (hs.1 e).1
  · obtain rfl : i = (a.getD []).length := by omega
    have e : (b.getD []).drop (a.getD []).length = [] := by rw [hne, List.drop_length]
    rw [List.drop_length, e] at hs
    simp [t12, t13, hs]
theorem sameC_does {a b : En} {v w : AV} (hv : RowA v a.row) (hw' : RowA w b.row) (ha : a.l.length ≤ 1000000) (H : AHeap) :
    Does Tryz.prog G 167 [enV a v, enV b w] H fun r h => r = .bool (same a b) ∧ h = H := by
  refine Does.forgot (R := fun r h => r = .bool (same a b) ∧ ∀ j x, H.get j = some x → h.get j = some x) ?_ (fun hw ha r H1 ⟨h1, h2⟩ => ⟨h2, by rw [h1]; rfl, h1, rfl⟩)
  refine Does.wf Tryz.call167 fun hw _ => ?_
  have old : ∀ (X Y : AObj) j x, H.get j = some x → ((H.push X).push Y).get j = some x := fun X Y j x hj => by
    have := next_lt hw hj
    have e0 : j ≠ H.next := by omega
    have e1 : j ≠ H.next + 1 := by omega
    simp [e0, e1, hj]
  refine does_f Tryz.call167 Tryz.func167 rfl (by simp [Tryz.f167]) ?_
  by_cases h0 : a.id = b.id
  · simp [enV, hv.cells, hv.sc, hw'.cells, hw'.sc, h0]
    refine does_use (equalRow_does hv hw' ha _) ?_
    rintro r h ⟨rfl, rfl⟩
    simp [same, h0, En.l]
    refine ⟨rfl, fun j x hj => ?_⟩
    have := next_lt hw hj
    have e0 : j ≠ H.next := by omega
    have e1 : j ≠ H.next + 1 := by omega
    simp [e0, e1, hj]
  · have h0' : ¬ (a.id : Int) = b.id := by omega
    simp [enV, hv.cells, hv.sc, hw'.cells, hw'.sc, h0, h0', same]
    exact old _ _
theorem sames_drop {a b : List En} {i : Nat} {x y : En} (ha : a[i]? = some x) (hb : b[i]? = some y) : sames (a.drop i) (b.drop i) = (same x y && sames (a.drop (i + 1)) (b.drop (i + 1))) := by
  obtain ⟨hi, rfl⟩ := List.getElem?_eq_some_iff.1 ha
  obtain ⟨hi', rfl⟩ := List.getElem?_eq_some_iff.1 hb
  rw [List.drop_eq_getElem_cons hi, List.drop_eq_getElem_cons hi', sames]
theorem sames_len : ∀ {a b : List En}, a.length ≠ b.length → sames a b = false
  | [], [], h => absurd rfl h
  | [], _ :: _, _ => rfl
  | _ :: _, [], _ => rfl
  | a :: l, b :: m, h => by rw [sames, sames_len (by simpa using h), Bool.and_false]
set_option maxHeartbeats 4000000 in
set_option maxRecDepth 100000 in
theorem equalEn_does {a b : List En} {v w : AV} (hv : EnF v a) (hw' : EnF w b) (hl : a.length ≤ 1000000) (hr : ∀ e ∈ a, e.l.length ≤ 1000000) (H : AHeap) :
    Does Tryz.prog G 169 [v, w, .func (.func 167) [] []] H fun r h => r = .bool (sames a b) ∧ h = H := by
  refine Does.forgot (R := fun r h => r = .bool (sames a b) ∧ ∀ j x, H.get j = some x → h.get j = some x) ?_ (fun hw ha r H1 ⟨h1, h2⟩ => ⟨h2, by rw [h1]; rfl, h1, rfl⟩)
  refine Does.wf Tryz.call169 fun hw _ => ?_
  refine does_f Tryz.call169 Tryz.func169 rfl (by simp [Tryz.f169]) ?_
  have hal : ∀ {l : List En} {u : AV}, EnF u l → alen Tryz.prog 48 u = some (.int .i64 l.length) := by
    intro l u h
    rcases h with ⟨rfl, rfl⟩ | ⟨ts, rfl⟩ <;> simp [alen]
  have h1 := hal hv
  have h2 := hal hw'
  by_cases hne : a.length = b.length
  case neg =>
    have c1 : ((a.length : Int) != b.length) = true := by simp; omega
    simp [h1, h2, c1, sames_len hne, -alen]
  have c1 : ((a.length : Int) != b.length) = false := by simp; omega
  simp [h1, h2, c1, -alen]
  refine aws_loopw (fun k T' H' => ∃ i : Nat, i + k = a.length ∧ (∀ j x, H.get j = some x → H'.get j = some x) ∧ T' 1 = w ∧ T' 2 = .func (.func 167) [] [] ∧ T' 15 = v ∧ T' 16 = .int .i64 a.length ∧ T' 17 = .int .i64 i ∧ sames a b = sames (a.drop i) (b.drop i)) a.length ?_ ?_
  · exact ⟨0, by simp, fun j x hj => hj, by simp, by simp, by simp, by simp, by simp, by simp⟩
  rintro k T H1 ⟨i, hik, hk, t1, t2, t15, t16, t17, hs⟩ hw1 _
  by_cases hi : i < a.length
  · have hii : (i : Int) < a.length := by omega
    have hib : i < b.length := by omega
    obtain ⟨C, hvC, hCl, hat⟩ := hv.cs (by omega)
    obtain ⟨D, hvD, hDl, hbt⟩ := hw'.cs (by omega)
    have g1 : a[i]? = some a[i] := List.getElem?_eq_getElem hi
    have g2 : b[i]? = some b[i] := List.getElem?_eq_getElem hib
    have hat := hat i _ g1
    have hbt := hbt i _ g2
    have hre := hr _ (List.getElem_mem hi)
    rw [sames_drop g1 g2] at hs
    generalize a[i] = x at *
    generalize b[i] = y at *
    have h3 : 3 ≤ C.length - i * 3 := by omega
    have h3' : 3 ≤ D.length - i * 3 := by omega
    have wr : IntKind.i64.wrap ((i : Int) + 1) = ((i + 1 : Nat) : Int) := by rw [IntWalk.i64_in _ (by omega)]; omega
    rw [hvC] at t15
    rw [hvD] at t1
    have rx := RowA.rowV x.row
    have ry := RowA.rowV y.row
    simp [t1, t2, t15, t16, t17, hi, hii, hib, h3, h3', hat, hbt, rx.sc, ry.sc]
    refine does_use (sameC_does (a := x) (b := y) rx ry hre _) ?_
    rintro r h ⟨rfl, rfl⟩
    cases hc : same x y with
    | false =>
      rw [hc, Bool.false_and] at hs
      simp [hc, t1, t2, t15, t16, t17]
      refine ⟨hs, fun j x hj => ?_⟩
      have := next_lt hw1 (hk j x hj)
      have e0 : j ≠ H1.next := by omega
      have e1 : j ≠ H1.next + 1 := by omega
      simp [e0, e1, hk j x hj]
    | true =>
      rw [hc, Bool.true_and] at hs
      simp [hc, t1, t2, t15, t16, t17]
      refine ⟨k - 1, by omega, i + 1, by omega, fun j x hj => ?_, hvD.symm, hvC.symm, wr, hs⟩
      have := next_lt hw1 (hk j x hj)
      have e0 : j ≠ H1.next := by omega
      have e1 : j ≠ H1.next + 1 := by omega
      simp [e0, e1, hk j x hj]
  · obtain rfl : i = a.length := by omega
    simp [t15, t16, t17]
    refine ⟨?_, hk⟩
    rw [hs, List.drop_length, hne, List.drop_length]
    rfl
theorem EnF.take {v : AV} {l : List En} (h : EnF v l) (n : Nat) (hn : n ≤ l.length) : ∃ w, EnF w (l.take n) ∧ ((v = .nilsl ∧ w = .nilsl) ∨ (∃ C, v = .vsl C l.length ∧ w = (if 0 < l.length then .vsl C n else .vsl [] 0))) := by
  rcases h with ⟨rfl, rfl⟩ | ⟨ts, rfl⟩
  · exact ⟨.nilsl, .inl ⟨rfl, by simp⟩, .inl ⟨rfl, rfl⟩⟩
  · by_cases h0 : 0 < l.length
    · obtain ⟨ts', e⟩ := entsC_take l n ts hn
      exact ⟨.vsl (entsC l ++ ts) n, .inr ⟨ts', by rw [e, List.length_take, Nat.min_eq_left hn]⟩, .inr ⟨_, rfl, by rw [if_pos h0]⟩⟩
    · have : l = [] := by
        cases l with
        | nil => rfl
        | cons a l => simp at h0
      subst this
      exact ⟨.vsl [] 0, .inr ⟨[], by simp [entsC]⟩, .inr ⟨_, rfl, by simp⟩⟩
set_option maxRecDepth 100000 in
theorem begins_does {a b : List En} {v w : AV} (hv : EnF v a) (hw' : EnF w b) (hl : a.length ≤ 1000000) (hr : ∀ e ∈ a, e.l.length ≤ 1000000) (H : AHeap) :
    Does Tryz.prog G 114 [v, w] H fun r h => r = .bool (begins a b) ∧ h = H := by
  have hal : ∀ {l : List En} {u : AV}, EnF u l → alen Tryz.prog 48 u = some (.int .i64 l.length) := by
    intro l u h
    rcases h with ⟨rfl, rfl⟩ | ⟨ts, rfl⟩ <;> simp [alen]
  have h1 := hal hv
  have h2 := hal hw'
  refine does_f Tryz.call114 Tryz.func114 rfl (by simp [Tryz.f114]) ?_
  by_cases hne : b.length ≤ a.length
  case neg =>
    have c1 : ¬ (b.length : Int) ≤ a.length := by omega
    simp [h1, h2, c1, hne, begins, -alen]
  have c1 : (b.length : Int) ≤ a.length := by omega
  obtain ⟨u, hu, hx⟩ := hv.take b.length hne
  have hr' : ∀ e ∈ a.take b.length, e.l.length ≤ 1000000 := fun e he => hr e (List.mem_of_mem_take he)
  have hq := equalEn_does (G := G) hu hw' (by rw [List.length_take]; omega) hr'
  rcases hx with ⟨rfl, rfl⟩ | ⟨C, rfl, hw2⟩
  · have e0 : a = [] := by
      rcases hv with ⟨_, h⟩ | ⟨ts, h⟩
      · exact h
      · cases h
    subst e0
    have e1 : b = [] := by
      cases b with
      | nil => rfl
      | cons x b => simp at hne
    subst e1
    simp [h1, h2, -alen]
    refine does_use (hq _) ?_
    rintro r h ⟨rfl, rfl⟩
    simp [begins]
  · by_cases h0 : 0 < a.length
    · rw [if_pos h0] at hw2
      subst hw2
      have h0' : (0 : Int) < a.length := by omega
      simp [h1, h2, c1, hne, h0, h0', -alen]
      refine does_use (hq _) ?_
      rintro r h ⟨rfl, rfl⟩
      simp [begins, hne]
    · rw [if_neg h0] at hw2
      subst hw2
      obtain rfl : a = [] := List.length_eq_zero_iff.1 (by omega)
      obtain rfl : b = [] := List.length_eq_zero_iff.1 (by simp at hne; simp [hne])
      have h3 : alen Tryz.prog 48 (.vsl C 0) = some (.int .i64 0) := by simp [alen]
      simp [h2, h3, -alen]
      refine does_use (hq _) ?_
      rintro r h ⟨rfl, rfl⟩
      simp [begins]
end Go.Proofs.YtekbjlihciedjaaGreatDoor

namespace Go.Proofs.YtekbjlihciedjaaGreatDoor
open Go Go.Abs Go.Rp
variable {G : Nat → Option AV}
theorem elemEn : ElemOk Tryz.prog 48 48 62 3 40 := ⟨by simp, ⟨.slice 62, by simp, rfl⟩, by simp⟩
def CopG (H0 H : AHeap) (l : List En) (w : AV) : Prop := Gr H 3 l.length (entsC l) w (fun j => H0.next ≤ j) ∧ (l = [] → w = .nilsl)
set_option maxHeartbeats 4000000 in
set_option maxRecDepth 100000 in
theorem copies_run {l : List En} {v : AV} (hv : EnF v l) (hl : l.length ≤ 1000000) (hr : ∀ e ∈ l, e.l.length ≤ 1000000) (H : AHeap) :
    Does Tryz.prog G 72 [v] H fun r h => CopG H h l r ∧ ∀ j x, H.get j = some x → h.get j = some x := by
  refine Does.wf Tryz.call72 fun hw _ => ?_
  refine does_f Tryz.call72 Tryz.func72 rfl (by simp [Tryz.f72]) ?_
  have hal : alen Tryz.prog 48 v = some (.int .i64 l.length) := by rcases hv with ⟨rfl, rfl⟩ | ⟨ts, rfl⟩ <;> simp [alen]
  simp [hal, -alen]
  refine aws_loopw (fun k T' H' => ∃ i w, i + k = l.length ∧ (∀ j x, H.get j = some x → H'.get j = some x) ∧ H.next ≤ H'.next ∧ CopG H H' (l.take i) w ∧ T' 3 = w ∧ T' 6 = v ∧ T' 7 = .int .i64 l.length ∧ T' 8 = .int .i64 i) l.length ?_ ?_
  · exact ⟨0, .nilsl, by simp, fun j x hj => hj, Nat.le_refl _, ⟨.inl ⟨by simp, by simp [entsC], rfl⟩, fun _ => rfl⟩, by simp, by simp, by simp, by simp⟩
  rintro k T H1 ⟨i, w, hik, hk, hnx, hg, t3, t6, t7, t8⟩ hw1 _
  by_cases hi : i < l.length
  · have hii : (i : Int) < l.length := by omega
    obtain ⟨C, hvC, hCl, hat⟩ := hv.cs (by omega)
    have g1 : l[i]? = some l[i] := List.getElem?_eq_getElem hi
    have hat := hat i _ g1
    have hre := hr _ (List.getElem_mem hi)
    have hsn : l.take (i + 1) = l.take i ++ [l[i]] := by rw [List.take_add_one, g1]; rfl
    have hln : (l.take i).length = i := by rw [List.length_take]; omega
    generalize l[i] = x at *
    have h3 : 3 ≤ C.length - i * 3 := by omega
    have wr : IntKind.i64.wrap ((i : Int) + 1) = ((i + 1 : Nat) : Int) := by rw [IntWalk.i64_in _ (by omega)]; omega
    rw [hvC] at t6
    have rx := RowA.rowV x.row
    simp [t3, t6, t7, t8, hi, hii, h3, hat, rx.sc, rx.cells]
    refine does_use (copyEn_does (e := x) rx (by omega) _) ?_
    rintro r h ⟨rfl, rfl⟩
    have g2 : Gr ((H1.push (.cells [.int .u64 x.id, .int .u64 x.view, rowV x.row])).push (.cells [.int .u64 x.id, .int .u64 x.view, rowV x.row])) 3 i (entsC (l.take i)) w (fun j => H.next ≤ j ∧ j < H1.next) := by
      rcases hg.1 with ⟨a1, a2, a3⟩ | ⟨p, o, cap, op, pre, junk, a1, a2, a3, a4, a5, a6, a7⟩
      · exact .inl ⟨by omega, a2, a3⟩
      · have pn := next_lt hw1 a3
        have q1 : p ≠ H1.next := by omega
        have q2 : p ≠ H1.next + 1 := by omega
        exact .inr ⟨p, o, cap, op, pre, junk, by rw [a1, hln], ⟨a2, pn⟩, by simp [q1, q2, a3], a4, by rw [a5, hln], by rw [← a6, hln], by rw [← hln]; exact a7⟩
    obtain ⟨v', eff, f1, f2, f3, f4⟩ := g2.app (elemEn) (m := 1) (x := .sl (H1.next + 1) 0 3 1 1 false) (news := [.int .u64 x.id, .int .u64 x.view, rowV x.row]) (fun _ _ e => by cases e) rfl (by simp [afirst]) (by simp [rx.sc]) rfl (by omega) (by omega) (by omega) (by omega) (nx := H1.next + 1 + 1) rfl
    simp [enV, t3, t6, t7, t8, rx.sc, rx.cells, -aappend]
    rw [f1]
    generalize hH2 : ((H1.push (.cells [.int .u64 x.id, .int .u64 x.view, rowV x.row])).push (.cells [.int .u64 x.id, .int .u64 x.view, rowV x.row])) = H2 at *
    have nx2 : H2.next = H1.next + 1 + 1 := by rw [← hH2]; rfl
    simp [t3, t6, t7, t8]
    refine ⟨k - 1, by omega, i + 1, by omega, fun j y hj => ?_, by omega, v', ⟨?_, ?_⟩, rfl, hvC.symm, wr⟩
    · have j1 := next_lt hw hj
      rw [f3 j (by omega) (by omega), ← hH2]
      have e0 : j ≠ H1.next := by omega
      have e1 : j ≠ H1.next + 1 := by omega
      simp [e0, e1, hk j y hj]
    · rw [hsn, entsC_append, List.length_append, hln]
      exact (f2.mono fun j hj => by omega)
    · intro e
      rw [hsn] at e
      simp at e
  · obtain rfl : i = l.length := by omega
    rw [List.take_length] at hg
    simp [t3, t7, t8]
    exact ⟨hg, hk⟩
theorem copies_does {l : List En} {v : AV} (hv : EnF v l) (hl : l.length ≤ 1000000) (hr : ∀ e ∈ l, e.l.length ≤ 1000000) (H : AHeap) :
    Does Tryz.prog G 72 [v] H fun r h => r = entsV l ∧ h = H := by
  by_cases h0 : l = []
  · subst h0
    refine Does.forgot (R := fun r h => r = .nilsl ∧ ∀ j x, H.get j = some x → h.get j = some x) ((copies_run hv hl hr H).mono ?_) (fun hw ha r H1 ⟨h1, h2⟩ => ⟨h2, by rw [h1]; rfl, h1, rfl⟩)
    rintro r h ⟨h1, h2⟩
    exact ⟨h1.2 rfl, h2⟩
  · refine Does.frozen (copies_run hv hl hr H) ?_
    rintro hw _ r H1 ⟨h1, h2⟩
    rcases h1.1 with ⟨h, _⟩ | ⟨p, o, cap, op, pre, junk, rfl, a2, a3, a4, a5, a6, a7⟩
    · exact absurd (List.length_eq_zero_iff.1 h) h0
    · have e : AV.frz p (pre ++ (entsC l ++ junk)) (.sl p o 3 l.length cap op) = entsV l := by
        have : l.isEmpty = false := by simpa using h0
        simp only [AV.frz, if_true, entsV, this, List.drop_left' a4, List.take_left' a5]
        rfl
      exact ⟨p, _, a2, a3, h2, by rw [e]; exact entsV_lt _ _, by rw [e], rfl⟩
end Go.Proofs.YtekbjlihciedjaaGreatDoor

namespace Go.Proofs.YtekbjlihciedjaaGreatDoor
open Go Go.Abs Go.Rp
variable {G : Nat → Option AV}
end Go.Proofs.YtekbjlihciedjaaGreatDoor

namespace Go.Proofs.YtekbjlihciedjaaGreatDoor
open Go Go.Abs Go.Rp
variable {G : Nat → Option AV}
def AHeap.skip (H : AHeap) (n : Nat) (x : AObj) : AHeap := { next := H.next + n + 1, get := fun j => if j = H.next + n then some x else H.get j }
set_option maxHeartbeats 4000000 in
set_option maxRecDepth 100000 in
theorem copies_x {l : List En} {v : AV} (hv : EnF v l) (hl : l.length ≤ 1000000) (h0 : 0 < l.length) (hr : ∀ e ∈ l, e.l.length ≤ 1000000) (H : AHeap) :
    Does Tryz.prog G 72 [v] H fun r h => r = .sl (H.next + (3 * l.length - 1)) 0 3 l.length l.length true ∧ h = AHeap.skip H (3 * l.length - 1) (.cells (entsC l)) := by
  refine Does.ghost (R := fun r h => r = .sl (H.next + (3 * l.length - 1)) 0 3 l.length l.length true ∧ (∀ j x, H.get j = some x → h.get j = some x) ∧ h.get (H.next + (3 * l.length - 1)) = some (.cells (entsC l)) ∧ h.next = H.next + 3 * l.length) ?_ ?_
  rotate_left
  · rintro r H1 ⟨rfl, h1, h2, h3⟩
    refine ⟨_, _, Ghost.sub (H' := AHeap.skip H (3 * l.length - 1) (.cells (entsC l))) (by simp only [AHeap.skip]; omega) ?_, rfl, rfl⟩
    intro j x hj
    simp only [AHeap.skip] at hj
    split at hj
    · rename_i e
      rw [e, h2]; exact hj
    · exact h1 j x hj
  refine Does.wf Tryz.call72 fun hw _ => ?_
  refine does_f Tryz.call72 Tryz.func72 rfl (by simp [Tryz.f72]) ?_
  have hal : alen Tryz.prog 48 v = some (.int .i64 l.length) := by rcases hv with ⟨rfl, rfl⟩ | ⟨ts, rfl⟩ <;> simp [alen]
  simp [hal, -alen]
  refine aws_loopw (fun k T' H' => ∃ i, i + k = l.length ∧ (∀ j x, H.get j = some x → H'.get j = some x) ∧ H'.next = H.next + 3 * i ∧ (0 < i → H'.get (H.next + (3 * i - 1)) = some (.cells (entsC (l.take i)))) ∧ T' 3 = (if i = 0 then .nilsl else .sl (H.next + (3 * i - 1)) 0 3 i i true) ∧ T' 6 = v ∧ T' 7 = .int .i64 l.length ∧ T' 8 = .int .i64 i) l.length ?_ ?_
  · exact ⟨0, by simp, fun j x hj => hj, rfl, fun h => by omega, by simp, by simp, by simp, by simp⟩
  rintro k T H1 ⟨i, hik, hk, hnx, hg, t3, t6, t7, t8⟩ hw1 _
  by_cases hi : i < l.length
  · have hii : (i : Int) < l.length := by omega
    obtain ⟨C, hvC, hCl, hat⟩ := hv.cs (by omega)
    have g1 : l[i]? = some l[i] := List.getElem?_eq_getElem hi
    have hat := hat i _ g1
    have hre := hr _ (List.getElem_mem hi)
    have hsn : l.take (i + 1) = l.take i ++ [l[i]] := by rw [List.take_add_one, g1]; rfl
    have hln : (l.take i).length = i := by rw [List.length_take]; omega
    generalize l[i] = x at *
    have h3 : 3 ≤ C.length - i * 3 := by omega
    have wr : IntKind.i64.wrap ((i : Int) + 1) = ((i + 1 : Nat) : Int) := by rw [IntWalk.i64_in _ (by omega)]; omega
    rw [hvC] at t6
    have rx := RowA.rowV x.row
    have hec : entsC (l.take (i + 1)) = entsC (l.take i) ++ [.int .u64 x.id, .int .u64 x.view, rowV x.row] := by rw [hsn, entsC_append]; simp [entsC]
    simp [t3, t6, t7, t8, hi, hii, h3, hat, rx.sc, rx.cells]
    refine does_use (copyEn_does (e := x) rx (by omega) _) ?_
    rintro r h ⟨rfl, rfl⟩
    by_cases hi0 : i = 0
    · subst hi0
      simp only [if_true] at t3
      have hnx0 : H1.next = H.next := by simpa using hnx
      simp [enV, t3, t6, t7, t8, rx.sc, rx.cells]
      refine ⟨k - 1, by omega, 1, by omega, fun j y hj => ?_, by simp; omega, ?_, ?_, hvC.symm, by simpa using wr⟩
      · have j1 := next_lt hw hj
        have e0 : j ≠ H1.next := by omega
        have e1 : j ≠ H1.next + 1 := by omega
        have e2 : j ≠ H1.next + 1 + 1 := by omega
        simp [e0, e1, e2, hk j y hj]
      · have e : H.next + 2 = H1.next + 1 + 1 := by omega
        rw [hec]
        simp [e, entsC]
      · have e : H.next + 2 = H1.next + 1 + 1 := by omega
        simp [e]
    · have hg := hg (by omega)
      rw [if_neg hi0] at t3
      have e0 : H.next + (3 * i - 1) ≠ H1.next := by omega
      have e1 : H.next + (3 * i - 1) ≠ H1.next + 1 := by omega
      have e2 : H.next + (3 * i - 1) ≠ H1.next + 1 + 1 := by omega
      have c1 : i * 3 ≤ (entsC (l.take i)).length := by rw [entsC_len, hln]; omega
      have c4 : ¬ i + 1 ≤ i := by omega
      have c2 : (i + 1) * 40 ≤ 140737488355328 := by omega
      have c3 : i ≤ 4611686018427387903 := by omega
      have tk : List.take (i * 3) (entsC (l.take i)) = entsC (l.take i) := List.take_of_length_le (by rw [entsC_len, hln]; omega)
      simp [enV, t3, t6, t7, t8, rx.sc, rx.cells, hg, e0, e1, e2, c1, c2, c3, c4, tk, hi0]
      refine ⟨k - 1, by omega, i + 1, by omega, fun j y hj => ?_, (by first | omega | (simp; omega)), ?_, ?_, hvC.symm, wr⟩
      · have j1 := next_lt hw hj
        have e3 : j ≠ H1.next := by omega
        have e4 : j ≠ H1.next + 1 := by omega
        have e5 : j ≠ H1.next + 1 + 1 := by omega
        have e6 : j ≠ H.next + (3 * i - 1) := by omega
        simp [e3, e4, e5, e6, hk j y hj]
      · have : H.next + (3 * (i + 1) - 1) = H1.next + 1 + 1 := by omega
        rw [this]
        simp [hec]
      · simp; omega
  · obtain rfl : i = l.length := by omega
    have hg := hg h0
    rw [List.take_length] at hg
    rw [if_neg (by omega)] at t3
    simp [t3, t7, t8]
    exact ⟨hk, hg, hnx⟩
def seenC (S : List Nat) : List (AV × AV) := S.map fun (u : Nat) => (AV.int .u64 (u : Int), AV.bool true)
theorem afind_no {id : Nat} : ∀ {S : List Nat} (i : Nat), S.contains id = false → afind (.int .u64) (.int .u64 (id : Int)) (seenC S) i = some none
  | [], _, _ => rfl
  | a :: S, i, h => by
    simp only [List.contains_cons, Bool.or_eq_false_iff] at h
    have hne : ((id : Int) == (a : Int)) = false := by have := h.1; simp at this ⊢; omega
    have ih := afind_no (S := S) (i + 1) h.2
    simp only [seenC, List.map_cons, afind, asame, if_true, hne] at ih ⊢
    exact ih
theorem afind_yes {id : Nat} : ∀ {S : List Nat} (i : Nat), S.contains id = true → ∃ j, afind (.int .u64) (.int .u64 (id : Int)) (seenC S) i = some (some (j, .bool true))
  | [], _, h => by simp at h
  | a :: S, i, h => by
    by_cases e : id = a
    · subst e
      exact ⟨i, by simp [seenC, afind, asame]⟩
    · have hne : ((id : Int) == (a : Int)) = false := by simp; omega
      simp only [List.contains_cons, Bool.or_eq_true, beq_iff_eq, e, false_or] at h
      obtain ⟨j, ih⟩ := afind_yes (S := S) (i + 1) h
      refine ⟨j, ?_⟩
      simp only [seenC, List.map_cons, afind, asame, if_true, hne] at ih ⊢
      exact ih
set_option maxHeartbeats 4000000 in
set_option maxRecDepth 100000 in
theorem listed_does {l : List En} {v : AV} (hv : EnF v l) (hl : l.length ≤ 1000000) (H : AHeap) :
    Does Tryz.prog G 98 [v] H fun r h => r = .bool (listed l) ∧ h = H := by
  refine Does.forgot (R := fun r h => r = .bool (listed l) ∧ ∀ j x, H.get j = some x → h.get j = some x) ?_ (fun hw ha r H1 ⟨h1, h2⟩ => ⟨h2, by rw [h1]; rfl, h1, rfl⟩)
  refine Does.wf Tryz.call98 fun hw _ => ?_
  refine does_f Tryz.call98 Tryz.func98 rfl (by simp [Tryz.f98]) ?_
  have hal : alen Tryz.prog 48 v = some (.int .i64 l.length) := by rcases hv with ⟨rfl, rfl⟩ | ⟨ts, rfl⟩ <;> simp [alen]
  simp [hal, -alen]
  refine aws_loopw (fun k T' H' => ∃ i S, i + k = l.length ∧ (∀ j x, H.get j = some x → H'.get j = some x) ∧ H.next < H'.next ∧ H'.get H.next = some (.map (seenC S.reverse)) ∧ fresh [] l = fresh S (l.drop i) ∧ T' 0 = v ∧ T' 3 = .map H.next ∧ T' 7 = v ∧ T' 8 = .int .i64 l.length ∧ T' 9 = .int .i64 i) l.length ?_ ?_
  · refine ⟨0, [], by simp, fun j x hj => ?_, by simp, by simp [seenC], by simp, ?_, ?_, ?_, ?_, ?_⟩
    · have := next_lt hw hj
      have e0 : j ≠ H.next := by omega
      simp [e0, hj]
    all_goals simp
  rintro k T H1 ⟨i, S, hik, hk, hnx, hg, hf, t0, t3, t7, t8, t9⟩ hw1 _
  by_cases hi : i < l.length
  · have hii : (i : Int) < l.length := by omega
    obtain ⟨C, hvC, hCl, hat⟩ := hv.cs (by omega)
    have g1 : l[i]? = some l[i] := List.getElem?_eq_getElem hi
    have hat := hat i _ g1
    rw [List.drop_eq_getElem_cons hi] at hf
    generalize l[i] = x at *
    rw [fresh] at hf
    have h3 : 3 ≤ C.length - i * 3 := by omega
    have wr : IntKind.i64.wrap ((i : Int) + 1) = ((i + 1 : Nat) : Int) := by rw [IntWalk.i64_in _ (by omega)]; omega
    rw [hvC] at t7
    have rx := RowA.rowV x.row
    have m1 : H.next ≠ H1.next := by omega
    have old : ∀ (X : AObj) j y, H.get j = some y → (H1.push X).get j = some y := fun X j y hj => by
      have := next_lt hw1 (hk j y hj)
      have e0 : j ≠ H1.next := by omega
      simp [e0, hk j y hj]
    have hfin : fresh [] l = false → listed l = false := fun h => by simp [listed, h]
    simp [t0, t3, t7, t8, t9, hi, hii, h3, hat, rx.sc, rx.cells]
    refine does_use (may_does' (e := x) rx _) ?_
    rintro r h ⟨rfl, rfl⟩
    cases hm : may x with
    | false =>
      rw [hm, Bool.false_and, Bool.false_and] at hf
      simp [t0, t3, t7, t8, t9, hfin hf]
      exact old _
    | true =>
      cases hc : S.contains x.id with
      | true =>
        rw [hc, Bool.not_true, Bool.and_false, Bool.false_and] at hf
        obtain ⟨j, hj⟩ := afind_yes (S := S.reverse) 0 (by simpa using hc)
        simp [t0, t3, t7, t8, t9, hg, m1, hj, hfin hf, -afind]
        exact old _
      | false =>
        have hj := afind_no (id := x.id) (S := S.reverse) 0 (by simpa using hc)
        rw [hm, hc] at hf
        simp only [Bool.not_false, Bool.true_and] at hf
        simp [t0, t3, t7, t8, t9, hg, m1, hj, -afind]
        refine ⟨k - 1, by omega, i + 1, by omega, fun j y hj => ?_, by omega, x.id :: S, by simp [seenC], hf, hvC.symm, wr⟩
        have := next_lt hw1 (hk j y hj)
        have e0 : j ≠ H1.next := by omega
        have e1 : j ≠ H.next := by have := next_lt hw hj; omega
        simp [e0, e1, hk j y hj]
  · obtain rfl : i = l.length := by omega
    rw [List.drop_length] at hf
    simp [t0, t8, t9, hal, -alen]
    refine ⟨?_, hk⟩
    simp [listed, hf, fresh]
    omega
end Go.Proofs.YtekbjlihciedjaaGreatDoor

namespace Go.Proofs.YtekbjlihciedjaaGreatDoor
open Go Go.Abs Go.Rp
variable {G : Nat → Option AV}
theorem res_int (get : Nat → Option AObj) (n : Nat) (k : IntKind) (x : Int) : AV.res get (n + 1) (.int k x) = some (.int k x) := rfl
theorem res_vsl (get : Nat → Option AObj) (n : Nat) (cs : List AV) (len : Nat) : AV.res get (n + 1) (.vsl cs len) = (optAll (cs.map (AV.res get n))).map (.vsl · len) := rfl
theorem res_sl (get : Nat → Option AObj) (n : Nat) (i o z len cap : Nat) (op : Bool) {cs : List AV} (h : get i = some (.cells cs)) : AV.res get (n + 1) (.sl i o z len cap op) = (optAll (((cs.drop o).take (len * z)).map (AV.res get n))).map (.vsl · len) := by
  rw [show AV.res get (n + 1) (.sl i o z len cap op) = (match get i with | some (.cells cs) => (optAll (((cs.drop o).take (len * z)).map (AV.res get n))).map (.vsl · len) | _ => none) from rfl, h]
theorem res_ints (get : Nat → Option AObj) (n : Nat) : ∀ l : List Int, optAll ((ints l).map (AV.res get (n + 1))) = some (ints l)
  | [] => rfl
  | a :: l => by
    have := res_ints get n l
    simp only [ints, List.map_cons, res_int, optAll] at this ⊢
    rw [this]; rfl
theorem res_rowV (get : Nat → Option AObj) (n : Nat) (row : Option (List Int)) : AV.res get (n + 2) (rowV row) = some (rowV row) := by
  cases row with
  | none => rfl
  | some l => simp only [rowV, res_vsl, res_ints]; rfl
theorem res_ents (get : Nat → Option AObj) (n : Nat) : ∀ l : List En, optAll ((entsC l).map (AV.res get (n + 2))) = some (entsC l)
  | [] => rfl
  | e :: l => by
    have := res_ents get n l
    have h1 := res_rowV get n e.row
    simp only [entsC, List.flatMap_cons, List.cons_append, List.nil_append, List.map_cons, res_int, optAll, h1] at this ⊢
    rw [this]; rfl
theorem gr_lent {H : AHeap} {l : List En} {w : AV} {b : Nat → Prop} (h : Gr H 3 l.length (entsC l) w b) : ∃ u, EnF u l ∧ ∀ {xs ys : List AV}, Lent H.get 3 xs ys → Lent H.get 3 (w :: xs) (u :: ys) := by
  rcases h with ⟨h1, _, rfl⟩ | ⟨p, o, cap, op, pre, junk, rfl, _, a3, a4, a5, _⟩
  · exact ⟨.nilsl, .inl ⟨rfl, List.length_eq_zero_iff.1 h1⟩, fun h => .keep _ h⟩
  · refine ⟨.vsl (entsC l) l.length, .inr ⟨[], by simp⟩, fun h => .res ?_ h⟩
    have := res_ents H.get 0 l
    rw [res_sl _ _ _ _ _ _ _ _ a3, List.drop_left' a4, List.take_left' a5, this]
    rfl
theorem listed_live {H : AHeap} {l : List En} {w : AV} {b : Nat → Prop} (h : Gr H 3 l.length (entsC l) w b) (hl : l.length ≤ 1000000) :
    Does Tryz.prog G 98 [w] H fun r h => r = .bool (listed l) ∧ h = H := by
  obtain ⟨u, h1, h2⟩ := gr_lent h
  refine (Does.borrow (h2 .nil) (listed_does h1 hl _) (fun r H1 h => by rw [h.1]; rfl)).mono ?_
  rintro r h ⟨⟨H1, h3, _⟩, h4⟩
  exact ⟨h3, h4⟩
def PrsR (o : Option Rc) (H : AHeap) (r : AV) (h : AHeap) : Prop := (match o with
  | some x => r = .tuple [.agg [.int .u64 x.kind, .int .u64 x.view, .int .u64 x.last, .int .u64 x.agreed, entsV x.list], .bool true]
  | none => ∃ (a b c d : Int) (l : List En), r = .tuple [.agg [.int .u64 a, .int .u64 b, .int .u64 c, .int .u64 d, entsV l], .bool false]) ∧ h = H
def PrsG (o : Option Rc) (H : AHeap) (r : AV) (h : AHeap) : Prop := (match o with
  | some x => ∃ w, CopG H h x.list w ∧ r = .tuple [.agg [.int .u64 x.kind, .int .u64 x.view, .int .u64 x.last, .int .u64 x.agreed, w], .bool true]
  | none => ∃ (a b c d : Int) (w : AV) (l : List En), CopG H h l w ∧ r = .tuple [.agg [.int .u64 a, .int .u64 b, .int .u64 c, .int .u64 d, w], .bool false]) ∧ ∀ j x, H.get j = some x → h.get j = some x
theorem RdTo.next {H h : AHeap} {k : Nat} {r : Rd} (t : RdTo H h k r) : h.next = H.next := by
  obtain ⟨v, _, rfl⟩ := t
  rfl
theorem rdU_e {H : AHeap} {k u : Nat} {r R : Rd} (e : r.U = (u, R)) (hk : RdAt H k r) (hl : r.b.length ≤ 1000000) : Does Tryz.prog G 62 [.ptr k 0] H fun x h => x = .int .u64 u ∧ RdTo H h k R := by
  have := rdU_does (G := G) hk (by omega)
  rw [e] at this
  exact this
theorem rdU_b {u : Nat} {r R : Rd} (e : r.U = (u, R)) (hl : r.b.length ≤ 1000000) : u < 2 ^ 64 ∧ R.b.length ≤ 1000000 := by
  have := rdU_lt r
  rw [e] at this
  exact ⟨this.1, by have := this.2; simp only at this; omega⟩
theorem rdS_e {H : AHeap} {k : Nat} {s : Bs} {r R : Rd} (e : r.S = (s, R)) (hk : RdAt H k r) (hl : r.b.length ≤ 1000000) : Does Tryz.prog G 63 [.ptr k 0] H fun x h => x = .str s ∧ RdTo H h k R := by
  have := rdS_does (G := G) hk (by omega)
  rw [e] at this
  exact this
theorem rdS_b {s : Bs} {r R : Rd} (e : r.S = (s, R)) (hl : r.b.length ≤ 1000000) : s.length ≤ 1000000 ∧ R.b.length ≤ 1000000 := by
  have := rdS_len r
  rw [e] at this
  exact ⟨by have := this.2; simp only at this; omega, by have := this.1; simp only at this; omega⟩
theorem Gr_frz {H : AHeap} {z n : Nat} {cs : List AV} {v : AV} {b : Nat → Prop} (h : Gr H z n cs v b) {i : Nat} {c : List AV} (hi : ∀ j, b j → j ≠ i) (hc : AV.frzs i c cs = cs) : Gr (H.frz i c) z n cs v b := by
  rcases h with h | ⟨p, o, cap, op, pre, junk, h1, h2, h3, h4, h5, h6, h7⟩
  · exact .inl h
  · refine .inr ⟨p, o, cap, op, AV.frzs i c pre, AV.frzs i c junk, h1, h2, ?_, by rw [frzs_len]; exact h4, h5, by rw [frzs_len]; exact h6, h7⟩
    rw [frz_get h3 (hi p h2), frzs_append, frzs_append, hc]
theorem Gr_frzV {H : AHeap} {z n : Nat} {cs : List AV} {v : AV} {b : Nat → Prop} (h : Gr H z n cs v b) {i : Nat} {c : List AV} (hi : ∀ j, b j → j ≠ i) : AV.frz i c v = v := by
  rcases h with ⟨_, _, rfl⟩ | ⟨p, o, cap, op, pre, junk, rfl, h2, _⟩
  · rfl
  · simp only [AV.frz]; rw [if_neg (hi p h2)]
set_option maxHeartbeats 8000000 in
set_option maxRecDepth 100000 in
theorem parse_run {H : AHeap} {i : Nat} {cs : List AV} {me n : Nat} (hi : H.get i = some (.cells (.int .i64 me :: .int .i64 n :: cs))) (b1 : me < 2 ^ 62) (b2 : n < 2 ^ 62) {bv : AV} {b : Bs} (hb : BtA bv b) (hl : b.length ≤ 1000000) :
    Does Tryz.prog G 68 [.ptr i 0, bv] H (PrsG (parse me n b) H) := by
  refine Does.wf Tryz.call68 fun hw _ => ?_
  have hin := next_lt hw hi
  refine does_f Tryz.call68 Tryz.func68 rfl (by simp [Tryz.f68]) ?_
  have w1 : IntKind.u64.wrap (me : Int) = me := IntWalk.u64_in _ (by omega)
  have w2 : IntKind.u64.wrap (n : Int) = n := IntWalk.u64_in _ (by omega)
  obtain ⟨u1, R1, e1⟩ : ∃ u R, (Rd.mk b false).U = (u, R) := ⟨_, _, rfl⟩
  obtain ⟨u2, R2, e2⟩ : ∃ u R, R1.U = (u, R) := ⟨_, _, rfl⟩
  obtain ⟨u3, R3, e3⟩ : ∃ u R, R2.U = (u, R) := ⟨_, _, rfl⟩
  obtain ⟨u4, R4, e4⟩ : ∃ u R, R3.U = (u, R) := ⟨_, _, rfl⟩
  obtain ⟨u5, R5, e5⟩ : ∃ u R, R4.U = (u, R) := ⟨_, _, rfl⟩
  obtain ⟨u6, R6, e6⟩ : ∃ u R, R5.U = (u, R) := ⟨_, _, rfl⟩
  obtain ⟨u7, R7, e7⟩ : ∃ u R, R6.U = (u, R) := ⟨_, _, rfl⟩
  have f1 := rdU_b e1 (by simpa using hl)
  have f2 := rdU_b e2 f1.2
  have f3 := rdU_b e3 f2.2
  have f4 := rdU_b e4 f3.2
  have f5 := rdU_b e5 f4.2
  have f6 := rdU_b e6 f5.2
  have f7 := rdU_b e7 f6.2
  have hP : parse me n b = if u1 ≠ me ∨ u2 ≠ n ∨ 200 < u7 then none else match (rdEns u7 R7).1 with
      | none => none
      | some l => if (rdEns u7 R7).2.bad = false ∧ (rdEns u7 R7).2.b.length = 0 ∧ u4 ≤ 1099511627776 ∧ u5 ≤ u4 ∧ listed l = true then some ⟨u3, u4, u5, u6, l⟩ else none := by
    unfold parse
    simp only [e1, e2, e3, e4, e5, e6, e7]
    rfl
  rw [hP]
  simp
  refine does_usew (packRead_does hb (by omega) _) ?_
  rintro r H1 ⟨k, rfl, hk, hr, hs⟩ hw1 _
  have hs' : ∀ j x, H.get j = some x → H1.get j = some x := fun j x hj => hs j x (by
    have := next_lt hw hj
    have e0 : j ≠ H.next := by omega
    simp [e0, hj])
  have hq : H1.get H.next = some (.cells [.int .u64 0, .int .u64 0, .int .u64 0, .int .u64 0, .nilsl]) := hs H.next (.cells [.int .u64 0, .int .u64 0, .int .u64 0, .int .u64 0, .nilsl]) (by simp)
  simp at hk
  have hr : RdAt H1 k ⟨b, false⟩ := hr
  have hkn : k < H1.next := by obtain ⟨v, _, h⟩ := hr; exact next_lt hw1 h
  clear hs
  have step : ∀ {Ha Hb : AHeap} {R : Rd}, ((∀ j x, H.get j = some x → Ha.get j = some x) ∧ Ha.get H.next = some (.cells [.int .u64 0, .int .u64 0, .int .u64 0, .int .u64 0, .nilsl]) ∧ k < Ha.next) → RdTo Ha Hb k R → ((∀ j x, H.get j = some x → Hb.get j = some x) ∧ Hb.get H.next = some (.cells [.int .u64 0, .int .u64 0, .int .u64 0, .int .u64 0, .nilsl]) ∧ k < Hb.next) := by
    rintro Ha Hb R ⟨g1, g2, g3⟩ ht
    refine ⟨fun j x hj => ?_, ?_, by rw [ht.next]; exact g3⟩
    · rw [ht.off (by have := next_lt hw hj; omega)]; exact g1 j x hj
    · rw [ht.off (by omega)]; exact g2
  have G1 : (∀ j x, H.get j = some x → H1.get j = some x) ∧ H1.get H.next = some (.cells [.int .u64 0, .int .u64 0, .int .u64 0, .int .u64 0, .nilsl]) ∧ k < H1.next := ⟨hs', hq, hkn⟩
  clear hs' hq hkn
  simp
  refine does_usew (rdU_e e1 hr (by simpa using hl)) ?_
  rintro r H2 ⟨rfl, ht⟩ hw2 _
  have G2 := step G1 ht
  have hr := ht.at
  simp
  refine does_usew (rdU_e e2 hr f1.2) ?_
  rintro r H3 ⟨rfl, ht⟩ hw3 _
  have G3 := step G2 ht
  have hr := ht.at
  simp
  refine does_usew (rdU_e e3 hr f2.2) ?_
  rintro r H4 ⟨rfl, ht⟩ hw4 _
  have G4 := step G3 ht
  have hr := ht.at
  simp
  refine does_usew (rdU_e e4 hr f3.2) ?_
  rintro r H5 ⟨rfl, ht⟩ hw5 _
  have G5 := step G4 ht
  have hr := ht.at
  simp
  refine does_usew (rdU_e e5 hr f4.2) ?_
  rintro r H6 ⟨rfl, ht⟩ hw6 _
  have G6 := step G5 ht
  have hr := ht.at
  simp
  refine does_usew (rdU_e e6 hr f5.2) ?_
  rintro r H7 ⟨rfl, ht⟩ hw7 _
  have G7 := step G6 ht
  have hr := ht.at
  clear ht
  simp
  have hr : RdAt (H7.push (.cells [.int .u64 u3, .int .u64 u4, .int .u64 u5, .int .u64 u6, .nilsl])) k R6 := by
    obtain ⟨v, a1, a2⟩ := hr
    have := G7.2.2
    have e0 : k ≠ H7.next := by omega
    exact ⟨v, a1, by simp [e0, a2]⟩
  refine does_usew (rdU_e e7 hr f6.2) ?_
  rintro r H8 ⟨rfl, ht⟩ hw8 _
  have hr := ht.at
  have hx : H8.get H7.next = some (.cells [.int .u64 u3, .int .u64 u4, .int .u64 u5, .int .u64 u6, .nilsl]) := by
    rw [ht.off (by have := G7.2.2; omega)]; simp
  have hnx : H8.next = H7.next + 1 := ht.next
  have G8 : (∀ j x, H.get j = some x → H8.get j = some x) ∧ H8.get H.next = some (.cells [.int .u64 0, .int .u64 0, .int .u64 0, .int .u64 0, .nilsl]) ∧ k < H7.next ∧ H.next < H7.next := by
    obtain ⟨g1, g2, g3⟩ := G7
    have g4 := next_lt hw7 g2
    refine ⟨fun j x hj => ?_, ?_, g3, g4⟩
    · have := next_lt hw hj
      rw [ht.off (by omega)]
      have e0 : j ≠ H7.next := by omega
      simp [e0, g1 j x hj]
    · rw [ht.off (by omega)]
      have e0 : H.next ≠ H7.next := by omega
      simp [e0, g2]
  clear G1 G2 G3 G4 G5 G6 G7 ht hw1 hw2 hw3 hw4 hw5 hw6
  obtain ⟨g1, g2, g3, g4⟩ := G8
  have hi8 := g1 i _ hi
  have bad : ∀ X, (∀ j x, H.get j = some x → (H8.set H.next X).get j = some x) := fun X j x hj => by
    have := next_lt hw hj
    have e0 : j ≠ H.next := by omega
    simp [e0, g1 j x hj]
  have c8 : H.next ≠ H8.next := by omega
  by_cases h1 : u1 = me
  case neg =>
    have c1 : ((u1 : Int) != (me : Int)) = true := by rw [bne_iff_ne]; omega
    simp [hi8, w1, w2, c1, h1, g2, PrsG]
    exact ⟨⟨0, 0, 0, 0, .nilsl, ⟨[], .inl ⟨rfl, rfl, rfl⟩, fun _ => rfl⟩, rfl, rfl, rfl, rfl, rfl⟩, bad _⟩
  have c1 : ((u1 : Int) != (me : Int)) = false := by simp [h1]
  by_cases h2 : u2 = n
  case neg =>
    have c2 : ((u2 : Int) != (n : Int)) = true := by rw [bne_iff_ne]; omega
    simp [hi8, w1, w2, c1, c2, h1, h2, g2, PrsG]
    exact ⟨⟨0, 0, 0, 0, .nilsl, ⟨[], .inl ⟨rfl, rfl, rfl⟩, fun _ => rfl⟩, rfl, rfl, rfl, rfl, rfl⟩, bad _⟩
  have c2 : ((u2 : Int) != (n : Int)) = false := by simp [h2]
  by_cases h3 : 200 < u7
  case pos =>
    have c3 : (200 : Int) < u7 := by omega
    simp [hi8, w1, w2, c1, c2, c3, h1, h2, h3, g2, PrsG]
    exact ⟨⟨0, 0, 0, 0, .nilsl, ⟨[], .inl ⟨rfl, rfl, rfl⟩, fun _ => rfl⟩, rfl, rfl, rfl, rfl, rfl⟩, bad _⟩
  have c3 : ¬ (200 : Int) < u7 := by omega
  simp [hi8, w1, w2, c1, c2, c3, h1, h2, h3]
  obtain ⟨q, hq⟩ : ∃ q, q = H7.next := ⟨_, rfl⟩
  rw [← hq] at hx g3 g4 hnx ⊢
  generalize hX : rdEns u7 R7 = X at *
  refine aws_loopw (fun m T' H' => ∃ l b' d' w, l.length + m = u7 ∧ ((rdEns m ⟨b', d'⟩).1.map (l ++ ·) = X.1 ∧ (rdEns m ⟨b', d'⟩).2 = X.2) ∧ b'.length ≤ 1000000 ∧ RdAt H' k ⟨b', d'⟩ ∧ Gr H' 3 l.length (entsC l) w (fun j => q < j) ∧ (l = [] → w = .nilsl) ∧
    H'.get q = some (.cells [.int .u64 u3, .int .u64 u4, .int .u64 u5, .int .u64 u6, w]) ∧ H'.get H.next = some (.cells [.int .u64 0, .int .u64 0, .int .u64 0, .int .u64 0, .nilsl]) ∧ (∀ j x, H.get j = some x → H'.get j = some x) ∧ q < H'.next ∧
    T' 0 = .ptr i 0 ∧ T' 4 = .ptr H.next 0 ∧ T' 6 = .ptr k 0 ∧ T' 9 = .ptr q 0 ∧ T' 51 = .int .u64 u7 ∧ T' 52 = .int .u64 l.length) u7 ?_ ?_
  · refine ⟨[], R7.b, R7.bad, .nilsl, by simp, ⟨by rw [hX]; simp, by rw [hX]⟩, f7.2, hr, .inl ⟨rfl, rfl, rfl⟩, fun _ => rfl, hx, g2, g1, by omega, ?_, ?_, ?_, ?_, ?_, ?_⟩ <;> simp [hq]
  rintro m T H' ⟨l, b', d', w, hlm, ⟨hX1, hX2⟩, hb', hrd, hw', hw0, hx', hz', hs', hqn, t0, t4, t6, t9, t51, t52⟩ hw5 _
  cases m with
  | zero =>
    have c4 : ¬ (l.length : Int) < u7 := by omega
    simp only [rdEns, Option.map_some, List.append_nil] at hX1 hX2
    obtain ⟨X1, X2⟩ := X
    simp only at hX1 hX2
    subst hX1
    subst hX2
    have hwc := hw'.cells
    have hws := hw'.sc
    have qz : H.next ≠ q := by omega
    have hwZ : ∀ X, CopG H (H'.set H.next X) l w := fun X => ⟨(hw'.keep (fun j x hj hx => by
      have : j ≠ H.next := by omega
      simp [this, hx])).mono (fun j hj => by omega), hw0⟩
    have bad' : ∀ X, (∀ j x, H.get j = some x → (H'.set H.next X).get j = some x) := fun X j x hj => by
      have := next_lt hw hj
      have e0 : j ≠ H.next := by omega
      simp [e0, hs' j x hj]
    simp [t0, t4, t6, t9, t51, t52, c4]
    cases d' with
    | true =>
      refine aw_drawn [(0, 0), (0, 3)] mixedOrdR (by kernel_rfl) ?_
      intro es hes
      simp [adf_stop, -adf_cons, t0, t4, t6, t9, hx', hws, hwc]
      refine ⟨_, _, rdBad_does hrd, Nat.le_refl _, ?_⟩
      refine ad_go (fun T' => T' 4 = .ptr H.next 0 ∧ T' 6 = .ptr k 0 ∧ T' 9 = .ptr q 0 ∧ T' 71 = .agg [.int .u64 u3, .int .u64 u4, .int .u64 u5, .int .u64 u6, w] ∧ T' 73 = .bool true) (by simp [t4, t6, t9, hx']) ?_
      rintro T1 ⟨a4, a6, a9, a71, a73⟩
      simp [adf_stop, -adf_cons, a4, a6, a9, a71, a73, hx', hz', hws, hwc]
      refine ⟨by subst hes; exact ⟨by kernel_rfl, by kernel_rfl⟩, by simp [rds, heapF, t9, hx'], ?_⟩
      simp [PrsG, h1, h2, h3]
      exact ⟨⟨u3, u4, u5, u6, w, ⟨l, hwZ _⟩, rfl, rfl, rfl, rfl, rfl⟩, bad' _⟩
    | false =>
      by_cases hl0 : b' = []
      case neg =>
        refine aw_drawn [(0, 0), (0, 3), (0, 7)] mixedOrdR (by kernel_rfl) ?_
        intro es hes
        simp [adf_stop, -adf_cons, t0, t4, t6, t9, hx', hws, hwc]
        refine ⟨_, _, rdBad_does hrd, Nat.le_refl _, ?_⟩
        refine ad_go (fun T' => T' 4 = .ptr H.next 0 ∧ T' 6 = .ptr k 0 ∧ T' 9 = .ptr q 0 ∧ T' 71 = .agg [.int .u64 u3, .int .u64 u4, .int .u64 u5, .int .u64 u6, w] ∧ T' 73 = .bool false) (by simp [t4, t6, t9, hx']) ?_
        rintro T1 ⟨a4, a6, a9, a71, a73⟩
        simp [adf_stop, -adf_cons, a4, a6, a9, a71, a73, hx', hz', hws, hwc]
        refine ⟨_, _, rdLeft_does hrd, Nat.le_refl _, ?_⟩
        refine ad_go (fun T' => T' 4 = .ptr H.next 0 ∧ T' 6 = .ptr k 0 ∧ T' 9 = .ptr q 0 ∧ T' 71 = .agg [.int .u64 u3, .int .u64 u4, .int .u64 u5, .int .u64 u6, w] ∧ T' 75 = .bool true ∧ T' 77 = .int .i64 b'.length) (by simp [a4, a6, a9, a71]) ?_
        rintro T2 ⟨a4, a6, a9, a71, a75, a77⟩
        simp [adf_stop, -adf_cons, a4, a6, a9, a71, a75, a77, hx', hz', hws, hwc, h1, h2, h3, hl0]
        refine ⟨by subst hes; exact ⟨by kernel_rfl, by kernel_rfl⟩, by simp [rds, heapF, t9, hx'], ?_⟩
        simp [PrsG, h1, h2, h3, hl0]
        exact ⟨⟨u3, u4, u5, u6, w, ⟨l, hwZ _⟩, rfl, rfl, rfl, rfl, rfl⟩, bad' _⟩
      by_cases hv4 : u4 ≤ 1099511627776
      case neg =>
        have k2 : ¬ (u4 : Int) ≤ 1099511627776 := by omega
        refine aw_drawn [(0, 0), (0, 3), (0, 7), (11, 7)] mixedOrdR (by kernel_rfl) ?_
        intro es hes
        simp [adf_stop, -adf_cons, t0, t4, t6, t9, hx', hws, hwc]
        refine ⟨_, _, rdBad_does hrd, Nat.le_refl _, ?_⟩
        refine ad_go (fun T' => T' 4 = .ptr H.next 0 ∧ T' 6 = .ptr k 0 ∧ T' 9 = .ptr q 0 ∧ T' 71 = .agg [.int .u64 u3, .int .u64 u4, .int .u64 u5, .int .u64 u6, w] ∧ T' 73 = .bool false) (by simp [t4, t6, t9, hx']) ?_
        rintro T1 ⟨a4, a6, a9, a71, a73⟩
        simp [adf_stop, -adf_cons, a4, a6, a9, a71, a73, hx', hz', hws, hwc]
        refine ⟨_, _, rdLeft_does hrd, Nat.le_refl _, ?_⟩
        refine ad_go (fun T' => T' 4 = .ptr H.next 0 ∧ T' 6 = .ptr k 0 ∧ T' 9 = .ptr q 0 ∧ T' 71 = .agg [.int .u64 u3, .int .u64 u4, .int .u64 u5, .int .u64 u6, w] ∧ T' 75 = .bool true ∧ T' 77 = .int .i64 b'.length) (by simp [a4, a6, a9, a71]) ?_
        rintro T2 ⟨a4, a6, a9, a71, a75, a77⟩
        simp [adf_stop, -adf_cons, a4, a6, a9, a71, a75, a77, hx', hz', hws, hwc, h1, h2, h3, hl0, hv4, k2]
        refine ⟨by subst hes; exact ⟨by kernel_rfl, by kernel_rfl⟩, by simp [rds, heapF, t9, hx'], ?_⟩
        simp [PrsG, h1, h2, h3, hl0, hv4, k2]
        exact ⟨⟨u3, u4, u5, u6, w, ⟨l, hwZ _⟩, rfl, rfl, rfl, rfl, rfl⟩, bad' _⟩
      have k2 : (u4 : Int) ≤ 1099511627776 := by omega
      by_cases hv5 : u5 ≤ u4
      case neg =>
        have k3 : ¬ (u5 : Int) ≤ u4 := by omega
        refine aw_drawn [(0, 0), (0, 3), (0, 7), (11, 7), (16, 7), (18, 7)] mixedOrdR (by kernel_rfl) ?_
        intro es hes
        simp [adf_stop, -adf_cons, t0, t4, t6, t9, hx', hws, hwc]
        refine ⟨_, _, rdBad_does hrd, Nat.le_refl _, ?_⟩
        refine ad_go (fun T' => T' 4 = .ptr H.next 0 ∧ T' 6 = .ptr k 0 ∧ T' 9 = .ptr q 0 ∧ T' 71 = .agg [.int .u64 u3, .int .u64 u4, .int .u64 u5, .int .u64 u6, w] ∧ T' 73 = .bool false) (by simp [t4, t6, t9, hx']) ?_
        rintro T1 ⟨a4, a6, a9, a71, a73⟩
        simp [adf_stop, -adf_cons, a4, a6, a9, a71, a73, hx', hz', hws, hwc]
        refine ⟨_, _, rdLeft_does hrd, Nat.le_refl _, ?_⟩
        refine ad_go (fun T' => T' 4 = .ptr H.next 0 ∧ T' 6 = .ptr k 0 ∧ T' 9 = .ptr q 0 ∧ T' 71 = .agg [.int .u64 u3, .int .u64 u4, .int .u64 u5, .int .u64 u6, w] ∧ T' 75 = .bool true ∧ T' 77 = .int .i64 b'.length) (by simp [a4, a6, a9, a71]) ?_
        rintro T2 ⟨a4, a6, a9, a71, a75, a77⟩
        simp [adf_stop, -adf_cons, a4, a6, a9, a71, a75, a77, hx', hz', hws, hwc, h1, h2, h3, hl0, hv4, k2, hv5, k3]
        refine ⟨by subst hes; exact ⟨by kernel_rfl, by kernel_rfl⟩, by simp [rds, heapF, t9, hx'], ?_⟩
        simp [PrsG, h1, h2, h3, hl0, hv4, k2, hv5, k3]
        exact ⟨⟨u3, u4, u5, u6, w, ⟨l, hwZ _⟩, rfl, rfl, rfl, rfl, rfl⟩, bad' _⟩
      have k3 : (u5 : Int) ≤ u4 := by omega
      cases hls : listed l with
      | false =>
        refine aw_drawn [(0, 0), (0, 3), (0, 7), (0, 25), (11, 7), (16, 7), (18, 7), (23, 7)] mixedOrdR (by kernel_rfl) ?_
        intro es hes
        simp [adf_stop, -adf_cons, t0, t4, t6, t9, hx', hws, hwc]
        refine ⟨_, _, rdBad_does hrd, Nat.le_refl _, ?_⟩
        refine ad_go (fun T' => T' 4 = .ptr H.next 0 ∧ T' 6 = .ptr k 0 ∧ T' 9 = .ptr q 0 ∧ T' 71 = .agg [.int .u64 u3, .int .u64 u4, .int .u64 u5, .int .u64 u6, w] ∧ T' 73 = .bool false) (by simp [t4, t6, t9, hx']) ?_
        rintro T1 ⟨a4, a6, a9, a71, a73⟩
        simp [adf_stop, -adf_cons, a4, a6, a9, a71, a73, hx', hz', hws, hwc]
        refine ⟨_, _, rdLeft_does hrd, Nat.le_refl _, ?_⟩
        refine ad_go (fun T' => T' 4 = .ptr H.next 0 ∧ T' 6 = .ptr k 0 ∧ T' 9 = .ptr q 0 ∧ T' 71 = .agg [.int .u64 u3, .int .u64 u4, .int .u64 u5, .int .u64 u6, w] ∧ T' 75 = .bool true ∧ T' 77 = .int .i64 b'.length) (by simp [a4, a6, a9, a71]) ?_
        rintro T2 ⟨a4, a6, a9, a71, a75, a77⟩
        simp [adf_stop, -adf_cons, a4, a6, a9, a71, a75, a77, hx', hz', hws, hwc, h1, h2, h3, hl0, hv4, k2, hv5, k3, hls]
        refine ⟨_, _, listed_live hw' (by omega), Nat.le_refl _, ?_⟩
        refine ad_go (fun T' => T' 4 = .ptr H.next 0 ∧ T' 6 = .ptr k 0 ∧ T' 9 = .ptr q 0 ∧ T' 71 = .agg [.int .u64 u3, .int .u64 u4, .int .u64 u5, .int .u64 u6, w] ∧ T' 92 = .bool true ∧ T' 95 = .bool (listed l)) (by simp [a4, a6, a9, a71, h1, h2, h3, hl0, hv4, k2, hv5, k3, hls]) ?_
        rintro T3 ⟨a4, a6, a9, a71, a92, a95⟩
        simp [adf_stop, -adf_cons, a4, a6, a9, a71, a92, a95, hx', hz', hws, hwc, h1, h2, h3, hl0, hv4, k2, hv5, k3, hls]
        refine ⟨by subst hes; exact ⟨by kernel_rfl, by kernel_rfl⟩, by simp [rds, heapF, t9, hx'], ?_⟩
        simp [PrsG, h1, h2, h3, hl0, hv4, k2, hv5, k3, hls]
        exact ⟨⟨u3, u4, u5, u6, w, ⟨l, hwZ _⟩, rfl, rfl, rfl, rfl, rfl⟩, bad' _⟩
      | true =>
        refine aw_drawn [(0, 0), (0, 3), (0, 7), (0, 25), (11, 7), (16, 7), (18, 7), (23, 7)] mixedOrdR (by kernel_rfl) ?_
        intro es hes
        simp [adf_stop, -adf_cons, t0, t4, t6, t9, hx', hws, hwc]
        refine ⟨_, _, rdBad_does hrd, Nat.le_refl _, ?_⟩
        refine ad_go (fun T' => T' 4 = .ptr H.next 0 ∧ T' 6 = .ptr k 0 ∧ T' 9 = .ptr q 0 ∧ T' 71 = .agg [.int .u64 u3, .int .u64 u4, .int .u64 u5, .int .u64 u6, w] ∧ T' 73 = .bool false) (by simp [t4, t6, t9, hx']) ?_
        rintro T1 ⟨a4, a6, a9, a71, a73⟩
        simp [adf_stop, -adf_cons, a4, a6, a9, a71, a73, hx', hz', hws, hwc]
        refine ⟨_, _, rdLeft_does hrd, Nat.le_refl _, ?_⟩
        refine ad_go (fun T' => T' 4 = .ptr H.next 0 ∧ T' 6 = .ptr k 0 ∧ T' 9 = .ptr q 0 ∧ T' 71 = .agg [.int .u64 u3, .int .u64 u4, .int .u64 u5, .int .u64 u6, w] ∧ T' 75 = .bool true ∧ T' 77 = .int .i64 b'.length) (by simp [a4, a6, a9, a71]) ?_
        rintro T2 ⟨a4, a6, a9, a71, a75, a77⟩
        simp [adf_stop, -adf_cons, a4, a6, a9, a71, a75, a77, hx', hz', hws, hwc, h1, h2, h3, hl0, hv4, k2, hv5, k3, hls]
        refine ⟨_, _, listed_live hw' (by omega), Nat.le_refl _, ?_⟩
        refine ad_go (fun T' => T' 4 = .ptr H.next 0 ∧ T' 6 = .ptr k 0 ∧ T' 9 = .ptr q 0 ∧ T' 71 = .agg [.int .u64 u3, .int .u64 u4, .int .u64 u5, .int .u64 u6, w] ∧ T' 92 = .bool true ∧ T' 95 = .bool (listed l)) (by simp [a4, a6, a9, a71, h1, h2, h3, hl0, hv4, k2, hv5, k3, hls]) ?_
        rintro T3 ⟨a4, a6, a9, a71, a92, a95⟩
        simp [adf_stop, -adf_cons, a4, a6, a9, a71, a92, a95, hx', hz', hws, hwc, h1, h2, h3, hl0, hv4, k2, hv5, k3, hls]
        refine ⟨by subst hes; exact ⟨by kernel_rfl, by kernel_rfl⟩, by simp [rds, heapF, t9, hx'], ?_⟩
        simp [PrsG, h1, h2, h3, hl0, hv4, k2, hv5, k3, hls]
        exact ⟨hwZ _, bad' _⟩
  | succ m =>
    have c4 : (l.length : Int) < u7 := by omega
    have hxs : rdEns (m + 1) ⟨b', d'⟩ = (match getEn (Rd.S ⟨b', d'⟩).1 with | none => (none, (Rd.S ⟨b', d'⟩).2) | some e => ((rdEns m (Rd.S ⟨b', d'⟩).2).1.map (e :: ·), (rdEns m (Rd.S ⟨b', d'⟩).2).2)) := rfl
    rw [hxs] at hX1 hX2
    obtain ⟨sb, Rs, es⟩ : ∃ sb Rs, Rd.S ⟨b', d'⟩ = (sb, Rs) := ⟨_, _, rfl⟩
    have fs := rdS_b es hb'
    rw [es] at hX1 hX2
    simp only at hX1 hX2
    simp [t0, t4, t6, t9, t51, t52, c4]
    refine does_usew (rdS_e es hrd hb') ?_
    rintro r h ⟨rfl, hto⟩ hw6 _
    have hat := hto.at
    have hnx2 : h.next = H'.next := hto.next
    have hoff : ∀ j, j ≠ k → h.get j = H'.get j := fun j hj => hto.off hj
    have kq : k < q := g3
    have zq : H.next < q := g4
    have kz : H.next ≠ k := by omega
    have e0 : sb.map (fun b => AV.int .u8 b.toNat) = strCs sb := rfl
    simp [e0]
    obtain ⟨b2', d2'⟩ := Rs
    simp only at fs
    have keepS : ∀ j c, j ≠ h.next → h.get j = some (.cells c) → ((h.push (.cells (strCs sb))).frz h.next (strCs sb)).get j = some (.cells (AV.frzs h.next (strCs sb) c)) := fun j c hj hc => frz_get (by simp [hj, hc]) hj
    have hfz : ∀ j x, H.get j = some x → ((h.push (.cells (strCs sb))).frz h.next (strCs sb)).get j = some x := fun j x hx => by
      have hlt := next_lt hw hx
      refine frz_old1 hw (by omega) hx ?_
      have e1 : j ≠ h.next := by omega
      have e2 : j ≠ k := by omega
      simp [e1, hoff j e2, hs' j x hx]
    have efz : [AV.sl h.next 0 1 sb.length sb.length true].map (AV.frz h.next (strCs sb)) = [bV sb] := by
      have tk : List.take sb.length (strCs sb) = strCs sb := by rw [← strCs_len, List.take_length]
      simp [AV.frz, bV, tk]
    have hkk : RdAt ((h.push (.cells (strCs sb))).frz h.next (strCs sb)) k ⟨b2', d2'⟩ := by
      obtain ⟨v, a1, a2⟩ := hat
      exact ⟨_, a1.frz h.next (strCs sb), by rw [keepS k _ (by omega) a2]; simp [AV.frzs, AV.frz]⟩
    have hwG : Gr ((h.push (.cells (strCs sb))).frz h.next (strCs sb)) 3 l.length (entsC l) w (fun j => q < j ∧ j < h.next) := by
      rcases hw' with a | ⟨p, o, cap, op, pre, junk, a1, a2, a3, a4, a5, a6, a7⟩
      · exact .inl a
      · have pn := next_lt hw5 a3
        have h1 : Gr (h.push (.cells (strCs sb))) 3 l.length (entsC l) w (fun j => q < j ∧ j < h.next) := by
          refine .inr ⟨p, o, cap, op, pre, junk, a1, ⟨a2, by omega⟩, ?_, a4, a5, a6, a7⟩
          have n1 : p ≠ h.next := by omega
          have n2 : p ≠ k := by omega
          simp [n1, hoff p n2, a3]
        exact Gr_frz h1 (fun j hj => by omega) (frzs_entsC _ _ _)
    have hwv : AV.frz h.next (strCs sb) w = w := Gr_frzV hwG (fun j hj => by omega)
    have hxq : ((h.push (.cells (strCs sb))).frz h.next (strCs sb)).get q = some (.cells [.int .u64 u3, .int .u64 u4, .int .u64 u5, .int .u64 u6, w]) := by
      rw [keepS q _ (by omega) (by rw [hoff q (by omega)]; exact hx')]
      simp [AV.frzs, AV.frz, hwv]
    have hzq : ((h.push (.cells (strCs sb))).frz h.next (strCs sb)).get H.next = some (.cells [.int .u64 0, .int .u64 0, .int .u64 0, .int .u64 0, .nilsl]) := by
      rw [keepS H.next _ (by omega) (by rw [hoff H.next kz]; exact hz')]
      simp [AV.frzs, AV.frz]
    have hnn : ((h.push (.cells (strCs sb))).frz h.next (strCs sb)).next = h.next + 1 := by simp [AHeap.frz]
    have hwc := hwG.cells
    have hws := hwG.sc
    generalize hH3 : (h.push (.cells (strCs sb))).frz h.next (strCs sb) = H3 at *
    refine does_usew (Does.lend (i := h.next) (cs := strCs sb) (R := fun r h' => r = enR (getEn sb) ∧ h' = H3) (by simp) (by rw [efz, hH3]; exact getEn_does (b := sb) (bv := bV sb) (.bV sb) (by omega) _)) ?_
    rintro x hC ⟨rfl, rfl⟩ hw7 _
    cases hge : getEn sb with
    | none =>
      rw [hge] at hX1 hX2
      simp only [Option.map_none] at hX1
      have n1 : H.next ≠ hC.next := by omega
      simp [enR, t4, hzq, n1, PrsG, h1, h2, h3, hX1.symm]
      refine ⟨⟨0, 0, 0, 0, .nilsl, ⟨[], .inl ⟨rfl, rfl, rfl⟩, fun _ => rfl⟩, rfl, rfl, rfl, rfl, rfl⟩, fun j x hj => ?_⟩
      have := next_lt hw hj
      have e1 : j ≠ H.next := by omega
      have e2 : j ≠ hC.next := by omega
      simp [e1, e2, hfz j x hj]
    | some e =>
      rw [hge] at hX1 hX2
      have hr := RowA.rowV e.row
      have wi : IntKind.u64.wrap ((l.length : Int) + 1) = ((l.length + 1 : Nat) : Int) := by rw [IntWalk.u64_in _ (by omega)]; omega
      have hXl : (rdEns m ⟨b2', d2'⟩).1.map ((l ++ [e]) ++ ·) = X.1 := by rw [← hX1]; simp [Function.comp_def]
      have hec : entsC (l ++ [e]) = entsC l ++ [.int .u64 e.id, .int .u64 e.view, rowV e.row] := by simp [entsC]
      have hqlt := next_lt hw7 hxq
      have q1 : q ≠ hC.next := by omega
      have q2 : q ≠ hC.next + 1 := by omega
      have g2 : Gr ((hC.push (.cells [.int .u64 e.id, .int .u64 e.view, rowV e.row])).push (.cells [.int .u64 e.id, .int .u64 e.view, rowV e.row])) 3 l.length (entsC l) w (fun j => q < j ∧ j < hC.next) := by
        rcases hwG with ⟨a1, a2, a3⟩ | ⟨p, o, cap, op, pre, junk, a1, a2, a3, a4⟩
        · exact .inl ⟨by omega, a2, a3⟩
        · have pn := next_lt hw7 a3
          have p1 : p ≠ hC.next := by omega
          have p2 : p ≠ hC.next + 1 := by omega
          exact .inr ⟨p, o, cap, op, pre, junk, a1, ⟨a2.1, pn⟩, by simp [p1, p2, a3], a4⟩
      obtain ⟨v', eff, f1, f2, f3, f4⟩ := g2.app (elemEn) (m := 1) (x := .sl (hC.next + 1) 0 3 1 1 false) (news := [.int .u64 e.id, .int .u64 e.view, rowV e.row]) (fun _ _ e => by cases e) rfl (by simp [afirst]) (by simp [hr.sc]) rfl (by omega) (by omega) (by omega) (by omega) (nx := hC.next + 1 + 1) rfl
      simp [enR, enV, hr.cells, hr.sc, t0, t4, t6, t9, t51, t52, hxq, q1, q2, hwc, hws, -aappend]
      rw [f1]
      generalize hH2 : ((hC.push (.cells [.int .u64 e.id, .int .u64 e.view, rowV e.row])).push (.cells [.int .u64 e.id, .int .u64 e.view, rowV e.row])) = H2 at *
      have nx2 : H2.next = hC.next + 1 + 1 := by rw [← hH2]; rfl
      have hx4 : (H2.eff eff).get q = some (.cells [.int .u64 u3, .int .u64 u4, .int .u64 u5, .int .u64 u6, w]) := by
        rw [f3 q (by omega) (by omega), ← hH2]
        simp [q1, q2, hxq]
      have hv'c := f2.cells
      have hv's := f2.sc
      simp [t0, t4, t6, t9, t51, t52, hx4, hv'c, hv's, -Bool.exists_bool]
      obtain ⟨vk, hvk, hgk⟩ := hkk
      have kn := next_lt hw7 hgk
      have k1 : k ≠ hC.next := by omega
      have k2 : k ≠ hC.next + 1 := by omega
      have kq' : k ≠ q := by omega
      have z1 : H.next ≠ q := by omega
      have z2 : H.next ≠ hC.next := by omega
      have z3 : H.next ≠ hC.next + 1 := by omega
      refine ⟨m, by omega, l ++ [e], by simp; omega, b2', d2', ⟨by simpa using hXl, hX2⟩, by omega, ⟨vk, hvk, ?_⟩, v', ?_, by simp, rfl, ?_, fun j x hj => ?_, ?_, by rw [wi]; simp⟩
      · simp only [AHeap.get_set, if_neg kq']
        rw [f3 k (by omega) (by omega), ← hH2]
        simp [k1, k2, hgk]
      · rw [hec, List.length_append]
        exact (f2.keep (fun j x hj hx => by
          have : j ≠ q := by omega
          simp [this, hx])).mono (fun j hj => by omega)
      · rw [if_neg z1, f3 _ (by omega) (by omega), ← hH2]
        simp [z2, z3, hzq]
      · have := next_lt hw hj
        have e1 : j ≠ q := by omega
        have e2 : j ≠ hC.next := by omega
        have e3 : j ≠ hC.next + 1 := by omega
        rw [if_neg e1, f3 _ (by omega) (by omega), ← hH2]
        simp [e2, e3, hfz j x hj]
      · omega
theorem parse_does {H : AHeap} {i : Nat} {cs : List AV} {me n : Nat} (hi : H.get i = some (.cells (.int .i64 me :: .int .i64 n :: cs))) (b1 : me < 2 ^ 62) (b2 : n < 2 ^ 62) {bv : AV} {b : Bs} (hb : BtA bv b) (hl : b.length ≤ 1000000) :
    Does Tryz.prog G 68 [.ptr i 0, bv] H (PrsR (parse me n b) H) := by
  have key : ∀ {H1 : AHeap} {l : List En} {w : AV} {a b c d : Int} {o : Bool}, (∀ j x, H.get j = some x → H1.get j = some x) → CopG H H1 l w → H.Wf → Ghost H.next (.tuple [.agg [.int .u64 a, .int .u64 b, .int .u64 c, .int .u64 d, w], .bool o]) H1 (.tuple [.agg [.int .u64 a, .int .u64 b, .int .u64 c, .int .u64 d, entsV l], .bool o]) H := by
    intro H1 l w a b c d o hs hg hw
    obtain ⟨hg, hg0⟩ := hg
    rcases hg with ⟨h1, _, rfl⟩ | ⟨p, o', cap, op, pre, junk, rfl, a2, a3, a4, a5, a6, a7⟩
    · obtain rfl := List.length_eq_zero_iff.1 h1
      exact Ghost.back hw (by simp [AV.idLt, AV.allLt, entsV]) hs
    · by_cases h0 : l = []
      · exact absurd (hg0 h0) (by simp)
      · have e : AV.frz p (pre ++ (entsC l ++ junk)) (.sl p o' 3 l.length cap op) = entsV l := by
          have : l.isEmpty = false := by simpa using h0
          simp only [AV.frz, if_true, entsV, this, List.drop_left' a4, List.take_left' a5]
          rfl
        have := (Ghost.frz (n := H.next) (r := .tuple [.agg [.int .u64 a, .int .u64 b, .int .u64 c, .int .u64 d, .sl p o' 3 l.length cap op], .bool o]) a3)
        simp only [AV.frz, AV.frzs] at this e
        rw [e] at this
        exact this.trans (Ghost.back hw (by simp [AV.idLt, AV.allLt, entsV_lt]) (AHeap.frz_old hw a2 hs))
  refine Does.wfs fun hw ha => (parse_run hi b1 b2 hb hl).ghost ?_
  rintro r H1 ⟨h1, h2⟩
  generalize parse me n b = o at *
  cases o with
  | none =>
    obtain ⟨a, b, c, d, w, l, h3, rfl⟩ := h1
    exact ⟨_, _, key h2 h3 hw, ⟨a, b, c, d, l, rfl⟩, rfl⟩
  | some x =>
    obtain ⟨w, h3, rfl⟩ := h1
    exact ⟨_, _, key h2 h3 hw, rfl, rfl⟩
end Go.Proofs.YtekbjlihciedjaaGreatDoor

namespace Go.Proofs.YtekbjlihciedjaaGreatDoor
open Go Go.Abs Go.Rp
variable {G : Nat → Option AV}
theorem copies_any {l : List En} {v : AV} (hv : EnF v l) (hl : l.length ≤ 1000000) (hr : ∀ e ∈ l, e.l.length ≤ 1000000) (H : AHeap) :
    ∃ w H2, Does Tryz.prog G 72 [v] H (fun r h => r = w ∧ h = H2) ∧ CopG H H2 l w ∧ (∀ j, j < H.next → H2.get j = H.get j) ∧ H.next ≤ H2.next := by
  by_cases h0 : l = []
  · subst h0
    exact ⟨.nilsl, H, copies_does hv hl hr H, ⟨.inl ⟨rfl, rfl, rfl⟩, fun _ => rfl⟩, fun _ _ => rfl, Nat.le_refl _⟩
  · have hp : 0 < l.length := List.length_pos_iff.2 h0
    refine ⟨_, _, copies_x hv hl hp hr H, ⟨.inr ⟨_, 0, _, true, [], [], rfl, by omega, ?_, rfl, entsC_len l, by simp, Nat.le_refl _⟩, fun h => absurd h h0⟩, fun j hj => ?_, by simp only [AHeap.skip]; omega⟩
    · simp [AHeap.skip]
    · simp only [AHeap.skip]
      rw [if_neg (by omega)]
theorem entsC_sc : ∀ l : List En, (entsC l).all AV.scalar = true
  | [] => rfl
  | e :: l => by
    have := entsC_sc l
    have h2 := (RowA.rowV e.row).sc
    have e1 : entsC (e :: l) = [.int .u64 e.id, .int .u64 e.view, rowV e.row] ++ entsC l := rfl
    rw [e1, List.all_append, this]
    simp [h2]
theorem app_ents {H : AHeap} {l x : List En} {w u : AV} {b : Nat → Prop} (h : Gr H 3 l.length (entsC l) w b) (hu : EnF u x) (h1 : l.length ≤ 1000000) (h2 : x.length ≤ 1000000) {nx : Nat} (hnx : nx = H.next) :
    ∃ v' eff, aappend Tryz.prog 48 48 H.get nx w u = some (v', eff) ∧ Gr (H.eff eff) 3 (l ++ x).length (entsC (l ++ x)) v' (fun j => b j ∨ j = H.next) ∧ (∀ j, ¬ b j → j ≠ H.next → (H.eff eff).get j = H.get j) ∧ H.next ≤ (H.eff eff).next := by
  subst hnx
  by_cases h0 : x = []
  · subst h0
    rcases h with ⟨a1, a2, rfl⟩ | ⟨p, o, cap, op, pre, junk, rfl, a2, a3, a4, a5, a6, a7⟩
    · refine ⟨.nilsl, .same, ?_, .inl (by simp [a1, a2]), fun j _ _ => rfl, Nat.le_refl _⟩
      rcases hu with ⟨rfl, _⟩ | ⟨ts, rfl⟩ <;> simp [aappend, afirst, alenOf]
    · have hs : AHeap.set H p (.cells (pre ++ (entsC l ++ junk))) = H := by
        obtain ⟨nn, gg⟩ := H
        simp only [AHeap.set]
        congr 1
        funext j
        split
        · rename_i e
          rw [e]; exact a3.symm
        · rfl
      refine ⟨.sl p o 3 l.length cap op, .put p (.cells (pre ++ (entsC l ++ junk))), ?_, ?_, fun j _ _ => by simp only [AHeap.eff, hs], by simp [AHeap.eff]⟩
      · have c1 : o + l.length * 3 ≤ pre.length + (entsC l ++ junk).length := by simp [a4, a5]
        rcases hu with ⟨rfl, _⟩ | ⟨ts, rfl⟩ <;> simp [aappend, afirst, alenOf, splice_nil, a3, a7] <;> omega
      · simp only [AHeap.eff, hs, List.append_nil]
        exact .inr ⟨p, o, cap, op, pre, junk, rfl, .inl a2, a3, a4, a5, a6, a7⟩
  · have hp : 0 < x.length := List.length_pos_iff.2 h0
    obtain ⟨ts, rfl⟩ := hu.vsl hp
    have := h.app elemEn (m := x.length) (x := .vsl (entsC x ++ ts) x.length) (news := entsC x) (fun _ _ e => by cases e) rfl (by simp only [afirst]; rw [show x.length * 3 = (entsC x).length by rw [entsC_len]]; simp) (entsC_sc x) (entsC_len x) hp (by omega) (by omega) (by omega) (nx := H.next) rfl
    rw [← entsC_append, ← List.length_append] at this
    exact this
theorem slice_take {v : AV} {l : List En} (h : EnF v l) {n : Nat} (hn : n ≤ l.length) : ∃ w, EnF w (l.take n) ∧ aslice Tryz.prog 48 v none (some (.int .i64 n)) none = some w := by
  obtain ⟨w, hw, hx⟩ := h.take n hn
  rcases hx with ⟨rfl, rfl⟩ | ⟨C, rfl, rfl⟩
  · have e0 : l = [] := by
      rcases h with ⟨_, h⟩ | ⟨ts, h⟩
      · exact h
      · cases h
    subst e0
    have : n = 0 := by simpa using hn
    subst this
    exact ⟨.nilsl, hw, by simp [aslice]⟩
  · refine ⟨_, hw, ?_⟩
    by_cases h0 : 0 < l.length
    · simp [aslice, h0, hn]
    · have e0 : l.length = 0 := by omega
      have : n = 0 := by omega
      subst this
      simp [aslice, e0]
def csC (me n : Nat) (c : Cs) (lv : AV) (rest : List AV) : List AV := .int .i64 me :: .int .i64 n :: .int .u64 c.view :: .int .u64 c.last :: lv :: .int .i64 c.agreed :: rest
structure CsOk (c : Cs) : Prop where
  list : c.list.length ≤ 200
  rows : ∀ e ∈ c.list, e.l.length ≤ 1000000
  agreed : c.agreed ≤ c.list.length
structure RcOk (x : Rc) : Prop where
  list : x.list.length ≤ 200
  rows : ∀ e ∈ x.list, e.l.length ≤ 1000000
  agreed : x.agreed < 2 ^ 64
def rcV (x : Rc) : AV := .agg [.int .u64 x.kind, .int .u64 x.view, .int .u64 x.last, .int .u64 x.agreed, entsV x.list]
def ApG (o : Option Cs) (H : AHeap) (i me n : Nat) (rest : List AV) (r : AV) (h : AHeap) : Prop := match o with
  | none => r = .bool false ∧ ∀ j y, H.get j = some y → h.get j = some y
  | some c => r = .bool true ∧ ∃ lw, (∀ j y, j ≠ i → H.get j = some y → h.get j = some y) ∧ h.get i = some (.cells (csC me n c lw rest)) ∧ (EnF lw c.list ∨ Gr h 3 c.list.length (entsC c.list) lw (fun j => H.next ≤ j)) ∧ H.next ≤ h.next
set_option maxHeartbeats 8000000 in
set_option maxRecDepth 100000 in
theorem apply_run {H : AHeap} {i me n : Nat} {c : Cs} {lv : AV} {rest : List AV} (hi : H.get i = some (.cells (csC me n c lv rest))) (hlv : EnF lv c.list) (hc : CsOk c) {x : Rc} (hx : RcOk x) (hr5 : rest.length = 5) :
    Does Tryz.prog G 69 [.ptr i 0, rcV x] H (ApG (apply c x) H i me n rest) := by
  refine Does.wf Tryz.call69 fun hw _ => ?_
  have hin := next_lt hw hi
  refine does_f Tryz.call69 Tryz.func69 rfl (by simp [Tryz.f69]) ?_
  have e1 : i ≠ H.next := by omega
  have xv := EnF.entsV x.list
  have xs := xv.sc
  have xc := xv.cells
  have xl : alen Tryz.prog 48 (entsV x.list) = some (.int .i64 x.list.length) := xv.alen (e := 62) (by simp)
  have ls := hlv.sc
  have lc := hlv.cells
  unfold csC at hi
  have hg2 : ∀ {h : AHeap} {X : AObj}, h = (H.push X) → ∀ j y, H.get j = some y → h.get j = some y := fun {h X} e j y hj => by
    have := next_lt hw hj
    have e : j ≠ H.next := by omega
    simp [e, hj, *]
  have hg3 : ∀ {X Y : AObj}, ∀ j y, j ≠ i → H.get j = some y → ((H.push X).set i Y).get j = some y := fun {X Y} j y hji hj => by
    have := next_lt hw hj
    have e : j ≠ H.next := by omega
    simp [e, hj, hji]
  have hg4 : ∀ {X Y : AObj}, ∀ j y, ¬ j = i → H.get j = some y → (if j = i then some X else if j = H.next then some Y else H.get j) = some y := fun {X Y} j y hji hj => by
    have := next_lt hw hj
    have e : j ≠ H.next := by omega
    simp [e, hj, hji]
  have hrr : ∃ r0 r1 r2 r3 r4, rest = [r0, r1, r2, r3, r4] := by
    match rest, hr5 with
    | [a, b, c, d, e], _ => exact ⟨a, b, c, d, e, rfl⟩
  obtain ⟨r0, r1, r2, r3, r4, rfl⟩ := hrr
  obtain ⟨O, hA⟩ : ∃ O, O = apply c x := ⟨_, rfl⟩
  rw [← hA]
  unfold apply at hA
  simp [rcV, xs, xc]
  by_cases k1 : x.kind = 1
  · have k1' : (x.kind : Int) = 1 := by omega
    simp only [k1, if_true] at hA
    simp [k1, k1', xs, xc]
    by_cases v1 : x.view < c.view
    · have v1' : (x.view : Int) < c.view := by omega
      refine aw_drawn [(1, 0), (5, 0)] mixedOrdR (by kernel_rfl) ?_
      intro es hes
      simp [hi, e1, v1, v1', xs, xc]
      refine ⟨by subst hes; exact ⟨by kernel_rfl, by kernel_rfl⟩, by simp [rds, heapF, hi, e1], ?_⟩
      simp [v1] at hA
      simp [ApG, hA]
      exact hg2 rfl
    · have v1' : ¬ (x.view : Int) < c.view := by omega
      refine aw_drawn [(1, 0), (5, 0), (9, 0)] mixedOrdR (by kernel_rfl) ?_
      intro es hes
      simp [hi, e1, v1, v1', xs, xc, xl, -alen]
      refine ⟨by subst hes; exact ⟨by kernel_rfl, by kernel_rfl⟩, by simp [rds, heapF, hi, e1, xs, xc], ?_⟩
      by_cases z : 0 < x.list.length
      · have z' : (0 : Int) < x.list.length := by omega
        simp [v1, z] at hA
        simp [z, z', ApG, hA]
        exact hg2 rfl
      · have z' : ¬ (0 : Int) < x.list.length := by omega
        simp [v1, z] at hA
        simp [z, z', ApG, hA, hi, e1, ls, lc, csC]
        exact ⟨hg4, .inl hlv⟩
  by_cases k2 : x.kind = 2
  · have k2' : (x.kind : Int) = 2 := by omega
    simp only [k2, if_true] at hA
    simp [k2, k2', xs, xc]
    by_cases v1 : x.view < c.view
    · have v1' : (x.view : Int) < c.view := by omega
      refine aw_drawn [(1, 0), (5, 0)] mixedOrdR (by kernel_rfl) ?_
      intro es hes
      simp [hi, e1, v1, v1', xs, xc]
      refine ⟨by subst hes; exact ⟨by kernel_rfl, by kernel_rfl⟩, by simp [rds, heapF, hi, e1], ?_⟩
      simp [v1] at hA
      simp [ApG, hA]
      exact hg2 rfl
    have v1' : ¬ (x.view : Int) < c.view := by omega
    by_cases v2 : x.view < c.last
    · have v2' : (x.view : Int) < c.last := by omega
      refine aw_drawn [(1, 0), (5, 0), (9, 0), (13, 0)] mixedOrdR (by kernel_rfl) ?_
      intro es hes
      simp [hi, e1, v1, v1', v2, v2', xs, xc]
      refine ⟨by subst hes; exact ⟨by kernel_rfl, by kernel_rfl⟩, by simp [rds, heapF, hi, e1], ?_⟩
      simp [v1, v2] at hA
      simp [ApG, hA]
      exact hg2 rfl
    have v2' : ¬ (x.view : Int) < c.last := by omega
    obtain ⟨w, hw', hsl⟩ := slice_take hlv hc.agreed
    refine aw_drawn [(1, 0), (5, 0), (9, 0), (13, 0), (18, 0), (22, 0), (26, 0)] mixedOrdR (by kernel_rfl) ?_
    intro es hes
    simp [adf_stop, -adf_cons, hi, e1, v1, v1', v2, v2', xs, xc, ls, lc, hsl, -aslice]
    refine ⟨_, _, begins_does xv hw' (by have := hx.list; omega) hx.rows _, Nat.le_refl _, ?_⟩
    obtain ⟨B, hB⟩ : ∃ B, B = begins x.list (c.list.take c.agreed) := ⟨_, rfl⟩
    rw [← hB] at hA ⊢
    refine ad_go (fun T' => T' 0 = .ptr i 0 ∧ T' 3 = .ptr H.next 0 ∧ T' 46 = .bool false ∧ T' 58 = .bool B) (by simp [v1, v1', v2, v2']) ?_
    rintro T1 ⟨a0, a3, a46, a58⟩
    cases B with
    | false =>
      simp [adf_stop, -adf_cons, a0, a3, a46, a58, hi, e1, xs, xc, ls, lc]
      refine ⟨by subst hes; exact ⟨by kernel_rfl, by kernel_rfl⟩, by simp [rds, heapF, hi, e1, xs, xc, ls, lc], ?_⟩
      simp [v1, v2] at hA
      simp [ApG, hA]
      exact hg2 rfl
    | true =>
      simp [adf_stop, -adf_cons, a0, a3, a46, a58, hi, e1, xs, xc, ls, lc]
      refine ⟨by subst hes; exact ⟨by kernel_rfl, by kernel_rfl⟩, by simp [rds, heapF, hi, e1, xs, xc, ls, lc], ?_⟩
      simp [v1, v2] at hA
      refine aw_drawn [(4, 0), (6, 0), (6, 12), (8, 0), (8, 12), (8, 15)] mixedOrdR (by kernel_rfl) ?_
      intro es hes
      simp [a0, a3, hi, e1, xs, xc, ls, lc]
      refine ⟨by subst hes; exact ⟨by kernel_rfl, by kernel_rfl⟩, by simp [rds, heapF, hi, e1, e1.symm, xs, xc, ls, lc], ?_⟩
      simp [ApG, hA, hi, e1, xs, xc, ls, lc, csC]
      exact ⟨hg4, .inl xv⟩
  by_cases k3 : x.kind = 3
  · have k3' : (x.kind : Int) = 3 := by omega
    simp [k3] at hA
    simp [k3, k3', xs, xc]
    obtain ⟨w, H2, hcp, hcg, hco, hcn⟩ := copies_any (G := G) hlv (by have := hc.list; omega) hc.rows (H.push (.cells [.int .u64 3, .int .u64 x.view, .int .u64 x.last, .int .u64 x.agreed, entsV x.list]))
    obtain ⟨v', eff, f1, f2, f3, f4⟩ := app_ents hcg.1 xv (by have := hc.list; omega) (by have := hx.list; omega) (nx := H2.next) rfl
    simp only [AHeap.next_push] at hco hcn f2
    have q1 : H2.get i = _ := (hco i (by omega)).trans (by simp [e1, hi]; rfl)
    have q2 : H2.get H.next = _ := (hco H.next (by omega)).trans (by simp; rfl)
    have ws := hcg.1.sc
    have wc := hcg.1.cells
    refine aw_drawn [(3, 0), (6, 0), (6, 5)] mixedOrdR (by kernel_rfl) ?_
    intro es hes
    simp [adf_stop, -adf_cons, hi, e1, ls, lc]
    refine ⟨_, _, hcp, by simpa using hcn, ?_⟩
    refine ad_go (fun T' => T' 0 = .ptr i 0 ∧ T' 3 = .ptr H.next 0 ∧ T' 82 = w) (by simp) ?_
    rintro T1 ⟨a0, a3, a82⟩
    simp [adf_stop, -adf_cons, a0, a3, a82, q1, q2, xs, xc, ws, wc, -aappend]
    rw [f1]
    simp [adf_stop, -adf_cons, a0, a3, a82, q1, q2, xs, xc, ws, wc, -aappend]
    refine ⟨by subst hes; exact ⟨by kernel_rfl, by kernel_rfl⟩, by simp [rds, heapF, hi, e1, e1.symm, xs, xc, ls, lc, q1, q2], ?_⟩
    have vs := f2.sc
    have vc := f2.cells
    have hk2 : ∀ j y, H.get j = some y → (H2.eff eff).get j = some y := fun j y hj => by
      have := next_lt hw hj
      rw [f3 j (by simp; omega) (by omega), hco j (by omega)]
      have e : j ≠ H.next := by omega
      simp [e, hj]
    have q3 := hk2 i _ hi
    refine does_use (listed_live f2 (by simp; have := hc.list; have := hx.list; omega)) ?_
    rintro r h ⟨rfl, rfl⟩
    obtain ⟨B, hB⟩ : ∃ B, B = listed (c.list ++ x.list) := ⟨_, rfl⟩
    rw [← hB] at hA ⊢
    cases B with
    | false =>
      simp at hA
      simp [ApG, hA]
      exact hk2
    | true =>
      simp at hA
      simp [a0, a3, q3, ls, lc, vs, vc, ApG, hA, csC]
      refine ⟨fun j y hji hj => ?_, .inr ?_, by omega⟩
      · rw [if_neg hji]; exact hk2 j y hj
      · have f2' := f2.mono (b' := fun j => H.next ≤ j) (fun j hj => by omega)
        rw [List.length_append] at f2'
        refine f2'.keep fun j y hj hy => ?_
        have : j ≠ i := by omega
        simp [this, hy]
  by_cases k4 : x.kind = 4
  · have k4' : (x.kind : Int) = 4 := by omega
    have wl : IntKind.u64.wrap (x.list.length : Int) = x.list.length := IntWalk.u64_in _ (by have := hx.list; omega)
    rw [if_neg k1, if_neg k2, if_neg k3, if_pos k4] at hA
    simp [k4, k4', xs, xc, xl, wl, -alen]
    by_cases z : x.list.length < x.agreed
    · have z' : (x.list.length : Int) < x.agreed := by omega
      rw [if_pos z] at hA
      simp [z, z', ApG, hA]
      exact hg2 rfl
    · have z' : ¬ (x.list.length : Int) < x.agreed := by omega
      rw [if_neg z] at hA
      have wa : IntKind.i64.wrap (x.agreed : Int) = x.agreed := IntWalk.i64_in _ (by have := hx.list; omega)
      simp [z, z']
      refine aw_drawn [(5, 0), (7, 0), (7, 16), (9, 0), (9, 16), (9, 19), (12, 0), (12, 16), (12, 19), (12, 22)] mixedOrdR (by kernel_rfl) ?_
      intro es hes
      simp [hi, e1, xs, xc, ls, lc, wa]
      refine ⟨by subst hes; exact ⟨by kernel_rfl, by kernel_rfl⟩, by simp [rds, heapF, hi, e1, e1.symm, xs, xc, ls, lc], ?_⟩
      simp [ApG, hA, hi, e1, xs, xc, ls, lc, csC]
      exact ⟨hg4, .inl xv⟩
  have k1' : ¬ (x.kind : Int) = 1 := by omega
  have k2' : ¬ (x.kind : Int) = 2 := by omega
  have k3' : ¬ (x.kind : Int) = 3 := by omega
  have k4' : ¬ (x.kind : Int) = 4 := by omega
  simp [k1, k2, k3, k4] at hA
  simp [k1', k2', k3', k4', xs, xc, ApG, hA]
  exact hg2 rfl
def ApR (o : Option Cs) (H : AHeap) (i me n : Nat) (rest : List AV) (r : AV) (h : AHeap) : Prop := match o with
  | none => r = .bool false ∧ h = H
  | some c => r = .bool true ∧ ∃ lw, EnF lw c.list ∧ h.get i = some (.cells (csC me n c lw rest)) ∧ ∀ j y, j ≠ i → H.get j = some y → h.get j = some y
theorem apply_does {H : AHeap} {i me n : Nat} {c : Cs} {lv : AV} {rest : List AV} (hi : H.get i = some (.cells (csC me n c lv rest))) (hlv : EnF lv c.list) (hc : CsOk c) {x : Rc} (hx : RcOk x) (hr5 : rest.length = 5) :
    Does Tryz.prog G 69 [.ptr i 0, rcV x] H (ApR (apply c x) H i me n rest) := by
  refine Does.wfs fun hw ha => (apply_run hi hlv hc hx hr5).ghost ?_
  intro r H1 h1
  have hin := next_lt hw hi
  cases hap : apply c x with
  | none =>
    rw [hap] at h1
    obtain ⟨rfl, h2⟩ := h1
    exact ⟨_, H, Ghost.back hw rfl h2, rfl, rfl⟩
  | some c' =>
    rw [hap] at h1
    obtain ⟨rfl, lw, h2, h3, h4, h5⟩ := h1
    rcases h4 with h4 | ⟨_, a2, rfl⟩ | ⟨p, o, cap, op, pre, junk, rfl, a2, a3, a4, a5, a6, a7⟩
    · exact ⟨_, _, Ghost.refl, rfl, lw, h4, h3, h2⟩
    · refine ⟨_, _, Ghost.refl, rfl, .nilsl, .inl ⟨rfl, ?_⟩, h3, h2⟩
      have := entsC_len c'.list
      rw [a2] at this
      simp at this
      exact List.length_eq_zero_iff.1 (by omega)
    · have e : AV.frz p (pre ++ (entsC c'.list ++ junk)) (.sl p o 3 c'.list.length cap op) = .vsl (entsC c'.list) c'.list.length := by
        simp only [AV.frz, if_true, List.drop_left' a4, List.take_left' a5]
      refine ⟨_, _, Ghost.frz a3, rfl, _, .inr ⟨[], by rw [List.append_nil]⟩, ?_, fun j y hj hy => frz_old1 hw a2 hy (h2 j y hj hy)⟩
      rw [frz_get h3 (by omega)]
      have := (hw i _ hi).2
      simp only [AObj.cellsList, csC, AV.allLt, Bool.and_eq_true] at this
      simp only [csC, AV.frzs, AV.frzs_lt a2 _ this.2.2.2.2.2.2, e]
      rfl
end Go.Proofs.YtekbjlihciedjaaGreatDoor

namespace Go.Proofs.YtekbjlihciedjaaGreatDoor
open Go Go.Abs Go.Rp
variable {G : Nat → Option AV}
def BsF (v : AV) (l : List Bs) : Prop := (v = .nilsl ∧ l = []) ∨ ∃ vs ts, v = .vsl (vs ++ ts) l.length ∧ Bts vs l
@[simp] theorem cells_map (g : Nat) : (AV.map g).cells = [.map g] := rfl
@[simp] theorem scalar_map (g : Nat) : (AV.map g).scalar = true := rfl
set_option maxHeartbeats 2000000 in
set_option maxRecDepth 100000 in
theorem follow_does {H : AHeap} {i : Nat} {a0 a1 a2 a3 a4 a5 a6 a7 a8 a9 a10 : AV} (hi : H.get i = some (.cells [a0, a1, a2, a3, a4, a5, a6, a7, a8, a9, a10])) (hin : i < H.next) :
    Does Tryz.prog G 53 [.ptr i 0] H fun r h => r = .tuple [] ∧ h = ((H.push (.map [])).push (.map [])).set i (.cells [a0, a1, a2, a3, a4, a5, .bool false, .int .i64 0, .map H.next, .map (H.next + 1), a10]) := by
  refine does_f Tryz.call53 Tryz.func53 rfl (by simp [Tryz.f53]) ?_
  have e1 : i ≠ H.next := by omega
  have e2 : i ≠ H.next + 1 := by omega
  simp [hi, e1, e2]
  obtain ⟨nn, gg⟩ := H
  simp only [AHeap.push, AHeap.set, AHeap.mk.injEq, true_and]
  funext j
  by_cases e : j = i
  · simp [e]
  · simp [e]
def coOf (me n : Nat) (c : Cs) : Co := ⟨me, n, c.view, c.last, c.list, c.agreed, false, 0, [], [], []⟩
def CoR (H : AHeap) (i g : Nat) (me n : Nat) (c : Cs) : Prop := ∃ lv, H.get i = some (.cells (csC me n c lv [.bool false, .int .i64 0, .map g, .map (g + 1), .nilsl])) ∧ EnF lv c.list ∧ H.get g = some (.map []) ∧ H.get (g + 1) = some (.map []) ∧ i ≠ g ∧ i ≠ g + 1
set_option maxHeartbeats 2000000 in
set_option maxRecDepth 100000 in
theorem coNew_does {me n : Nat} (h1 : me < n) (h2 : n % 2 = 1) (h3 : n ≤ 7) (H : AHeap) :
    Does Tryz.prog G 29 [.int .i64 me, .int .i64 n] H fun r h => r = .tuple [.ptr H.next 0, .int .i64 0] ∧ CoR h H.next (H.next + 1) me n ⟨0, 0, [], 0⟩ ∧ ∀ j y, H.get j = some y → h.get j = some y := by
  refine Does.wf Tryz.call29 fun hw _ => ?_
  refine does_f Tryz.call29 Tryz.func29 rfl (by simp [Tryz.f29]) ?_
  have c1 : ¬ (n : Int) < 1 := by omega
  have c2 : ¬ (7 : Int) < n := by omega
  have c3 : (n : Int).tmod 2 = 1 := by
    have : n = 1 ∨ n = 3 ∨ n = 5 ∨ n = 7 := by omega
    rcases this with rfl | rfl | rfl | rfl <;> decide
  have c4 : ¬ (me : Int) < 0 := by omega
  have c5 : ¬ (n : Int) ≤ me := by omega
  simp [c1, c2, c3, c4, c5]
  refine does_usew (follow_does (i := H.next) (if_pos rfl) (by simp)) ?_
  rintro r h ⟨rfl, rfl⟩ hw1 _
  simp
  refine ⟨⟨.nilsl, by simp [csC], .inl ⟨rfl, rfl⟩, by simp, by simp; omega, by simp, by simp; omega⟩, fun j y hj => ?_⟩
  have := next_lt hw hj
  have q1 : j ≠ H.next := by omega
  have q2 : j ≠ H.next + 1 := by omega
  have q3 : j ≠ H.next + 1 + 1 := by omega
  simp [q1, q2, q3, hj]
theorem fresh_rows : ∀ (l : List En) (s : List Nat), fresh s l = true → ∀ e ∈ l, e.l.length ≤ 16
  | [], _, _, e, he => by simp at he
  | a :: l, s, h, e, he => by
    simp only [fresh, may, Bool.and_eq_true, decide_eq_true_eq] at h
    rcases List.mem_cons.1 he with rfl | he
    · exact h.1.1.2
    · exact fresh_rows l _ h.2 e he
theorem listed_ok {l : List En} (h : listed l = true) : l.length ≤ 200 ∧ ∀ e ∈ l, e.l.length ≤ 1000000 := by
  simp only [listed, Bool.and_eq_true, decide_eq_true_eq] at h
  exact ⟨h.2, fun e he => by have := fresh_rows l _ h.1 e he; omega⟩
theorem parse_ok {me n : Nat} {b : Bs} {x : Rc} (h : parse me n b = some x) (hl : b.length ≤ 1000000) : RcOk x ∧ listed x.list = true := by
  unfold parse at h
  obtain ⟨u1, R1, e1⟩ : ∃ u R, (Rd.mk b false).U = (u, R) := ⟨_, _, rfl⟩
  obtain ⟨u2, R2, e2⟩ : ∃ u R, R1.U = (u, R) := ⟨_, _, rfl⟩
  obtain ⟨u3, R3, e3⟩ : ∃ u R, R2.U = (u, R) := ⟨_, _, rfl⟩
  obtain ⟨u4, R4, e4⟩ : ∃ u R, R3.U = (u, R) := ⟨_, _, rfl⟩
  obtain ⟨u5, R5, e5⟩ : ∃ u R, R4.U = (u, R) := ⟨_, _, rfl⟩
  obtain ⟨u6, R6, e6⟩ : ∃ u R, R5.U = (u, R) := ⟨_, _, rfl⟩
  obtain ⟨u7, R7, e7⟩ : ∃ u R, R6.U = (u, R) := ⟨_, _, rfl⟩
  have f1 := rdU_b e1 (by simpa using hl)
  have f2 := rdU_b e2 f1.2
  have f3 := rdU_b e3 f2.2
  have f4 := rdU_b e4 f3.2
  have f5 := rdU_b e5 f4.2
  have f6 := rdU_b e6 f5.2
  simp only [e1, e2, e3, e4, e5, e6, e7] at h
  split at h
  · cases h
  · split at h
    · cases h
    · split at h
      · rename_i hh
        simp only [Option.some.injEq] at h
        subst h
        have := listed_ok hh.2.2.2.2
        exact ⟨⟨this.1, this.2, by simp only; omega⟩, hh.2.2.2.2⟩
      · cases h
theorem apply_ok {c c' : Cs} {x : Rc} (h : apply c x = some c') (hc : listed c.list = true ∧ c.agreed ≤ c.list.length) (hx : listed x.list = true) : listed c'.list = true ∧ c'.agreed ≤ c'.list.length := by
  unfold apply at h
  split at h
  · split at h
    · cases h
    · cases h; exact hc
  · split at h
    · split at h
      · cases h
      · rename_i hh
        cases h
        refine ⟨hx, ?_⟩
        simp only [not_or, begins, Bool.not_eq_false, Bool.and_eq_true, decide_eq_true_eq, List.length_take] at hh
        simp only
        omega
    · split at h
      · split at h
        · rename_i hh
          cases h
          exact ⟨hh, by simp; omega⟩
        · cases h
      · split at h
        · split at h
          · cases h
          · cases h; exact ⟨hx, by simp only; omega⟩
        · cases h
theorem opened_ok {me n : Nat} : ∀ {l : List Bs} {c c' : Cs}, opened me n c l = some c' → (∀ b ∈ l, b.length ≤ 1000000) → listed c.list = true ∧ c.agreed ≤ c.list.length → listed c'.list = true ∧ c'.agreed ≤ c'.list.length
  | [], c, c', h, _, hc => by simp only [opened, Option.some.injEq] at h; subst h; exact hc
  | b :: l, c, c', h, hl, hc => by
    simp only [opened] at h
    split at h
    · cases h
    · rename_i x hx
      split at h
      · cases h
      · rename_i c1 h1
        exact opened_ok h (fun b hb => hl b (by simp [hb])) (apply_ok h1 hc (parse_ok hx (hl b (by simp))).2)
theorem BsF.alen {v : AV} {l : List Bs} (h : BsF v l) : Go.Abs.alen Tryz.prog 87 v = some (.int .i64 l.length) := by
  rcases h with ⟨rfl, rfl⟩ | ⟨vs, ts, rfl, _⟩ <;> simp [Go.Abs.alen]
def OpR (o : Option Cs) (H : AHeap) (me n : Nat) (r : AV) (h : AHeap) : Prop := match o with
  | none => r = .tuple [.nilptr, .int .i64 3] ∧ h = H
  | some c => ∃ i, r = .tuple [.ptr i 0, .int .i64 0] ∧ H.next ≤ i ∧ (∃ g, H.next ≤ g ∧ CoR h i g me n (if n = 1 then { c with agreed := c.list.length } else c)) ∧ ∀ j y, H.get j = some y → h.get j = some y
set_option maxHeartbeats 4000000 in
set_option maxRecDepth 100000 in
theorem coOpen_run {me n : Nat} (h1 : me < n) (h2 : n % 2 = 1) (h3 : n ≤ 7) {v : AV} {l : List Bs} (hv : BsF v l) (hlen : l.length ≤ 1000000) (hl : ∀ b ∈ l, b.length ≤ 1000000) (H : AHeap) :
    Does Tryz.prog G 35 [.int .i64 me, .int .i64 n, v] H fun r h => match opened me n ⟨0, 0, [], 0⟩ l with
      | none => r = .tuple [.nilptr, .int .i64 3] ∧ ∀ j y, H.get j = some y → h.get j = some y
      | some _ => OpR (opened me n ⟨0, 0, [], 0⟩ l) H me n r h := by
  refine Does.wf Tryz.call35 fun hw _ => ?_
  refine does_f Tryz.call35 Tryz.func35 rfl (by simp [Tryz.f35]) ?_
  have hal := hv.alen
  obtain ⟨O, hO⟩ : ∃ O, O = opened me n ⟨0, 0, [], 0⟩ l := ⟨_, rfl⟩
  rw [← hO]
  simp [hal, -alen]
  refine does_usew (coNew_does h1 h2 h3 _) ?_
  rintro r H1 ⟨rfl, hc0, hk0⟩ hw1 _
  simp [hal, -alen]
  refine aws_loopw (fun k T' H' => ∃ j c, j + k = l.length ∧ O = opened me n c (l.drop j) ∧ listed c.list = true ∧ c.agreed ≤ c.list.length ∧ CoR H' H.next (H.next + 1) me n c ∧ (∀ j y, H.get j = some y → H'.get j = some y) ∧ 
    T' 8 = .ptr H.next 0 ∧ T' 1 = .int .i64 n ∧ T' 23 = v ∧ T' 24 = .int .i64 l.length ∧ T' 25 = .int .i64 j) l.length ?_ ?_
  · exact ⟨0, ⟨0, 0, [], 0⟩, by simp, by simpa using hO, by decide, by simp, hc0, hk0, by simp, by simp, by simp, by simp, by simp⟩
  rintro k T H' ⟨j, c, hjk, hOc, hls, hag, hcr, hk, t8, t1, t23, t24, t25⟩ hw2 _
  obtain ⟨lv, q1, q2, q3, q4, q5, q6⟩ := hcr
  by_cases hj : j < l.length
  · have hjj : (j : Int) < l.length := by omega
    have hd : l.drop j = l[j] :: l.drop (j + 1) := List.drop_eq_getElem_cons hj
    have hm : l[j] ∈ l := List.getElem_mem hj
    have hlb := hl _ hm
    obtain ⟨vs, ts, hvv, hvs⟩ : ∃ vs ts, v = .vsl (vs ++ ts) l.length ∧ Bts vs l := by
      rcases hv with ⟨_, rfl⟩ | h
      · simp at hj
      · exact h
    obtain ⟨bv, hb1, hb2⟩ := hvs.get (n := j) (List.getElem?_eq_getElem hj)
    have hvl := hvs.len
    have hb3 : (vs ++ ts)[j]? = some bv := by rw [List.getElem?_append_left (by omega)]; exact hb1
    rw [hd] at hOc
    generalize l[j] = b at *
    rw [hvv] at t23
    have wr : IntKind.i64.wrap ((j : Int) + 1) = ((j + 1 : Nat) : Int) := by rw [IntWalk.i64_in _ (by omega)]; omega
    have bs := hb2.sc
    have bc := hb2.cells
    simp [t8, t1, t23, t24, t25, hj, hjj, hb3, bs, bc]
    refine does_usew (parse_does q1 (by omega) (by omega) hb2 hlb) ?_
    rintro r h ⟨hr, rfl⟩ hw3 _
    simp only [opened] at hOc
    cases hp : parse me n b with
    | none =>
      rw [hp] at hr hOc
      obtain ⟨a1, a2, a3, a4, l', rfl⟩ := hr
      have ls := (EnF.entsV l').sc
      have lc := (EnF.entsV l').cells
      simp only at hOc
      simp [t8, ls, lc, hOc]
      intro j y hj
      have := hk j y hj
      have e : j ≠ h.next := by have := next_lt hw3 this; omega
      simp [e, this]
    | some x =>
      rw [hp] at hr hOc
      simp only at hOc hr
      subst hr
      obtain ⟨px, pl⟩ := parse_ok hp hlb
      have ls := (EnF.entsV x.list).sc
      have lc := (EnF.entsV x.list).cells
      simp [t8, ls, lc]
      have hlo := listed_ok hls
      have hin := next_lt hw3 q1
      have e0 : H.next ≠ h.next := by omega
      refine does_usew (apply_does (i := H.next) (me := me) (n := n) (c := c) (lv := lv) (rest := [.bool false, .int .i64 0, .map (H.next + 1), .map (H.next + 1 + 1), .nilsl]) (x := x) (by simp [e0, q1]) q2 ⟨hlo.1, hlo.2, hag⟩ px rfl) ?_
      rintro r h2 hr hw4 _
      have k0 : ∀ j y, H.get j = some y → h.get j = some y := hk
      cases ha : apply c x with
      | none =>
        rw [ha] at hr hOc
        obtain ⟨rfl, rfl⟩ := hr
        simp only at hOc
        simp [t8, hOc]
        intro j y hj
        have := k0 j y hj
        have e : j ≠ h.next := by have := next_lt hw3 this; omega
        simp [e, this]
      | some c' =>
        rw [ha] at hr hOc
        obtain ⟨rfl, lw, g1, g2, g3⟩ := hr
        have ok := apply_ok ha ⟨hls, hag⟩ pl
        simp [t1, t8, t23, t24, t25]
        have hkeep : ∀ y z, y ≠ H.next → h.get y = some z → h2.get y = some z := fun y z hy hz => g3 y z hy (by
          have e : y ≠ h.next := by have := next_lt hw3 hz; omega
          simp [e, hz])
        refine ⟨k - 1, by omega, j + 1, by omega, c', hOc, ok.1, ok.2, ⟨lw, g2, g1, hkeep _ _ (by omega) q3, hkeep _ _ (by omega) q4, by omega, by omega⟩, fun y z hy => hkeep y z (by have := next_lt hw hy; omega) (k0 y z hy), hvv.symm, wr⟩
  · have hjl : j = l.length := by omega
    subst hjl
    rw [List.drop_length] at hOc
    simp only [opened] at hOc
    have hlo := listed_ok hls
    have hll : alen Tryz.prog 48 lv = some (.int .i64 c.list.length) := q2.alen (e := 62) (by simp)
    have ls := q2.sc
    have lc := q2.cells
    simp only [csC] at q1
    by_cases hn : n = 1
    · subst hn
      simp [t8, t1, t23, t24, t25, hOc, OpR, q1, csC, hll, ls, lc, -alen]
      refine ⟨⟨H.next + 1, by omega, lv, by simp [csC], q2, ?_, ?_, by omega, by omega⟩, fun j y hj => ?_⟩
      · simp [q3]
      · have : ¬ H.next + 1 + 1 = H.next := by omega
        simp [this, q4]
      · have : j ≠ H.next := by have := next_lt hw hj; omega
        simp [this, hk j y hj]
    · have hn' : ¬ (n : Int) = 1 := by omega
      simp [t8, t1, t23, t24, t25, hOc, OpR, hn, hn']
      exact ⟨⟨H.next + 1, by omega, lv, q1, q2, q3, q4, by omega, by omega⟩, hk⟩
theorem coOpen_does {me n : Nat} (h1 : me < n) (h2 : n % 2 = 1) (h3 : n ≤ 7) {v : AV} {l : List Bs} (hv : BsF v l) (hlen : l.length ≤ 1000000) (hl : ∀ b ∈ l, b.length ≤ 1000000) (H : AHeap) :
    Does Tryz.prog G 35 [.int .i64 me, .int .i64 n, v] H (OpR (opened me n ⟨0, 0, [], 0⟩ l) H me n) := by
  have h := coOpen_run (G := G) h1 h2 h3 hv hlen hl H
  generalize opened me n ⟨0, 0, [], 0⟩ l = o at *
  cases o with
  | none => exact Does.forgot h (fun hw ha r H1 ⟨h1, h2⟩ => ⟨h2, by rw [h1]; rfl, h1, rfl⟩)
  | some c => exact h
theorem committed_does {H : AHeap} {i : Nat} {a0 a1 a2 a3 a6 a7 a8 a9 a10 lv : AV} {l : List En} {n : Nat} (hi : H.get i = some (.cells [a0, a1, a2, a3, lv, .int .i64 n, a6, a7, a8, a9, a10])) (hlv : EnF lv l) (hn : n ≤ l.length) (hl : l.length ≤ 1000000) (hr : ∀ e ∈ l, e.l.length ≤ 1000000) :
    Does Tryz.prog G 38 [.ptr i 0] H fun r h => r = entsV (l.take n) ∧ h = H := by
  refine does_f Tryz.call38 Tryz.func38 rfl (by simp [Tryz.f38]) ?_
  have ls := hlv.sc
  have lc := hlv.cells
  obtain ⟨w, hw', hsl⟩ := slice_take hlv hn
  simp
  refine aw_drawn [(3, 0), (7, 0)] mixedOrdR (by kernel_rfl) ?_
  intro es hes
  simp [adf_stop, -adf_cons, hi, ls, lc, hsl, -aslice]
  refine ⟨_, _, copies_does hw' (by rw [List.length_take]; omega) (fun e he => hr e (List.mem_of_mem_take he)) _, Nat.le_refl _, ?_⟩
  refine ad_go (fun T' => T' 12 = entsV (l.take n)) (by simp) ?_
  rintro T1 a12
  simp [adf_stop, -adf_cons, a12]
  refine ⟨by subst hes; exact ⟨by kernel_rfl, by kernel_rfl⟩, by simp [rds, heapF, hi, ls, lc]⟩
end Go.Proofs.YtekbjlihciedjaaGreatDoor

namespace Go.Proofs.YtekbjlihciedjaaGreatDoor
open Go Go.Abs Go.Rp
variable {G : Nat → Option AV}
theorem elemMs : ElemOk Tryz.prog 39 39 109 9 104 := ⟨by simp, ⟨.slice 109, by simp, rfl⟩, by simp⟩
theorem leader_does {H : AHeap} {i view n : Nat} {a0 : AV} {cs : List AV} (hi : H.get i = some (.cells (a0 :: .int .i64 n :: cs))) (h0 : 0 < n) (hn : n ≤ 7) (hv : view < 2 ^ 64) :
    Does Tryz.prog G 89 [.ptr i 0, .int .u64 view] H fun r h => r = .int .i64 (view % n : Nat) ∧ h = H := by
  refine does_f Tryz.call89 Tryz.func89 rfl (by simp [Tryz.f89]) ?_
  have w1 : IntKind.u64.wrap (n : Int) = n := IntWalk.u64_in _ (by omega)
  have e1 : n ≠ 0 := by omega
  have hm := Nat.mod_lt view h0
  have w2 : IntKind.i64.wrap ((view : Int) % (n : Int)) = (view : Int) % (n : Int) := IntWalk.i64_in _ (by have : (view : Int) % (n : Int) = ((view % n : Nat) : Int) := rfl; omega)
  have e2 : (view : Int).tmod n = (view : Int) % n := Int.tmod_eq_emod_of_nonneg (by omega)
  simp [hi, w1, e1, w2]
  rw [e2, w2]
theorem Gr_lt {H : AHeap} {z n : Nat} {cs : List AV} {v : AV} {b : Nat → Prop} (h : Gr H z n cs v b) (hw : ∀ j x, H.get j = some x → j < H.next) : Gr H z n cs v (fun j => b j ∧ j < H.next ∧ ∃ c, H.get j = some (.cells c)) := by
  rcases h with h | ⟨p, o, cap, op, pre, junk, h1, h2, h3, h4⟩
  · exact .inl h
  · exact .inr ⟨p, o, cap, op, pre, junk, h1, ⟨h2, hw _ _ h3, _, h3⟩, h3, h4⟩
def msV (kind frm to : Int) (view last op commit : Int) (ev bv : AV) : AV := .agg [.int .i64 kind, .int .i64 frm, .int .i64 to, .int .u64 view, .int .u64 last, .int .u64 op, .int .u64 commit, ev, bv]
set_option maxHeartbeats 4000000 in
set_option maxRecDepth 100000 in
theorem send_self {H : AHeap} {i s : Nat} {me view : Int} {a1 a3 : AV} {cs : List AV} (hi : H.get i = some (.cells (.int .i64 me :: a1 :: .int .u64 view :: a3 :: cs))) {kind frm view' last op commit : Int} {ev bv : AV} (e1 : ev.scalar = true) (e2 : ev.cells = [ev]) (b1 : bv.scalar = true) (b2 : bv.cells = [bv]) :
    Does Tryz.prog G 88 [.ptr i 0, .ptr s 0, msV kind frm me view' last op commit ev bv] H fun r h => r = .tuple [] ∧ h = H := by
  refine Does.forgot (R := fun r h => r = .tuple [] ∧ ∀ j x, H.get j = some x → h.get j = some x) ?_ (fun hw ha r H1 ⟨h1, h2⟩ => ⟨h2, by rw [h1]; rfl, h1, rfl⟩)
  refine Does.wf Tryz.call88 fun hw _ => ?_
  refine does_f Tryz.call88 Tryz.func88 rfl (by simp [Tryz.f88]) ?_
  have hin := next_lt hw hi
  have q1 : i ≠ H.next := by omega
  simp [msV, e1, e2, b1, b2]
  refine aw_drawn [(3, 0), (7, 0), (7, 10)] mixedOrdR (by kernel_rfl) ?_
  intro es hes
  simp [hi, q1, q1.symm]
  refine ⟨by subst hes; exact ⟨by kernel_rfl, by kernel_rfl⟩, by simp [rds, heapF, hi, q1, q1.symm, e1, e2, b1, b2], ?_⟩
  refine aw_drawn [(1, 0), (5, 0)] mixedOrdR (by kernel_rfl) ?_
  intro es hes
  simp [hi, q1, q1.symm]
  refine ⟨by subst hes; exact ⟨by kernel_rfl, by kernel_rfl⟩, by simp [rds, heapF, hi, q1, q1.symm, e1, e2, b1, b2], ?_⟩
  intro j x hj
  have := next_lt hw hj
  have e0 : j ≠ H.next := by omega
  simp [e0, hj]
set_option maxHeartbeats 4000000 in
set_option maxRecDepth 100000 in
theorem send_other {H : AHeap} (hw : ∀ j x, H.get j = some x → j < H.next) {i s : Nat} {me view : Int} {a1 a3 sv : AV} {cs : List AV} (hi : H.get i = some (.cells (.int .i64 me :: a1 :: .int .u64 view :: a3 :: cs))) {b : Nat → Prop} {n : Nat} {ms : List AV} {wv : AV} (g1 : H.get s = some (.cells [sv, wv])) (g2 : Gr H 9 n ms wv (fun j => b j ∧ j ≠ s)) (hn : n ≤ 900)
    {kind frm to view' last op commit : Int} (hto : to ≠ me) {ev bv : AV} (e1 : ev.scalar = true) (e2 : ev.cells = [ev]) (b1 : bv.scalar = true) (b2 : bv.cells = [bv]) (h1 : sv.scalar = true) (h2 : sv.cells = [sv]) :
    ∃ h', Does Tryz.prog G 88 [.ptr i 0, .ptr s 0, msV kind frm to view' last op commit ev bv] H (fun r h => r = .tuple [] ∧ h = h') ∧ (∃ ms' wv', h'.get s = some (.cells [sv, wv']) ∧ Gr h' 9 (n + 1) ms' wv' (fun j => (b j ∨ H.next ≤ j) ∧ j ≠ s)) ∧ H.next ≤ h'.next ∧ ∀ j x, j ≠ s → ¬ (b j ∧ ∃ c, x = .cells c) → H.get j = some x → h'.get j = some x := by
  have hin := hw _ _ hi
  have hsn := hw _ _ g1
  have q1 : i ≠ H.next := by omega
  have q2 : s ≠ H.next := by omega
  have wc := g2.cells
  have ws := g2.sc
  have hto' : (to != me) = true := by simpa using hto
  have f0 : Gr ((H.push (.cells [.int .i64 kind, .int .i64 me, .int .i64 to, .int .u64 view, .int .u64 last, .int .u64 op, .int .u64 commit, ev, bv])).push (.cells [.int .i64 kind, .int .i64 me, .int .i64 to, .int .u64 view, .int .u64 last, .int .u64 op, .int .u64 commit, ev, bv])) 9 n ms wv (fun j => (b j ∧ j ≠ s) ∧ j < H.next ∧ ∃ c, H.get j = some (.cells c)) :=
    (Gr_lt g2 hw).keep fun j x hj hx => by
      have p1 : j ≠ H.next := by omega
      have p2 : j ≠ H.next + 1 := by omega
      simp [p1, p2, hx]
  obtain ⟨v', eff, f1, f2, f3, f4⟩ := f0.app elemMs (m := 1) (x := .sl (H.next + 1) 0 9 1 1 false) (news := [.int .i64 kind, .int .i64 me, .int .i64 to, .int .u64 view, .int .u64 last, .int .u64 op, .int .u64 commit, ev, bv]) (fun _ _ e => by cases e) rfl (by simp [afirst]) (by simp [e1, b1]) rfl (by omega) (by omega) (by omega) (by omega) (nx := H.next + 1 + 1) rfl
  have vc := f2.cells
  have vs := f2.sc
  have s1 : s ≠ H.next + 1 := by omega
  have gs : ((AHeap.push (H.push (.cells [.int .i64 kind, .int .i64 me, .int .i64 to, .int .u64 view, .int .u64 last, .int .u64 op, .int .u64 commit, ev, bv])) (.cells [.int .i64 kind, .int .i64 me, .int .i64 to, .int .u64 view, .int .u64 last, .int .u64 op, .int .u64 commit, ev, bv])).eff eff).get s = some (.cells [sv, wv]) := by
    rw [f3 s (by simp) (by simp only [AHeap.next_push]; omega)]
    simp [q2, s1, g1]
  refine ⟨((AHeap.push (H.push (.cells [.int .i64 kind, .int .i64 me, .int .i64 to, .int .u64 view, .int .u64 last, .int .u64 op, .int .u64 commit, ev, bv])) (.cells [.int .i64 kind, .int .i64 me, .int .i64 to, .int .u64 view, .int .u64 last, .int .u64 op, .int .u64 commit, ev, bv])).eff eff).set s (.cells [sv, v']), ?_, ⟨_, v', by simp, (f2.keep fun j x hj hx => ?_).mono fun j hj => ?_⟩, ?_, fun j x h1 h2 hj => ?_⟩
  rotate_left
  · have : j ≠ s := by
      simp only [AHeap.next_push] at hj
      rcases hj with hj | hj
      · exact hj.1.2
      · omega
    simp [this, hx]
  · simp only [AHeap.next_push] at hj
    rcases hj with hj | hj
    · exact ⟨.inl hj.1.1, hj.1.2⟩
    · exact ⟨.inr (by omega), by omega⟩
  · simp only [AHeap.next_push] at f4
    simp only [AHeap.next_set]
    omega
  · have := hw _ _ hj
    have p1 : j ≠ H.next := by omega
    have p2 : j ≠ H.next + 1 := by omega
    simp only [AHeap.get_set, if_neg h1]
    rw [f3 j (fun h => h2 ⟨h.1.1, by obtain ⟨c, hc⟩ := h.2.2; rw [hj] at hc; exact ⟨c, Option.some.inj hc⟩⟩) (by simp only [AHeap.next_push]; omega)]
    simp [p1, p2, hj]
  refine does_f Tryz.call88 Tryz.func88 rfl (by simp [Tryz.f88]) ?_
  simp [msV, e1, e2, b1, b2]
  refine aw_drawn [(3, 0), (7, 0), (7, 10)] mixedOrdR (by kernel_rfl) ?_
  intro es hes
  simp [hi, q1, q1.symm]
  refine ⟨by subst hes; exact ⟨by kernel_rfl, by kernel_rfl⟩, by simp [rds, heapF, hi, q1, q1.symm, e1, e2, b1, b2], ?_⟩
  refine aw_drawn [(1, 0), (5, 0)] mixedOrdR (by kernel_rfl) ?_
  intro es hes
  simp [hi, q1, q1.symm, hto']
  refine ⟨by subst hes; exact ⟨by kernel_rfl, by kernel_rfl⟩, by simp [rds, heapF, hi, q1, q1.symm, e1, e2, b1, b2], ?_⟩
  refine aw_drawn [(4, 0), (5, 0)] mixedOrdR (by kernel_rfl) ?_
  intro es hes
  simp [hi, q1, q1.symm, q2, g1, wc, ws, e1, e2, b1, b2, -aappend]
  rw [f1]
  generalize hH2 : (AHeap.push (H.push (.cells [.int .i64 kind, .int .i64 me, .int .i64 to, .int .u64 view, .int .u64 last, .int .u64 op, .int .u64 commit, ev, bv])) (.cells [.int .i64 kind, .int .i64 me, .int .i64 to, .int .u64 view, .int .u64 last, .int .u64 op, .int .u64 commit, ev, bv])) = H2 at *
  simp [gs, vc, vs, h1, h2]
  exact ⟨by subst hes; exact ⟨by kernel_rfl, by kernel_rfl⟩, by simp [rds, heapF, q1, q1.symm, q2, g1, e1, e2, b1, b2, wc, ws]⟩
theorem has_live {H : AHeap} {l : List En} {w : AV} {b : Nat → Prop} (h : Gr H 3 l.length (entsC l) w b) (hl : l.length ≤ 1000000) (id : Nat) :
    Does Tryz.prog G 87 [w, .int .u64 id] H fun r h => r = .bool (hasId l id) ∧ h = H := by
  obtain ⟨u, h1, h2⟩ := gr_lent h
  refine (Does.borrow (h2 (.keep _ .nil)) (has_does h1 hl id _) (fun r H1 h => by rw [h.1]; rfl)).mono ?_
  rintro r h ⟨⟨H1, h3, _⟩, h4⟩
  exact ⟨h3, h4⟩
set_option maxHeartbeats 8000000 in
set_option maxRecDepth 100000 in
theorem wanted_does {H : AHeap} {O : Nat → Prop} {i : Nat} {c : Co} (hc : CoAt H O i c) (h1 : c.list.length ≤ 1000000) (h2 : c.wait.length < 200) {e : En} {v : AV} (hv : RowA v e.row) (he : e.l.length ≤ 1000000) :
    Does Tryz.prog G 85 [.ptr i 0, enV e v] H fun r h => r = .bool (c.wanted e).1 ∧ CoAt h (fun j => O j ∨ H.next ≤ j) i (c.wanted e).2 ∧ ∀ j x, ¬ O j → H.get j = some x → h.get j = some x := by
  refine Does.wf Tryz.call85 fun hw _ => ?_
  obtain ⟨lv, g, hh, es', wv, k1, k2, k3, k4, k5, k6, k7, k8, k9, k10⟩ := hc
  refine does_f Tryz.call85 Tryz.func85 rfl (by simp [Tryz.f85]) ?_
  have hin := next_lt hw k1
  have q1 : i ≠ H.next := by omega
  have ls := k4.sc
  have lc := k4.cells
  have ws := k6.sc
  have wc := k6.cells
  have vs := hv.sc
  have vc := hv.cells
  simp only [coC] at k1
  have k6' : Gr (H.push (.cells [.int .u64 e.id, .int .u64 e.view, v])) 3 c.wait.length (entsC c.wait) wv (fun j => (O j ∧ j ≠ i) ∧ j < H.next ∧ ∃ c, H.get j = some (.cells c)) :=
    (Gr_lt k6 fun j x => next_lt hw).keep fun j x hj hx => by
      have : j ≠ H.next := by omega
      simp [this, hx]
  have keep0 : ∀ j x, H.get j = some x → (H.push (.cells [.int .u64 e.id, .int .u64 e.view, v])).get j = some x := fun j x hj => by
    have := next_lt hw hj
    have e0 : j ≠ H.next := by omega
    simp [e0, hj]
  simp [enV, vs, vc]
  have hfalse : (c.wanted e) = (false, c) → ((c.wanted e).1 = false ∧ CoAt (H.push (.cells [.int .u64 e.id, .int .u64 e.view, v])) (fun j => O j ∨ H.next ≤ j) i (c.wanted e).2 ∧ ∀ j x, ¬ O j → H.get j = some x → (if j = H.next then some (.cells [.int .u64 e.id, .int .u64 e.view, v]) else H.get j) = some x) := by
    intro hX
    rw [hX]
    exact ⟨rfl, ⟨lv, g, hh, es', wv, keep0 _ _ k1, keep0 _ _ k2, keep0 _ _ k3, k4, k5, k6'.mono fun j hj => ⟨.inl hj.1.1, hj.1.2⟩, .inl k7, .inl k8, .inl k9, k10⟩, fun j x _ hj => keep0 j x hj⟩
  cases hm : may e with
  | false =>
    refine aw_drawn [(0, 0)] mixedOrdR (by kernel_rfl) ?_
    intro es hes
    simp [adf_stop, -adf_cons, k1, q1, q1.symm, vs, vc]
    refine ⟨_, _, may_does' hv _, Nat.le_refl _, ?_⟩
    refine ad_go (fun T' => T' 0 = .ptr i 0 ∧ T' 3 = .ptr H.next 0 ∧ T' 6 = .bool false) (by simp [hm]) ?_
    rintro T1 ⟨a0, a3, a6⟩
    simp [adf_stop, -adf_cons, a0, a3, a6]
    refine ⟨by subst hes; exact ⟨by kernel_rfl, by kernel_rfl⟩, by simp [rds, heapF, vs, vc], ?_⟩
    exact hfalse (by simp [Co.wanted, hm])
  | true =>
    cases hl : hasId c.list e.id with
    | true =>
      refine aw_drawn [(0, 0), (7, 2), (9, 2)] mixedOrdR (by kernel_rfl) ?_
      intro es hes
      simp [adf_stop, -adf_cons, k1, q1, q1.symm, vs, vc]
      refine ⟨_, _, may_does' hv _, Nat.le_refl _, ?_⟩
      refine ad_go (fun T' => T' 0 = .ptr i 0 ∧ T' 3 = .ptr H.next 0 ∧ T' 6 = .bool true) (by simp [hm]) ?_
      rintro T1 ⟨a0, a3, a6⟩
      simp [adf_stop, -adf_cons, a0, a3, a6, k1, q1, q1.symm, vs, vc, ls, lc]
      refine ⟨_, _, has_does k4 h1 e.id _, Nat.le_refl _, ?_⟩
      refine ad_go (fun T' => T' 0 = .ptr i 0 ∧ T' 3 = .ptr H.next 0 ∧ T' 8 = .bool false ∧ T' 15 = .bool true) (by simp [hl, a0, a3]) ?_
      rintro T2 ⟨a0, a3, a8, a15⟩
      simp [adf_stop, -adf_cons, a0, a3, a8, a15]
      refine ⟨by subst hes; exact ⟨by kernel_rfl, by kernel_rfl⟩, by simp [rds, heapF, vs, vc, k1, q1, ls, lc], ?_⟩
      exact hfalse (by simp [Co.wanted, hm, hl])
    | false =>
      refine aw_drawn [(0, 0), (7, 2), (9, 2), (16, 11), (18, 11)] mixedOrdR (by kernel_rfl) ?_
      intro es hes
      simp [adf_stop, -adf_cons, k1, q1, q1.symm, vs, vc]
      refine ⟨_, _, may_does' hv _, Nat.le_refl _, ?_⟩
      refine ad_go (fun T' => T' 0 = .ptr i 0 ∧ T' 3 = .ptr H.next 0 ∧ T' 6 = .bool true) (by simp [hm]) ?_
      rintro T1 ⟨a0, a3, a6⟩
      simp [adf_stop, -adf_cons, a0, a3, a6, k1, q1, q1.symm, vs, vc, ls, lc]
      refine ⟨_, _, has_does k4 h1 e.id _, Nat.le_refl _, ?_⟩
      refine ad_go (fun T' => T' 0 = .ptr i 0 ∧ T' 3 = .ptr H.next 0 ∧ T' 8 = .bool false ∧ T' 15 = .bool false) (by simp [hl, a0, a3]) ?_
      rintro T2 ⟨a0, a3, a8, a15⟩
      simp [adf_stop, -adf_cons, a0, a3, a8, a15, k1, q1, q1.symm, vs, vc, ws, wc]
      refine ⟨_, _, has_live k6' (by omega) e.id, Nat.le_refl _, ?_⟩
      refine ad_go (fun T' => T' 0 = .ptr i 0 ∧ T' 3 = .ptr H.next 0 ∧ T' 17 = .bool false ∧ T' 24 = .bool (hasId c.wait e.id)) (by simp [hl, a0, a3]) ?_
      rintro T3 ⟨a0, a3, a17, a24⟩
      cases hwt : hasId c.wait e.id with
      | true =>
        rw [hwt] at a24
        simp [adf_stop, -adf_cons, a0, a3, a17, a24]
        refine ⟨by subst hes; exact ⟨by kernel_rfl, by kernel_rfl⟩, by simp [rds, heapF, vs, vc, k1, q1, ls, lc, ws, wc], ?_⟩
        exact hfalse (by simp [Co.wanted, hm, hl, hwt])
      | false =>
        rw [hwt] at a24
        simp [adf_stop, -adf_cons, a0, a3, a17, a24]
        refine ⟨by subst hes; exact ⟨by kernel_rfl, by kernel_rfl⟩, by simp [rds, heapF, vs, vc, k1, q1, ls, lc, ws, wc], ?_⟩
        have hwl : alen Tryz.prog 48 wv = some (.int .i64 c.wait.length) := k6.alen (e := 62) (by simp)
        have c2 : ¬ (c.wait.length : Int) = 200 := by omega
        have c2' : ¬ c.wait.length = 200 := by omega
        simp [a0, a3, k1, q1, hwl, c2, c2', -alen]
        refine aw_drawn [(4, 0), (4, 7), (5, 0)] mixedOrdR (by kernel_rfl) ?_
        intro es hes
        simp [adf_stop, -adf_cons, a0, a3, k1, q1, ws, wc, vs, vc]
        refine ⟨_, _, copyEn_does hv (by omega) _, Nat.le_refl _, ?_⟩
        refine ad_go (fun T' => T' 0 = .ptr i 0 ∧ T' 3 = .ptr H.next 0 ∧ T' 40 = .ptr i 0 ∧ T' 44 = wv ∧ T' 46 = enV e (rowV e.row)) (by simp [a0, a3]) ?_
        rintro T4 ⟨b0, b3, a40, a44, a46⟩
        have rx := RowA.rowV e.row
        have k7' := k6'.keep (H' := (H.push (.cells [.int .u64 e.id, .int .u64 e.view, v])).push (.cells [.int .u64 e.id, .int .u64 e.view, rowV e.row])) (fun j x hj hx => by
          have : j ≠ H.next + 1 := by omega
          simp [this]; simpa using hx)
        obtain ⟨v', eff, f1, f2, f3, f4⟩ := k7'.app (elemEn) (m := 1) (x := .sl (H.next + 1) 0 3 1 1 false) (news := [.int .u64 e.id, .int .u64 e.view, rowV e.row]) (fun _ _ e => by cases e) rfl (by simp [afirst]) (by simp [rx.sc]) rfl (by omega) (by omega) (by omega) (by omega) (nx := H.next + 1 + 1) rfl
        simp [adf_stop, -adf_cons, b0, b3, a40, a44, a46, enV, rx.sc, rx.cells, -aappend]
        rw [f1]
        have nc := f2.cells
        have ns := f2.sc
        simp only [AHeap.next_push] at f2 f3 f4
        generalize hH2 : (H.push (.cells [.int .u64 e.id, .int .u64 e.view, v])).push (.cells [.int .u64 e.id, .int .u64 e.view, rowV e.row]) = H2 at *
        have n2 : H2.next = H.next + 1 + 1 := by rw [← hH2]; rfl
        have old : ∀ j x, ¬ ((O j ∧ j ≠ i) ∧ j < H.next ∧ ∃ c, H.get j = some (.cells c)) → H.get j = some x → (H2.eff eff).get j = some x := fun j x hO hj => by
          have := next_lt hw hj
          have p1 : j ≠ H.next := by omega
          have p2 : j ≠ H.next + 1 := by omega
          rw [f3 j hO (by omega), ← hH2]
          simp [p1, p2, hj]
        have gi : (H2.eff eff).get i = _ := old i _ (by simp) k1
        simp [adf_stop, -adf_cons, b0, b3, a40, a44, a46, gi, nc, ns]
        refine ⟨by subst hes; exact ⟨by kernel_rfl, by kernel_rfl⟩, by simp [rds, heapF, vs, vc, k1, q1, ls, lc, ws, wc, gi, a0, a3], ?_⟩
        have hcw : c.wanted e = (c.lead, { c with wait := c.wait ++ [e] }) := by simp [Co.wanted, hm, hl, hwt, c2']
        rw [hcw]
        have gi2 : g ≠ i := fun e => by rw [e, k1] at k2; cases k2
        have hi2 : hh ≠ i := fun e => by rw [e, k1] at k3; cases k3
        have g3 := old g _ (by rw [k2]; simp) k2
        have h3 := old hh _ (by rw [k3]; simp) k3
        refine ⟨rfl, ⟨lv, g, hh, es', v', by simp [coC], by simp [gi2, g3], by simp [hi2, h3], k4, k5, ?_, .inl k7, .inl k8, .inl k9, k10⟩, fun j x hO hj => ?_⟩
        · have hec : entsC (c.wait ++ [e]) = entsC c.wait ++ [.int .u64 e.id, .int .u64 e.view, rowV e.row] := by simp [entsC]
          simp only [hec, List.length_append, List.length_singleton]
          refine (f2.keep fun j x hj hx => ?_).mono fun j hj => ?_
          · have : j ≠ i := by rcases hj with hj | hj
                               · exact hj.1.2
                               · omega
            simp [this, hx]
          · rcases hj with hj | hj
            · exact ⟨.inl hj.1.1, hj.1.2⟩
            · exact ⟨.inr (by omega), by omega⟩
        · have ji : j ≠ i := fun e => hO (by rw [e]; exact k7)
          rw [if_neg ji]
          exact old j x (fun h => hO h.1.1) hj
end Go.Proofs.YtekbjlihciedjaaGreatDoor

namespace Go.Proofs.YtekbjlihciedjaaGreatDoor
open Go Go.Abs Go.Rp
variable {G : Nat → Option AV}
theorem CoAt.mono {H : AHeap} {O O' : Nat → Prop} {i : Nat} {c : Co} (h : CoAt H O i c) (hO : ∀ j, O j → O' j) : CoAt H O' i c := by
  obtain ⟨lv, g, h, es, wv, h1, h2, h3, h4, h5, h6, h7, h8, h9, h10⟩ := h
  exact ⟨lv, g, h, es, wv, h1, h2, h3, h4, h5, h6.mono fun j hj => ⟨hO j hj.1, hj.2⟩, hO _ h7, hO _ h8, hO _ h9, h10⟩
set_option maxHeartbeats 4000000 in
set_option maxRecDepth 100000 in
theorem tick_still {H : AHeap} {O : Nat → Prop} {i : Nat} {c : Co} (hc : CoAt H O i c) (h1 : c.lead = false) (h2 : c.n ≠ 1) (h3 : c.quiet = 0) :
    Does Tryz.prog G 44 [.ptr i 0] H fun r h => r = .agg [.nilsl, .nilsl] ∧ CoAt h O i { c with quiet := 1 } ∧ ∀ j x, j ≠ i → H.get j = some x → h.get j = some x := by
  refine Does.wf Tryz.call44 fun hw _ => ?_
  have hc' := hc
  obtain ⟨lv, g, hh, es', wv, k1, k2, k3, k4, k5, k6, k7, k8, k9, k10⟩ := hc
  simp only [coC, h1, h3] at k1
  have hin := next_lt hw k1
  have q1 : i ≠ H.next := by omega
  have q2 : i ≠ H.next + 1 := by omega
  have n1 : ¬ (c.n : Int) = 1 := by omega
  have p0 : IntKind.i64.wrap 1 = 1 := rfl
  have p1 : (1 : Int).tmod 4 = 1 := rfl
  refine does_f Tryz.call44 Tryz.func44 rfl (by simp [Tryz.f44]) ?_
  simp [k1, q1, q2, q1.symm, q2.symm, n1, h2, p0, p1]
  have kp : ∀ j x, j ≠ i → H.get j = some x → (if j = H.next then some (.cells [.nilsl, .nilsl]) else if j = i then some (.cells (coC { c with quiet := 1 } lv g hh wv)) else if j = H.next + 1 then some (.cells [.nilsl, .nilsl]) else if j = H.next then some (.cells [.nilsl, .nilsl]) else H.get j) = some x := by
    intro j x ji hj
    have := next_lt hw hj
    have p1 : j ≠ H.next := by omega
    have p2 : j ≠ H.next + 1 := by omega
    simp [p1, p2, ji, hj]
  have gi2 : g ≠ i := fun e => by rw [e, k1] at k2; cases k2
  have hi2 : hh ≠ i := fun e => by rw [e, k1] at k3; cases k3
  simp only [coC, h1] at kp
  refine ⟨⟨lv, g, hh, es', wv, by simp [coC, q1, h1], kp _ _ gi2 k2, kp _ _ hi2 k3, k4, k5, ?_, k7, k8, k9, k10⟩, kp⟩
  exact k6.keep fun j x hj hx => kp j x hj.2 hx
set_option maxHeartbeats 8000000 in
set_option maxRecDepth 100000 in
theorem submit_still {H : AHeap} {O : Nat → Prop} {i : Nat} {c : Co} (hc : CoAt H O i c) (hO : ∀ j, O j → j < H.next) (h1 : c.lead = false) (h2 : c.n ≠ 1) (hn0 : 0 < c.n) (hn7 : c.n ≤ 7) (h3 : c.list.length ≤ 1000000) (h4 : c.wait.length < 200) (hv : c.view < 2 ^ 64) {id : Nat} {v : AV} {row : Option (List Int)} (hr : RowA v row) (hl : (row.getD []).length ≤ 1000000) :
    Does Tryz.prog G 46 [.ptr i 0, .int .u64 id, v] H fun r h => (∃ wv, r = .agg [.nilsl, wv] ∧ wv.scalar = true ∧ wv.cells = [wv]) ∧ CoAt h (fun j => O j ∨ H.next ≤ j) i (c.wanted ⟨id, 0, row⟩).2 ∧ ∀ j x, ¬ O j → H.get j = some x → h.get j = some x := by
  refine Does.wf Tryz.call46 fun hw _ => ?_
  have hc' := hc
  obtain ⟨lv, g, hh, es', wv, k1, k2, k3, k4, k5, k6, k7, k8, k9, k10⟩ := hc
  simp only [coC, h1] at k1
  have hin := next_lt hw k1
  have q1 : i ≠ H.next := by omega
  have q2 : i ≠ H.next + 1 := by omega
  have q3 : i ≠ H.next + 1 + 1 := by omega
  have n1 : ¬ (c.n : Int) = 1 := by omega
  refine does_f Tryz.call46 Tryz.func46 rfl (by simp [Tryz.f46]) ?_
  simp
  refine does_use (cloneRow_does hr (by omega) _) ?_
  rintro r h ⟨rfl, rfl⟩
  have rx := RowA.rowV row
  have rc := rx.cells
  have rs := rx.sc
  have old : ∀ X Y Z W, ∀ j x, H.get j = some x → ((((H.push X).push Y).push Z).set (H.next + 1 + 1) W).get j = some x := fun X Y Z W j x hj => by
    have := next_lt hw hj
    have p1 : j ≠ H.next := by omega
    have p2 : j ≠ H.next + 1 := by omega
    have p3 : j ≠ H.next + 1 + 1 := by omega
    simp [p1, p2, p3, hj]
  simp [k1, q1, q2, q3, n1, h2, rc, rs]
  have hwf : (c.wanted ⟨id, 0, row⟩).1 = false := by
    unfold Co.wanted
    split
    · rfl
    · exact h1
  have hwl : ∀ e, (c.wanted e).2.list = c.list ∧ (c.wanted e).2.lead = false ∧ (c.wanted e).2.n = c.n ∧ (c.wanted e).2.view = c.view ∧ (c.wanted e).2.me = c.me := by
    intro e
    unfold Co.wanted
    split <;> simp [h1]
  refine does_usew (wanted_does (O := O) (c := c) (hc'.keep fun j x _ hj => old _ _ _ _ j x hj) h3 h4 (e := ⟨id, 0, row⟩) rx hl) ?_
  rintro r h ⟨rfl, hc2, hk⟩ hw2 _
  simp only [AHeap.next_set, AHeap.next_push] at hc2
  have hS : ∀ j, H.next ≤ j → ¬ O j := fun j hj h => by have := hO j h; omega
  have g0 : h.get H.next = some (.cells [.nilsl, .nilsl]) := hk _ _ (hS _ (Nat.le_refl _)) (by rw [AHeap.get_set, if_neg (by omega)]; simp; omega)
  have g1 : h.get (H.next + 1) = some (.cells [.nilsl, .nilsl]) := hk _ _ (hS _ (by omega)) (by simp)
  have g2 : h.get (H.next + 1 + 1) = some (.cells [.int .u64 id, .int .u64 0, rowV row]) := hk _ _ (hS _ (by omega)) (by simp)
  obtain ⟨hwl1, hwl2, hwl3, hwl4, hwl5⟩ := hwl ⟨id, 0, row⟩
  rw [hwf]
  generalize (c.wanted ⟨id, 0, row⟩).2 = d at *
  have hc3 := hc2
  obtain ⟨lv, g, hh, es', wv, k1, k2, k3, k4, k5, k6, k7, k8, k9, k10⟩ := hc2
  simp only [coC, hwl2, hwl3, hwl4, hwl5] at k1
  have ls := k4.sc
  have lc := k4.cells
  have i1 : i ≠ H.next := q1
  have i2 : i ≠ H.next + 1 := q2
  have fin : ∀ {h' : AHeap}, (∀ j x, j ≠ H.next → j ≠ H.next + 1 → h.get j = some x → h'.get j = some x) → CoAt h' (fun j => O j ∨ H.next ≤ j) i d ∧ ∀ j x, ¬ O j → H.get j = some x → h'.get j = some x := by
    intro h' hh
    have hne : ∀ j, (O j ∨ H.next + 1 + 1 + 1 ≤ j) → j ≠ H.next ∧ j ≠ H.next + 1 := fun j hj => by
      rcases hj with hj | hj
      · have := hO j hj
        omega
      · omega
    refine ⟨(hc3.keep (H' := h') fun j x hj hx => hh j x (hne j hj).1 (hne j hj).2 hx).mono fun j hj => ?_, fun j x hj hx => ?_⟩
    · rcases hj with hj | hj
      · exact .inl hj
      · exact .inr (by omega)
    · have := next_lt hw hx
      exact hh j x (by omega) (by omega) (hk j x hj (old _ _ _ _ j x hx))
  simp [g2, rc, rs]
  refine does_use (may_does' (e := ⟨id, 0, row⟩) rx _) ?_
  rintro r h' ⟨rfl, rfl⟩
  cases hm : may ⟨id, 0, row⟩ with
  | false =>
    simp [k1, g1, g0]
    exact fin fun j x a _ hj => by rw [AHeap.get_set, if_neg a]; exact hj
  | true =>
    simp [k1, ls, lc]
    refine does_use (has_does k4 (by rw [hwl1]; exact h3) id _) ?_
    rintro r h'' ⟨rfl, rfl⟩
    cases hl : hasId d.list id with
    | true =>
      simp [k1, g1, g0]
      exact fin fun j x a _ hj => by rw [AHeap.get_set, if_neg a]; exact hj
    | false =>
      simp
      refine aw_drawn [(5, 0), (7, 0), (7, 7)] mixedOrdR (by kernel_rfl) ?_
      intro es hes
      simp [adf_stop, -adf_cons, k1]
      refine ⟨_, _, leader_does k1 hn0 hn7 hv, Nat.le_refl _, ?_⟩
      refine ad_go (fun T' => T' 0 = .ptr i 0 ∧ T' 6 = .ptr H.next 0 ∧ T' 7 = .ptr (H.next + 1) 0 ∧ T' 8 = .ptr (H.next + 1 + 1) 0 ∧ T' 52 = .ptr i 0 ∧ T' 58 = .int .i64 (c.view % c.n : Nat)) (by simp) ?_
      rintro T1 ⟨a0, a6, a7, a8, a52, a58⟩
      simp [adf_stop, -adf_cons, a0, a7, a8, a52, a58, g2, rc, rs]
      refine ⟨_, _, copyEn_does (e := ⟨id, 0, row⟩) rx (by simp only [En.l]; omega) _, Nat.le_refl _, ?_⟩
      refine ad_go (fun T' => T' 0 = .ptr i 0 ∧ T' 6 = .ptr H.next 0 ∧ T' 7 = .ptr (H.next + 1) 0 ∧ T' 52 = .ptr i 0 ∧ T' 58 = .int .i64 (c.view % c.n : Nat) ∧ T' 60 = enV ⟨id, 0, row⟩ (rowV row)) (by simp [a0, a6, a7, a52, a58]) ?_
      rintro T2 ⟨b0, b6, b7, b52, b58, b60⟩
      simp [adf_stop, -adf_cons, b0, b7, b52, b58, b60, enV, rc, rs]
      have hin2 := next_lt hw2 k1
      have gn1 := next_lt hw2 g1
      have gn0 := next_lt hw2 g0
      have i3 : i ≠ h''.next := by omega
      have hk1 := (show (h''.push (.cells [.int .u64 id, .int .u64 0, rowV row])).get i = h''.get i by rw [AHeap.get_push, if_neg i3]).trans k1
      have hg1 : (h''.push (.cells [.int .u64 id, .int .u64 0, rowV row])).get (H.next + 1) = some (.cells [.nilsl, .nilsl]) := by rw [AHeap.get_push, if_neg (by omega)]; exact g1
      have hg0 : (h''.push (.cells [.int .u64 id, .int .u64 0, rowV row])).get H.next = some (.cells [.nilsl, .nilsl]) := by rw [AHeap.get_push, if_neg (by omega)]; exact g0
      by_cases hto : c.view % c.n = c.me
      · have hto' : (c.view : Int) % (c.n : Int) = c.me := by
          have : (c.view : Int) % (c.n : Int) = ((c.view % c.n : Nat) : Int) := rfl
          omega
        rw [hto']
        refine ⟨_, _, send_self (s := H.next + 1) hk1 (kind := 1) (frm := 0) (view' := 0) (last := 0) (op := 0) (commit := 0) (ev := .sl h''.next 0 3 1 1 false) (bv := .nilsl) rfl rfl rfl rfl, Nat.le_refl _, ?_⟩
        refine ad_go (fun T' => T' 6 = .ptr H.next 0 ∧ T' 7 = .ptr (H.next + 1) 0) (by simp [b6, b7]) ?_
        rintro T3 ⟨d6, d7⟩
        simp [adf_stop, -adf_cons, d6, d7]
        refine ⟨by subst hes; exact ⟨by kernel_rfl, by kernel_rfl⟩, by simp [rds, heapF, k1, g2, rc, rs, a8], ?_⟩
        have i4 : H.next + 1 ≠ h''.next := by omega
        have i5 : H.next ≠ h''.next := by omega
        simp [i4, i5, d6, d7, g1, g0]
        exact fin fun j x a _ hj => by
          have : j ≠ h''.next := by have := next_lt hw2 hj; omega
          simp [a, this, hj]
      · have hto' : (c.view : Int) % (c.n : Int) ≠ c.me := by
          have : (c.view : Int) % (c.n : Int) = ((c.view % c.n : Nat) : Int) := rfl
          omega
        obtain ⟨h', e1, ⟨ms', wv', e2, e3⟩, e4, e5⟩ := send_other (G := G) (s := H.next + 1) (fun j x hj => by
            rw [AHeap.get_push] at hj
            rw [AHeap.next_push]
            split at hj
            · omega
            · have := next_lt hw2 hj; omega) hk1 (b := fun _ => False) hg1 (.inl ⟨rfl, rfl, rfl⟩) (by omega) (kind := 1) (frm := 0) (view' := 0) (last := 0) (op := 0) (commit := 0) (ev := .sl h''.next 0 3 1 1 false) (bv := .nilsl) hto' rfl rfl rfl rfl rfl rfl
        refine ⟨_, _, e1, e4, ?_⟩
        have e0 := e5 _ _ (by omega) (by simp) hg0
        have wc := e3.cells
        have ws := e3.sc
        refine ad_go (fun T' => T' 6 = .ptr H.next 0 ∧ T' 7 = .ptr (H.next + 1) 0) (by simp [b6, b7]) ?_
        rintro T3 ⟨d6, d7⟩
        simp [adf_stop, -adf_cons, d6, d7]
        refine ⟨by subst hes; exact ⟨by kernel_rfl, by kernel_rfl⟩, by simp [rds, heapF, k1, g2, rc, rs, a8], ?_⟩
        simp [d6, d7, e2, e0, wc, ws]
        exact fin fun j x a b hj => by
          have : j ≠ h''.next := by have := next_lt hw2 hj; omega
          rw [AHeap.get_set, if_neg a]
          exact e5 j x b (by simp) (by simp [this, hj])
end Go.Proofs.YtekbjlihciedjaaGreatDoor

namespace Go.Proofs.YtekbjlihciedjaaGreatDoor
open Go Go.Abs Go.Rp
variable {G : Nat → Option AV}
structure KpRec where
  last : Nat
  whole : Bs
  stepped : Nat
  state : Bs
def slots (x : Nat × Nat × Bs) : Option (Option KpRec) :=
  if x.1 = 0 then some none
  else
    let r1 := (Rd.mk x.2.2 false).U
    let r2 := r1.2.S
    let r3 := r2.2.U
    let r4 := r3.2.S
    if r4.2.bad = true ∨ 0 < r4.2.b.length then none else some (some ⟨r1.1, r2.1, r3.1, r4.1⟩)
def kpV (k : KpRec) : AV := .agg [.int .u64 k.last, bV k.whole, .int .u64 k.stepped, bV k.state]
def kp0 : AV := .agg [.int .u64 0, .nilsl, .int .u64 0, .nilsl]
def SlR (H : AHeap) (o : Option (Option KpRec)) (r : AV) (h : AHeap) : Prop := h = H ∧ r = match o with
  | none => .tuple [kp0, .bool false, .int .i64 3]
  | some none => .tuple [kp0, .bool false, .int .i64 0]
  | some (some k) => .tuple [kpV k, .bool true, .int .i64 0]
def SlG (H : AHeap) (o : Option (Option KpRec)) (r : AV) (h : AHeap) : Prop := (∀ j y, H.get j = some y → h.get j = some y) ∧ match o with
  | none => r = .tuple [kp0, .bool false, .int .i64 3]
  | some none => r = .tuple [kp0, .bool false, .int .i64 0]
  | some (some k) => ∃ p q, p ≠ q ∧ H.next ≤ p ∧ H.next ≤ q ∧ h.get p = some (.cells (strCs k.whole)) ∧ h.get q = some (.cells (strCs k.state)) ∧
      r = .tuple [.agg [.int .u64 k.last, .sl p 0 1 k.whole.length k.whole.length true, .int .u64 k.stepped, .sl q 0 1 k.state.length k.state.length true], .bool true, .int .i64 0]
set_option maxHeartbeats 4000000 in
set_option maxRecDepth 100000 in
theorem slots_run {H : AHeap} {k : Nat} {d : Dk} (hk : DkAt H k d) (hok : dkOk d) (ho : d.off = false) (hl : (ckLast d.f1.now d.f2.now).2.2.length ≤ 1000000) :
    Does Tryz.prog G 32 [.ptr k 0] H (SlG H (slots (ckLast d.f1.now d.f2.now))) := by
  refine Does.wf Tryz.call32 fun hw _ => ?_
  refine does_f Tryz.call32 Tryz.func32 rfl (by simp [Tryz.f32]) ?_
  have kn : k < H.next := by obtain ⟨c, _, hc⟩ := hk; exact next_lt hw hc
  have hk1 : DkAt (H.push (.cells [.int .u64 0, .nilsl, .int .u64 0, .nilsl])) k d := by
    obtain ⟨c, h1, hc⟩ := hk
    have : k ≠ H.next := by omega
    exact ⟨c, h1, by simp [this, hc]⟩
  simp
  refine does_usew (ckLoad_run hk1 hok ho) ?_
  rintro r h ⟨⟨v, hv, rfl⟩, hs⟩ hw2 _
  generalize ckLast d.f1.now d.f2.now = x at *
  obtain ⟨f, n, b⟩ := x
  simp only at hv hl
  have old : ∀ j y, H.get j = some y → j ≠ H.next ∧ h.get j = some y := fun j y hj => by
    have := next_lt hw hj
    have e : j ≠ H.next := by omega
    exact ⟨e, hs j y (by simp [e, hj])⟩
  have gn : h.get H.next = some (.cells [.int .u64 0, .nilsl, .int .u64 0, .nilsl]) := hs _ _ (by simp)
  have gnn := next_lt hw2 gn
  have gnn' : H.next ≠ h.next := by omega
  by_cases hf : f = 0
  · subst hf
    simp [gn, slots, SlG, kp0]
    intro j y hj
    obtain ⟨q1, q2⟩ := old j y hj
    simp [q1, q2]
  simp only [hf, if_false]
  obtain ⟨u1, R1, e1⟩ : ∃ u R, (Rd.mk b false).U = (u, R) := ⟨_, _, rfl⟩
  obtain ⟨s2, R2, e2⟩ : ∃ u R, R1.S = (u, R) := ⟨_, _, rfl⟩
  obtain ⟨u3, R3, e3⟩ : ∃ u R, R2.U = (u, R) := ⟨_, _, rfl⟩
  obtain ⟨s4, R4, e4⟩ : ∃ u R, R3.S = (u, R) := ⟨_, _, rfl⟩
  have f1 := rdU_b e1 (by simpa using hl)
  have f2 := rdS_b e2 f1.2
  have f3 := rdU_b e3 f2.2
  have f4 := rdS_b e4 f3.2
  have hsl : slots (f, n, b) = if R4.bad = true ∨ 0 < R4.b.length then none else some (some ⟨u1, s2, u3, s4⟩) := by
    unfold slots
    simp only [hf, if_false, e1, e2, e3, e4]
  rw [hsl]
  simp [hf]
  refine does_usew (packRead_does hv (by omega) _) ?_
  rintro r H1 ⟨rk, rfl, hrk, hr, hs1⟩ hw3 _
  have hrk : h.next ≤ rk := hrk
  have hr : RdAt H1 rk ⟨b, false⟩ := hr
  have step : ∀ {Ha Hb : AHeap} {R : Rd}, ((∀ j x, j < h.next → h.get j = some x → Ha.get j = some x)) → RdTo Ha Hb rk R → ((∀ j x, j < h.next → h.get j = some x → Hb.get j = some x)) := by
    rintro Ha Hb R g1 ht j x hj hx
    rw [ht.off (by omega)]; exact g1 j x hj hx
  have G1 : (∀ j x, j < h.next → h.get j = some x → H1.get j = some x) := fun j x hj hx => hs1 j x hx
  simp
  refine does_usew (rdU_e e1 hr (by simpa using hl)) ?_
  rintro r H2 ⟨rfl, ht⟩ hw4 _
  have G2 := step G1 ht
  have hr := ht.at
  simp
  refine does_usew (rdS_e e2 hr f1.2) ?_
  rintro r H3 ⟨rfl, ht⟩ hw5 _
  have G3 := step G2 ht
  have hr := ht.at
  have rk3 : rk < H3.next := by obtain ⟨v, _, hc⟩ := hr; exact next_lt hw5 hc
  simp
  have m2 : s2.map (fun b => AV.int .u8 b.toNat) = strCs s2 := rfl
  rw [m2]
  have hr : RdAt (H3.push (.cells (strCs s2))) rk R2 := by
    obtain ⟨v, a1, a2⟩ := hr
    have e0 : rk ≠ H3.next := by omega
    exact ⟨v, a1, by simp [e0, a2]⟩
  have G3 : (∀ j x, j < h.next → h.get j = some x → (H3.push (.cells (strCs s2))).get j = some x) := fun j x hj hx => by
    have e0 : j ≠ H3.next := by omega
    simp [e0, G3 j x hj hx]
  refine does_usew (rdU_e e3 hr f2.2) ?_
  rintro r H4 ⟨rfl, ht⟩ hw6 _
  have G4 := step G3 ht
  have hp4 : H4.get H3.next = some (.cells (strCs s2)) := by rw [ht.off (by omega)]; simp
  have n4 : H4.next = H3.next + 1 := by rw [ht.next]; rfl
  have hr := ht.at
  simp
  refine does_usew (rdS_e e4 hr f3.2) ?_
  rintro r H5 ⟨rfl, ht⟩ hw7 _
  have G5 := step G4 ht
  have hp5 : H5.get H3.next = some (.cells (strCs s2)) := by rw [ht.off (by omega)]; exact hp4
  have n5 : H5.next = H3.next + 1 := by rw [ht.next, n4]
  have hr := ht.at
  have m4 : s4.map (fun b => AV.int .u8 b.toNat) = strCs s4 := rfl
  have g5 := G5 _ _ gnn gn
  have hz : H.next ≠ H5.next := by omega
  simp [m4, g5, hz]
  have rk0 : rk ≠ H.next := by omega
  have rk5 : rk ≠ H5.next := by omega
  generalize hV : AHeap.set (H5.push (.cells (strCs s4))) H.next _ = H6
  have hr6 : RdAt H6 rk R4 := by
    obtain ⟨v, a1, a2⟩ := hr
    exact ⟨v, a1, by rw [← hV]; simp [rk0, rk5, a2]⟩
  have z6 : H6.get H.next = some (.cells [.int .u64 u1, .sl H3.next 0 1 s2.length s2.length true, .int .u64 u3, .sl H5.next 0 1 s4.length s4.length true]) := by rw [← hV]; simp
  have p6 : H6.get H3.next = some (.cells (strCs s2)) := by
    have q1 : H3.next ≠ H.next := by omega
    have q2 : H3.next ≠ H5.next := by omega
    rw [← hV]; simp [q1, q2, hp5]
  have q6 : H6.get H5.next = some (.cells (strCs s4)) := by
    rw [← hV]; simp [hz.symm]
  have G6 : ∀ j x, H.get j = some x → H6.get j = some x ∧ j ≠ H.next := fun j x hj => by
    obtain ⟨o1, o2⟩ := old j x hj
    have o3 := next_lt hw2 o2
    have q2 : j ≠ H5.next := by omega
    exact ⟨by rw [← hV]; simp [o1, q2, G5 j x o3 o2], o1⟩
  refine does_use (rdBad_does hr6) ?_
  rintro r H7 ⟨rfl, rfl⟩
  have fin : ∀ X, ∀ j x, H.get j = some x → (H7.set H.next X).get j = some x := fun X j x hj => by
    obtain ⟨o1, o2⟩ := G6 j x hj
    simp [o1, o2]
  obtain ⟨b4, d4⟩ := R4
  cases d4 with
  | true =>
    simp [z6, SlG, kp0]
    exact fin _
  | false =>
    simp
    refine does_use (rdLeft_does hr6) ?_
    rintro r H8 ⟨rfl, rfl⟩
    by_cases h0 : b4 = []
    · subst h0
      simp [z6, SlG]
      have q1 : H3.next ≠ H.next := by omega
      have q2 : H5.next ≠ H.next := by omega
      exact ⟨fin _, H3.next, H5.next, by omega, by omega, by omega, by rw [if_neg q1]; exact p6, by rw [if_neg q2]; exact q6, rfl, rfl⟩
    · have c1 : (0 : Int) < b4.length := by have := List.length_pos_iff.2 h0; omega
      have c2 := List.length_pos_iff.2 h0
      simp [c1, c2, h0, z6, SlG, kp0]
      exact fin _
theorem slots_does {H : AHeap} {k : Nat} {d : Dk} (hk : DkAt H k d) (hok : dkOk d) (ho : d.off = false) (hl : (ckLast d.f1.now d.f2.now).2.2.length ≤ 1000000) :
    Does Tryz.prog G 32 [.ptr k 0] H (SlR H (slots (ckLast d.f1.now d.f2.now))) := by
  refine Does.wfs fun hw ha => (slots_run hk hok ho hl).ghost ?_
  rintro r h ⟨hs, h2⟩
  generalize slots (ckLast d.f1.now d.f2.now) = o at *
  match o, h2 with
  | none, h2 => exact ⟨_, _, Ghost.back hw (by rw [h2]; rfl) hs, rfl, h2⟩
  | some none, h2 => exact ⟨_, _, Ghost.back hw (by rw [h2]; rfl) hs, rfl, h2⟩
  | some (some k'), h2 =>
    obtain ⟨p, q, hpq, hp, hq, g1, g2, rfl⟩ := h2
    have e1 : List.take k'.whole.length (strCs k'.whole) = strCs k'.whole := by rw [← strCs_len, List.take_length]
    have e2 : List.take k'.state.length (strCs k'.state) = strCs k'.state := by rw [← strCs_len, List.take_length]
    have f1 := Ghost.frz (n := H.next) (r := .tuple [.agg [.int .u64 k'.last, .sl p 0 1 k'.whole.length k'.whole.length true, .int .u64 k'.stepped, .sl q 0 1 k'.state.length k'.state.length true], .bool true, .int .i64 0]) g1
    have g2' := frz_get (cs := strCs k'.whole) g2 hpq.symm
    rw [frzs_strCs] at g2'
    simp only [AV.frz, AV.frzs, if_true, if_neg hpq.symm, List.drop_zero, Nat.mul_one, e1] at f1
    have f2 := Ghost.frz (n := H.next) (r := .tuple [.agg [.int .u64 k'.last, .vsl (strCs k'.whole) k'.whole.length, .int .u64 k'.stepped, .sl q 0 1 k'.state.length k'.state.length true], .bool true, .int .i64 0]) g2'
    simp only [AV.frz, AV.frzs, if_true, List.drop_zero, Nat.mul_one, e2, frzs_strCs] at f2
    exact ⟨_, _, (f1.trans f2).trans (Ghost.back hw (by simp [AV.idLt, AV.allLt, strCs_lt]) (AHeap.frz_old hw hq (AHeap.frz_old hw hp hs))), rfl, rfl⟩
end Go.Proofs.YtekbjlihciedjaaGreatDoor

namespace Go.Abs
open Go
theorem aw_frz {P : Program} {G : Nat → Option AV} {N : Nat} {c : Code} {Q : Post} {T : Nat → AV} {H : AHeap} {i : Nat} {cs : List AV} (hi : H.get i = some (.cells cs))
    (h : AW P G N c Q (fun t => (T t).frz i cs) (H.frz i cs)) : AW P G N c Q T H := by
  intro E0 a w hG hs
  obtain ⟨⟨E, hx, hR, hT⟩, hd⟩ := hs
  obtain ⟨E', hx', hR', hk⟩ := hR.frz hi
  exact h E0 a w hG ⟨⟨E', hx.trans hx', hR', ⟨hT.size, fun t => hk (hT.rel t)⟩⟩, hd⟩
theorem aws_loopz {X : Ctx} {c : Code} {Q : Post} {T : Nat → AV} {H : AHeap} (I : Nat → (Nat → AV) → AHeap → Prop) (n : Nat) (h0 : I n T H)
    (round : ∀ n T H, I n T H → H.Wf → (∀ t, (T t).idLt H.next = true) → @AWf ⟨X⟩ ⟨c⟩ ⟨QThen (fun T' H' => ∃ m, m < n ∧ (I m T' H' ∨ ∃ i cs, H'.get i = some (.cells cs) ∧ I m (fun t => (T' t).frz i cs) (H'.frz i cs))) Q⟩ ⟨T⟩ H) : @AWs ⟨X⟩ ⟨.loop c⟩ ⟨Q⟩ ⟨T⟩ H := by
  refine aw_loop (fun n T' H' => I n T' H' ∨ ∃ i cs, H'.get i = some (.cells cs) ∧ I n (fun t => (T' t).frz i cs) (H'.frz i cs)) n (.inl h0) fun n T H h => ?_
  rcases h with h | ⟨i, cs, hi, h⟩
  · exact aw_wf fun hw ht => awf_of (round n T H h hw ht)
  · exact aw_frz hi (aw_wf fun hw ht => awf_of (round n _ _ h hw ht))
end Go.Abs

namespace Go.Proofs.YtekbjlihciedjaaGreatDoor
open Go Go.Abs Go.Rp
variable {G : Nat → Option AV}
theorem Gr_frz' {H : AHeap} {z n : Nat} {cs : List AV} {v : AV} {b : Nat → Prop} (h : Gr H z n cs v b) {i : Nat} {c : List AV} (hi : ∀ j, b j → j ≠ i) : Gr (H.frz i c) z n (AV.frzs i c cs) v b := by
  rcases h with ⟨h1, h2, h3⟩ | ⟨p, o, cap, op, pre, junk, h1, h2, h3, h4, h5, h6, h7⟩
  · exact .inl ⟨h1, by rw [h2]; rfl, h3⟩
  · refine .inr ⟨p, o, cap, op, AV.frzs i c pre, AV.frzs i c junk, h1, h2, ?_, by rw [frzs_len]; exact h4, by rw [frzs_len]; exact h5, by rw [frzs_len]; exact h6, h7⟩
    rw [frz_get h3 (hi p h2), frzs_append, frzs_append]
@[simp] theorem bV_cells (b : Bs) : (bV b).cells = [bV b] := (BtA.bV b).cells
@[simp] theorem bV_sc (b : Bs) : (bV b).scalar = true := (BtA.bV b).sc
theorem elemBs : ElemOk Tryz.prog 87 87 22 1 24 := ⟨by simp, ⟨.slice 22, by simp, rfl⟩, by simp⟩
def kpv : Option KpRec → AV
  | none => kp0
  | some k => kpV k
def rrecs (ko : Option KpRec) (l : List Bs) : Option (List Bs × Nat) := (recs (match ko with | none => 0 | some k => k.last) l).map fun x => ((match ko with | none => [] | some k => [k.whole]) ++ x.1, x.2)
def lens (l : List Bs) : Nat := (l.map List.length).sum
theorem lens_append (a b : List Bs) : lens (a ++ b) = lens a + lens b := by simp only [lens, List.map_append, List.sum_append]
theorem lens_take {l : List Bs} {j : Nat} (h : j < l.length) : lens (l.take (j + 1)) = lens (l.take j) + (l[j]).length ∧ lens (l.take (j + 1)) ≤ lens l := by
  refine ⟨?_, ?_⟩
  · rw [List.take_add_one, List.getElem?_eq_getElem h, lens_append]
    simp [lens]
  · have := lens_append (l.take (j + 1)) (l.drop (j + 1))
    rw [List.take_append_drop] at this
    omega
theorem bV_alen (b : Bs) : Go.Abs.alen Tryz.prog 22 (bV b) = some (.int .i64 b.length) := by simp [Go.Abs.alen, bV]
theorem u64_succ {n : Nat} (h : n < 2 ^ 64) : IntKind.u64.wrap ((n : Int) + 1) = ((n + 1) % 18446744073709551616 : Nat) := by
  by_cases hn : n + 1 < 18446744073709551616
  · rw [Nat.mod_eq_of_lt hn, IntWalk.u64_in _ (by omega)]; omega
  · have : n = 18446744073709551615 := by omega
    subst this
    decide
def rpC (a : List AV) (g last bytes : Nat) (e : List AV) : List AV := match a with
  | [a0, a1, a3, a4] => a0 :: a1 :: .ptr g 0 :: a3 :: a4 :: .int .u64 last :: .int .i64 bytes :: e
  | _ => []
def RcG (o : Option (List Bs × Nat)) (H : AHeap) (r g : Nat) (a e : List AV) (n : Nat) (x : AV) (h : AHeap) : Prop := match o with
  | none => x = .tuple [.nilsl, .bool false]
  | some (l, last) => (∃ v vs, x = .tuple [v, .bool true] ∧ Gr h 1 l.length vs v (fun j => H.next ≤ j) ∧ Bts vs l) ∧ h.get r = some (.cells (rpC a g last n e)) ∧ ∀ j y, j ≠ r → H.get j = some y → h.get j = some y
set_option maxHeartbeats 8000000 in
set_option maxRecDepth 100000 in
theorem records_run {H : AHeap} {r g k : Nat} {lv : AV} {L : Lg} {a0 a1 a3 a4 : AV} {e : List AV} (hr : H.get r = some (.cells (rpC [a0, a1, a3, a4] g 0 0 e))) (he : e.length = 7) (hg : LgAt H g k lv L) (hgr : g ≠ r) (hlr : ∀ i op, lv = .sl i 0 1 L.l.length L.l.length op → i ≠ r)
    (hn : L.l.length ≤ 1000000) (hb : ∀ b ∈ L.l, b.length ≤ 1000000) (hs : lens L.l ≤ 1000000000) {ko : Option KpRec} (hko : ∀ k, ko = some k → k.last < 2 ^ 64) :
    Does Tryz.prog G 34 [.ptr r 0, kpv ko, .bool ko.isSome] H (RcG (rrecs ko L.l) H r g [a0, a1, a3, a4] e (lens L.l)) := by
  refine Does.wf Tryz.call34 fun hw _ => ?_
  have hrr : ∃ e0 e1 e2 e3 e4 e5 e6, e = [e0, e1, e2, e3, e4, e5, e6] := by
    match e, he with
    | [a, b, c, d, e, f, g], _ => exact ⟨a, b, c, d, e, f, g, rfl⟩
  obtain ⟨e0, e1, e2, e3, e4, e5, e6, rfl⟩ := hrr
  simp only [rpC] at hr
  have hrn := next_lt hw hr
  have r1 : r ≠ H.next := by omega
  have r2 : r ≠ H.next + 1 := by omega
  have r3 : r ≠ H.next + 1 + 1 := by omega
  refine does_f Tryz.call34 Tryz.func34 rfl (by simp [Tryz.f34]) ?_
  obtain ⟨last0, pre, hlp⟩ : ∃ last0 pre, last0 = (match ko with | none => 0 | some k => k.last) ∧ pre = (match ko with | none => [] | some k => [k.whole]) := ⟨_, _, rfl, rfl⟩
  have lsKeep : ∀ {H1 : AHeap}, (∀ j y, j ≠ r → H.get j = some y → H1.get j = some y) → LgAt H1 g k lv L := fun hk1 => ⟨hk1 g _ hgr hg.1, hg.2.keep fun i op e => by
      rcases hg.2 with ⟨h, _⟩ | ⟨i', op', vs, h, hgi, _⟩
      · rw [h] at e; cases e
      · rw [e] at h; cases h
        rw [hgi, hk1 i _ (hlr i op e) hgi]⟩
  have nl : ∀ {j y}, H.get j = some y → j ≠ H.next ∧ j ≠ H.next + 1 ∧ j ≠ H.next + 1 + 1 := fun {j y} hj => by
    have := next_lt hw hj
    omega
  rcases ko with _ | kk
  case' none =>
    simp only at hlp
    simp [kpv, kp0, hr, r1, r2, r3]
    refine does_usew (lgLen_does (lsKeep fun j y jr hj => ?_)) ?_
    case' refine_1 => simp [jr, (nl hj).1, (nl hj).2.1, (nl hj).2.2, hj]
  case' some =>
    simp only at hlp
    have z3 : H.next ≠ H.next + 1 + 1 := by omega
    simp [kpv, kpV, hr, r1, r2, r3, z3]
    refine does_usew (lgLen_does (lsKeep fun j y jr hj => ?_)) ?_
    case' refine_1 => simp [jr, (nl hj).1, (nl hj).2.1, (nl hj).2.2, hj]
  case' none =>
    rintro x H1 ⟨rfl, hH1⟩ hw1 _
    obtain ⟨w, vs0, hw0, hG0, hB0⟩ : ∃ w vs0, w = .nilsl ∧ Gr H1 1 pre.length vs0 w (fun j => H.next < j) ∧ Bts vs0 pre := ⟨_, [], rfl, .inl ⟨by rw [hlp.2]; rfl, rfl, rfl⟩, by rw [hlp.2]; exact .nil⟩
    have hlast0 : last0 < 2 ^ 64 := by rw [hlp.1]; decide
    have hpl : pre.length ≤ 1 := by rw [hlp.2]; simp
    have hO : rrecs none L.l = (recs last0 L.l).map fun x => (pre ++ x.1, x.2) := by rw [hlp.1, hlp.2]; rfl
  case' some =>
    rintro x H1 ⟨rfl, hH1⟩ hw1 _
    obtain ⟨w, vs0, hw0, hG0, hB0⟩ : ∃ w vs0, w = .sl (H.next + 1 + 1) 0 1 1 1 true ∧ Gr H1 1 pre.length vs0 w (fun j => H.next < j) ∧ Bts vs0 pre := by
      refine ⟨_, [bV kk.whole], rfl, .inr ⟨H.next + 1 + 1, 0, 1, true, [], [], by rw [hlp.2]; rfl, by omega, by rw [hH1]; simp [r3.symm], rfl, by rw [hlp.2]; rfl, by rw [hlp.2]; rfl, by rw [hlp.2]; exact Nat.le_refl _⟩, by rw [hlp.2]; exact .cons (BtA.bV _) .nil⟩
    have hlast0 : last0 < 2 ^ 64 := by rw [hlp.1]; exact hko kk rfl
    have hpl : pre.length ≤ 1 := by rw [hlp.2]; simp
    have hO : rrecs (some kk) L.l = (recs last0 L.l).map fun x => (pre ++ x.1, x.2) := by rw [hlp.1, hlp.2]; rfl
  all_goals
    have hk1 : ∀ j y, j ≠ r → H.get j = some y → H1.get j = some y := fun j y jr hj => by rw [hH1]; simp [jr, (nl hj).1, (nl hj).2.1, (nl hj).2.2, hj]
    have hr1 : H1.get r = some (.cells (rpC [a0, a1, a3, a4] g last0 0 [e0, e1, e2, e3, e4, e5, e6])) := by rw [hH1, hlp.1]; simp [r1, r2, r3, hr, rpC]
    rw [hO]
    have hn1 : H.next < H1.next := by rw [hH1]; simp; try omega
    clear hO hlp hH1
    simp
    refine aws_loopz (fun m T' H' => ∃ j last sv w vs, j + m = L.l.length ∧ (recs last0 L.l).map (fun x => (pre ++ x.1, x.2)) = (recs last (L.l.drop j)).map (fun x => (sv ++ x.1, x.2)) ∧ last < 2 ^ 64 ∧ sv.length ≤ j + 1 ∧ Gr H' 1 sv.length vs w (fun j => H.next < j) ∧ Bts vs sv ∧
      H'.get r = some (.cells (rpC [a0, a1, a3, a4] g last (lens (L.l.take j)) [e0, e1, e2, e3, e4, e5, e6])) ∧ (∀ j y, j ≠ r → H.get j = some y → H'.get j = some y) ∧ H.next ≤ H'.next ∧ T' 0 = .ptr r 0 ∧ T' 8 = w ∧ T' 30 = .int .i64 L.l.length ∧ T' 31 = .int .i64 j) L.l.length ?_ ?_
    · refine ⟨0, last0, pre, w, vs0, by simp, by simp, hlast0, by simpa using hpl, hG0, hB0, by simpa [lens] using hr1, hk1, by omega, ?_, ?_, ?_, ?_⟩ <;> simp [hw0]
    clear hr1 hk1 hG0 hB0 hw0 hlast0 hw1 hn1
    rintro m T H' ⟨j, last, sv, w, vs, hjm, hO, hla, hsv, hG, hB, hr', hk, hHn, t0, t8, t30, t31⟩ hw1 _
    rw [hO]
    clear hO
    have hr0 := hr'
    simp only [rpC] at hr'
    have hwc := hG.cells
    have hws := hG.sc
    by_cases hj : j < L.l.length
    case neg =>
      have hjj : ¬ (j : Int) < L.l.length := by omega
      obtain rfl : j = L.l.length := by omega
      rw [List.drop_length, List.take_length] at *
      simp [t0, t8, t30, t31, recs, RcG, hwc, hws]
      exact ⟨⟨vs, hG.mono fun j hj => by omega, hB⟩, hr0, hk⟩
    have hjj : (j : Int) < L.l.length := by omega
    have hd : L.l.drop j = L.l[j] :: L.l.drop (j + 1) := List.drop_eq_getElem_cons hj
    have hgb : L.l[j]? = some L.l[j] := List.getElem?_eq_getElem hj
    have hlb := hb _ (List.getElem_mem hj)
    have htk := (lens_take hj).1
    have htl := (lens_take hj).2
    generalize L.l[j] = b at *
    rw [hd]
    have wr : IntKind.i64.wrap ((j : Int) + 1) = ((j + 1 : Nat) : Int) := by rw [IntWalk.i64_in _ (by omega)]; omega
    simp [t0, t8, t30, t31, hj, hjj, hr']
    refine does_use (lgGet_does (lsKeep hk) hgb (by omega)) ?_
    rintro x h ⟨rfl, rfl⟩
    simp
    refine does_usew (packRead_does (BtA.bV b) (by omega) _) ?_
    rintro x H1 ⟨rk, rfl, hrk, hrd, hs1⟩ hw2 _
    have hrd : RdAt H1 rk ⟨b, false⟩ := hrd
    have hrk1 : rk < H1.next := by obtain ⟨v, _, hc⟩ := hrd; exact next_lt hw2 hc
    have hrk : h.next ≤ rk := hrk
    obtain ⟨u1, R1, eU⟩ : ∃ u R, (Rd.mk b false).U = (u, R) := ⟨_, _, rfl⟩
    obtain ⟨s2, R2, eS⟩ : ∃ u R, R1.S = (u, R) := ⟨_, _, rfl⟩
    have f1 := rdU_b eU (by simpa using hlb)
    have f2 := rdS_b eS f1.2
    simp
    refine does_usew (rdU_e eU hrd (by simpa using hlb)) ?_
    rintro x H2 ⟨rfl, ht⟩ hw3 _
    have hs2 : ∀ q y, h.get q = some y → H2.get q = some y := fun q y hq => by
      have := next_lt hw1 hq
      rw [ht.off (by omega)]; exact hs1 q y hq
    have hrd := ht.at
    have hn2 : h.next < H2.next := by
      have := ht.next
      omega
    simp
    refine does_usew (rdS_e eS hrd f1.2) ?_
    rintro x H3 ⟨rfl, ht⟩ hw4 _
    have hs3 : ∀ q y, h.get q = some y → H3.get q = some y := fun q y hq => by
      have := next_lt hw1 hq
      rw [ht.off (by omega)]; exact hs2 q y hq
    have hrd := ht.at
    have hn3 : h.next ≤ H3.next := by
      have := ht.next
      omega
    clear ht hs1 hs2
    simp
    refine does_use (rdBad_does hrd) ?_
    rintro x h4 ⟨rfl, rfl⟩
    have hrec : recs last (b :: L.l.drop (j + 1)) = if R2.bad = true ∨ 0 < R2.b.length ∨ u1 = 0 ∨ (last + 1) % 18446744073709551616 < u1 then none
        else if u1 = (last + 1) % 18446744073709551616 then (recs ((last + 1) % 18446744073709551616) (L.l.drop (j + 1))).map fun x => (s2 :: x.1, x.2) else recs last (L.l.drop (j + 1)) := by
      simp only [recs, eU, eS]
    have wl := u64_succ hla
    have hnxl : (last + 1) % 18446744073709551616 < 2 ^ 64 := Nat.mod_lt _ (by decide)
    rw [hrec]
    clear hrec
    have hr3 := hs3 _ _ hr'
    generalize (last + 1) % 18446744073709551616 = nx at *
    obtain ⟨b2, d2⟩ := R2
    cases d2 with
    | true =>
      simp [RcG]
    | false =>
      simp
      refine does_use (rdLeft_does hrd) ?_
      rintro x h5 ⟨rfl, rfl⟩
      by_cases h0 : b2 = []
      case neg =>
        have c2 := List.length_pos_iff.2 h0
        have c1 : (0 : Int) < b2.length := by omega
        simp [c1, c2, h0, RcG]
      subst h0
      by_cases hu0 : u1 = 0
      · have hu0' : (u1 : Int) = 0 := by omega
        simp [hu0, hu0', RcG]
      have hu0' : ¬ (u1 : Int) = 0 := by omega
      by_cases hnx : nx < u1
      · have hnx' : (nx : Int) < u1 := by omega
        simp [hu0, hu0', t0, hr3, wl, hnx, hnx', RcG]
      have hnx' : ¬ (nx : Int) < u1 := by omega
      have wb : IntKind.i64.wrap ((lens (L.l.take j) : Int) + b.length) = (lens (L.l.take (j + 1)) : Nat) := by rw [htk, IntWalk.i64_in _ (by omega)]; omega
      simp [hu0, hu0', t0, hr3, wl, hnx, hnx', bV_alen, wb, -alen]
      have hrn4 := next_lt hw4 hr3
      have hG5 : Gr h5 1 sv.length vs w (fun j => H.next < j ∧ j < h.next) := by
        have : Gr h 1 sv.length vs w (fun j => H.next < j ∧ j < h.next) := (Gr_lt hG fun j x => next_lt hw1).mono fun j hj => ⟨hj.1, hj.2.1⟩
        exact this.keep fun j x _ hx => hs3 j x hx
      by_cases hun : u1 = nx
      case neg =>
        have hun' : ¬ (u1 : Int) = nx := by omega
        rw [if_neg hun]
        simp [hun, hun', t0, t8, t30, t31]
        refine ⟨m - 1, by omega, .inl ⟨j + 1, by omega, last, sv, by simp [hu0, hnx], hla, by omega, w, vs, (hG5.keep fun q x hq hx => ?_).mono fun q hq => hq.1, hB, rfl, fun q y hq hy => ?_, by omega, rfl, wr⟩⟩
        · have : q ≠ r := by omega
          simp [this, hx]
        · simp [hq, hs3 _ _ (hk q y hq hy)]
      have hun' : (u1 : Int) = nx := by omega
      rw [if_pos hun]
      have ms : s2.map (fun b => AV.int .u8 b.toNat) = strCs s2 := rfl
      have h5n := next_lt hw4 (hs3 _ _ hr')
      have hn5 : h.next ≤ h5.next := hn3
      have r5 : r ≠ h5.next := by omega
      have r6 : r ≠ h5.next + 1 := by omega
      have hG6 : Gr (((h5.set r (.cells (rpC [a0, a1, a3, a4] g last (lens (L.l.take (j + 1))) [e0, e1, e2, e3, e4, e5, e6]))).push (.cells (strCs s2))).push (.cells [.sl h5.next 0 1 s2.length s2.length true])) 1 sv.length vs w (fun j => H.next < j ∧ j < h.next) :=
        hG5.keep fun q x hq hx => by
          have q1 : q ≠ r := by omega
          have q2 : q ≠ h5.next := by omega
          have q3 : q ≠ h5.next + 1 := by omega
          simp [q1, q2, q3, hx]
      obtain ⟨v', eff, g1, g2, g3, g4⟩ := hG6.app elemBs (m := 1) (x := .sl (h5.next + 1) 0 1 1 1 false) (news := [.sl h5.next 0 1 s2.length s2.length true]) (fun _ _ e => by cases e) rfl (by simp [afirst]) rfl rfl (by omega) (by omega) (by omega) (by omega) (nx := h5.next + 1 + 1) rfl
      simp only [rpC] at g1 g2 g3 g4
      have vc := g2.cells
      have vsc := g2.sc
      simp [hun, hun', t0, t8, t30, t31, ms, -aappend]
      rw [g1]
      generalize hH6 : ((h5.set r (.cells [a0, a1, .ptr g 0, a3, a4, .int .u64 last, .int .i64 (lens (L.l.take (j + 1))), e0, e1, e2, e3, e4, e5, e6])).push (.cells (strCs s2))).push (.cells [.sl h5.next 0 1 s2.length s2.length true]) = H6 at *
      have n6 : H6.next = h5.next + 1 + 1 := by rw [← hH6]; rfl
      have hr6 : (H6.eff eff).get r = some (.cells [a0, a1, .ptr g 0, a3, a4, .int .u64 last, .int .i64 (lens (L.l.take (j + 1))), e0, e1, e2, e3, e4, e5, e6]) := by
        rw [g3 r (by omega) (by omega), ← hH6]
        simp [r5, r6]
      have hp6 : (H6.eff eff).get h5.next = some (.cells (strCs s2)) := by
        rw [g3 h5.next (by omega) (by omega), ← hH6]
        simp
      simp [t0, hr6, t8, t30, t31, vc, vsc]
      have vfz : AV.frz h5.next (strCs s2) v' = v' := Gr_frzV g2 fun q hq => by omega
      have hec := (hw r _ hr).2
      simp only [AObj.cellsList, AV.allLt, Bool.and_eq_true] at hec
      obtain ⟨f0, f1', f2', f3, f4', _, _, f7⟩ := hec
      have pc : h5.next ≠ r := r5.symm
      refine ⟨m - 1, by omega, .inr ⟨h5.next, strCs s2, by rw [if_neg pc]; exact hp6, j + 1, by omega, nx, sv ++ [s2], ?_, hnxl, by simp; omega, v', AV.frzs h5.next (strCs s2) (vs ++ [.sl h5.next 0 1 s2.length s2.length true]), ?_, ?_, ?_, fun q y hq hy => ?_, ?_, ?_, vfz, rfl, ?_⟩⟩
      · rw [if_neg (by simp [hu0, hnx])]
        cases recs nx (List.drop (j + 1) L.l) with
        | none => rfl
        | some x => simp
      · rw [List.length_append]
        have g5 : Gr ((H6.eff eff).set r (.cells [a0, a1, .ptr g 0, a3, a4, .int .u64 u1, .int .i64 (lens (L.l.take (j + 1))), e0, e1, e2, e3, e4, e5, e6])) 1 (sv.length + 1) (vs ++ [.sl h5.next 0 1 s2.length s2.length true]) v' (fun q => H.next < q ∧ q ≠ h5.next) :=
          (g2.keep fun q x hq hx => by
            have : q ≠ r := by rcases hq with hq | hq <;> omega
            simp [this, hx]).mono fun q hq => by
              rcases hq with hq | hq <;> exact ⟨by omega, by omega⟩
        exact (Gr_frz' g5 fun q hq => hq.2).mono fun q hq => hq.1
      · rw [frzs_append]
        have e1 : AV.frzs h5.next (strCs s2) [.sl h5.next 0 1 s2.length s2.length true] = [bV s2] := by simp [AV.frzs, AV.frz, bV, take_strCs]
        rw [e1]
        exact (hB.frz _ _).snoc (BtA.bV s2)
      · rw [frz_get (c := [a0, a1, .ptr g 0, a3, a4, .int .u64 u1, .int .i64 (lens (L.l.take (j + 1))), e0, e1, e2, e3, e4, e5, e6]) (by simp) r5]
        have hle : H.next ≤ h5.next := by omega
        simp only [AV.frzs, AV.frz_lt hle _ f0, AV.frz_lt hle _ f1', AV.frz_lt hle _ f2', AV.frz_lt hle _ f3, AV.frz_lt hle _ f4', rpC, hun', AV.frz_lt hle _ f7.1, AV.frz_lt hle _ f7.2.1, AV.frz_lt hle _ f7.2.2.1, AV.frz_lt hle _ f7.2.2.2.1, AV.frz_lt hle _ f7.2.2.2.2.1, AV.frz_lt hle _ f7.2.2.2.2.2.1, AV.frz_lt hle _ f7.2.2.2.2.2.2.1]
        rfl
      · refine frz_old1 hw (by omega) hy ?_
        have hq5 : q < h.next := next_lt hw1 (hk q y hq hy)
        have q0 : q ≤ H.next := by have := next_lt hw hy; omega
        simp only [AHeap.get_set, if_neg hq]
        rw [g3 q (by omega) (by omega), ← hH6]
        have q2 : q ≠ h5.next := by omega
        have q3 : q ≠ h5.next + 1 := by omega
        simp [hq, q2, q3, hs3 _ _ (hk q y hq hy)]
      · simp only [AHeap.frz, AHeap.next_set]
        omega
      · simp [AV.frz, r5]
      · rw [wr]; rfl
def RcF (o : Option (List Bs × Nat)) (H : AHeap) (r g : Nat) (a e : List AV) (n : Nat) (x : AV) (h : AHeap) : Prop := match o with
  | none => x = .tuple [.nilsl, .bool false]
  | some (l, last) => (∃ v, x = .tuple [v, .bool true] ∧ BsF v l) ∧ h.get r = some (.cells (rpC a g last n e)) ∧ ∀ j y, j ≠ r → H.get j = some y → h.get j = some y
theorem records_does {H : AHeap} {r g k : Nat} {lv : AV} {L : Lg} {a0 a1 a3 a4 : AV} {e : List AV} (hr : H.get r = some (.cells (rpC [a0, a1, a3, a4] g 0 0 e))) (he : e.length = 7) (hg : LgAt H g k lv L) (hgr : g ≠ r) (hlr : ∀ i op, lv = .sl i 0 1 L.l.length L.l.length op → i ≠ r)
    (hn : L.l.length ≤ 1000000) (hb : ∀ b ∈ L.l, b.length ≤ 1000000) (hs : lens L.l ≤ 1000000000) {ko : Option KpRec} (hko : ∀ k, ko = some k → k.last < 2 ^ 64) :
    Does Tryz.prog G 34 [.ptr r 0, kpv ko, .bool ko.isSome] H (RcF (rrecs ko L.l) H r g [a0, a1, a3, a4] e (lens L.l)) := by
  refine Does.wfs fun hw ha => (records_run hr he hg hgr hlr hn hb hs hko).ghost ?_
  intro x h hx
  generalize rrecs ko L.l = o at *
  match o, hx with
  | none, hx => exact ⟨_, _, Ghost.refl, hx⟩
  | some (l, last), hx =>
    obtain ⟨⟨v, vs, rfl, h1, h2⟩, h3, h4⟩ := hx
    rcases h1 with ⟨a1, a2, rfl⟩ | ⟨p, o, cap, op, pre, junk, rfl, b2, b3, b4, b5, b6, b7⟩
    · exact ⟨_, _, Ghost.refl, ⟨.nilsl, rfl, .inl ⟨rfl, List.length_eq_zero_iff.1 a1⟩⟩, h3, h4⟩
    · have hrn := next_lt hw hr
      have ev : AV.frz p (pre ++ (vs ++ junk)) (.tuple [.sl p o 1 l.length cap op, .bool true]) = .tuple [.vsl vs l.length, .bool true] := by
        simp only [AV.frz, AV.frzs, if_true, List.drop_left' b4, List.take_left' b5]
      have f1 := Ghost.frz (n := H.next) (r := .tuple [.sl p o 1 l.length cap op, .bool true]) b3
      rw [ev] at f1
      refine ⟨_, _, f1, ⟨_, rfl, .inr ⟨vs, [], by rw [List.append_nil], h2⟩⟩, ?_, fun j y hj hy => frz_old1 hw b2 hy (h4 j y hj hy)⟩
      have hrr : ∃ e0 e1 e2 e3 e4 e5 e6, e = [e0, e1, e2, e3, e4, e5, e6] := by
        match e, he with
        | [a, b, c, d, e, f, g], _ => exact ⟨a, b, c, d, e, f, g, rfl⟩
      obtain ⟨e0, e1, e2, e3, e4, e5, e6, rfl⟩ := hrr
      have hec := (hw r _ hr).2
      simp only [AObj.cellsList, AV.allLt, Bool.and_eq_true, rpC] at hec
      obtain ⟨f0, f1', f2', f3, f4', _, _, f7⟩ := hec
      rw [frz_get h3 (by omega)]
      simp only [AV.frzs, AV.frz_lt b2 _ f0, AV.frz_lt b2 _ f1', AV.frz_lt b2 _ f2', AV.frz_lt b2 _ f3, AV.frz_lt b2 _ f4', rpC, AV.frz_lt b2 _ f7.1, AV.frz_lt b2 _ f7.2.1, AV.frz_lt b2 _ f7.2.2.1, AV.frz_lt b2 _ f7.2.2.2.1, AV.frz_lt b2 _ f7.2.2.2.2.1, AV.frz_lt b2 _ f7.2.2.2.2.2.1, AV.frz_lt b2 _ f7.2.2.2.2.2.2.1]
      rfl
end Go.Proofs.YtekbjlihciedjaaGreatDoor

namespace Go.Rp
open Go Go.Abs
def addI (a b : Int) : Int := IntKind.u32.wrap (a + b)
def xorI (a b : Int) : Int := IntKind.u32.wrap ((BitVec.ofInt IntKind.u32.bits a ^^^ BitVec.ofInt IntKind.u32.bits b).toNat : Nat)
def andI (a b : Int) : Int := IntKind.u32.wrap ((BitVec.ofInt IntKind.u32.bits a &&& BitVec.ofInt IntKind.u32.bits b).toNat : Nat)
def orI (a b : Int) : Int := IntKind.u32.wrap ((BitVec.ofInt IntKind.u32.bits a ||| BitVec.ofInt IntKind.u32.bits b).toNat : Nat)
def shlI (a : Int) (n : Nat) : Int := IntKind.u32.wrap (a * 2 ^ (min n IntKind.u32.bits))
def shrI (a : Int) (n : Nat) : Int := a.fdiv (2 ^ (min n IntKind.u32.bits))
def notI (a : Int) : Int := IntKind.u32.wrap ((BitVec.ofInt IntKind.u32.bits (if IntKind.u32.signed then -1 else IntKind.u32.max) ^^^ BitVec.ofInt IntKind.u32.bits a).toNat : Nat)
def cvI (n : Int) : Int := IntKind.u32.wrap n
def rotI (x : Int) (n : Nat) : Int := orI (shlI x n) (shrI x (32 - n))
theorem o_add (a b : Int) : aint2 .add .u32 a b = some (.int .u32 (addI a b)) := rfl
theorem o_xor (a b : Int) : aint2 .xor .u32 a b = some (.int .u32 (xorI a b)) := rfl
theorem o_and (a b : Int) : aint2 .and .u32 a b = some (.int .u32 (andI a b)) := rfl
theorem o_or (a b : Int) : aint2 .or .u32 a b = some (.int .u32 (orI a b)) := rfl
theorem o_add64 (a b : Int) : aint2 .add .i64 a b = some (.int .i64 (IntKind.i64.wrap (a + b))) := rfl
theorem o_sub64 (a b : Int) : aint2 .sub .i64 a b = some (.int .i64 (IntKind.i64.wrap (a - b))) := rfl
theorem o_mul64 (a b : Int) : aint2 .mul .i64 a b = some (.int .i64 (IntKind.i64.wrap (a * b))) := rfl
theorem o_lss64 (a b : Int) : aint2 .lss .i64 a b = some (.bool (decide (a < b))) := rfl
theorem o_geq64 (a b : Int) : aint2 .geq .i64 a b = some (.bool (decide (a ≥ b))) := rfl
theorem o_subU (a b : Int) : aint2 .sub .u64 a b = some (.int .u64 (IntKind.u64.wrap (a - b))) := rfl
theorem o_mulU (a b : Int) : aint2 .mul .u64 a b = some (.int .u64 (IntKind.u64.wrap (a * b))) := rfl
theorem o_shl (a : Int) (n : Nat) : ashift .shl .u32 a (n : Int) = some (.int .u32 (shlI a n)) := by simp only [ashift]; rw [if_neg (by omega)]; rfl
theorem o_shr (a : Int) (n : Nat) : ashift .shr .u32 a (n : Int) = some (.int .u32 (shrI a n)) := by simp only [ashift]; rw [if_neg (by omega)]; rfl
theorem o_not (a : Int) : aun .xor (.int .u32 a) = some (.int .u32 (notI a)) := rfl
theorem o_shl24 (a : Int) : ashift .shl .u32 a 24 = some (.int .u32 (shlI a 24)) := rfl
theorem o_shl16 (a : Int) : ashift .shl .u32 a 16 = some (.int .u32 (shlI a 16)) := rfl
theorem o_shl8 (a : Int) : ashift .shl .u32 a 8 = some (.int .u32 (shlI a 8)) := rfl
theorem o_shr3 (a : Int) : ashift .shr .u32 a 3 = some (.int .u32 (shrI a 3)) := rfl
theorem o_shr10 (a : Int) : ashift .shr .u32 a 10 = some (.int .u32 (shrI a 10)) := rfl
def u32s (l : List Int) : List AV := l.map (.int .u32 ·)
theorem u32s_len (l : List Int) : (u32s l).length = l.length := by simp [u32s]
theorem u32s_set (l : List Int) (i : Nat) (x : Int) : (u32s l).set i (.int .u32 x) = u32s (l.set i x) := by simp [u32s, List.map_set]
theorem u32s_at {l : List Int} {i : Nat} (h : i < l.length) : (u32s l)[i]? = some (.int .u32 (l.getD i 0)) := by simp [u32s, h]
theorem u32s_sc (l : List Int) : (u32s l).all AV.scalar = true := by simp [u32s]
def byteI (b : Bs) (i : Nat) : Int := cvI ((b.getD i 0).toNat : Int)
def word0 (b : Bs) (i : Nat) : Int := orI (orI (orI (shlI (byteI b (4 * i)) 24) (shlI (byteI b (4 * i + 1)) 16)) (shlI (byteI b (4 * i + 2)) 8)) (byteI b (4 * i + 3))
def words0 (b : Bs) : Nat → List Int → List Int
  | 0, w => w
  | i + 1, w => (words0 b i w).set i (word0 b i)
def word1 (w : List Int) (i : Nat) : Int :=
  addI (addI (addI (w.getD (i - 16) 0) (xorI (xorI (rotI (w.getD (i - 15) 0) 25) (rotI (w.getD (i - 15) 0) 14)) (shrI (w.getD (i - 15) 0) 3))) (w.getD (i - 7) 0)) (xorI (xorI (rotI (w.getD (i - 2) 0) 15) (rotI (w.getD (i - 2) 0) 13)) (shrI (w.getD (i - 2) 0) 10))
def words1 : Nat → List Int → List Int
  | 0, w => w
  | i + 1, w => (words1 i w).set (16 + i) (word1 (words1 i w) (16 + i))
def zeros (n : Nat) : List Int := List.replicate n 0
def sched (b : Bs) : List Int := words1 48 (words0 b 16 (zeros 64))
theorem words0_len (b : Bs) (w : List Int) : ∀ i, (words0 b i w).length = w.length
  | 0 => rfl
  | i + 1 => by simp [words0, words0_len b w i]
theorem words1_len (w : List Int) : ∀ i, (words1 i w).length = w.length
  | 0 => rfl
  | i + 1 => by simp [words1, words1_len w i]
theorem sched_len (b : Bs) : (sched b).length = 64 := by simp [sched, words1_len, words0_len, zeros]
def rnd (k w : Int) (v : List Int) : List Int :=
  let a := v.getD 0 0
  let e := v.getD 4 0
  let s1 := xorI (xorI (rotI e 26) (rotI e 21)) (rotI e 7)
  let t1 := addI (addI (addI (addI (v.getD 7 0) s1) (xorI (andI e (v.getD 5 0)) (andI (notI e) (v.getD 6 0)))) k) w
  let s0 := xorI (xorI (rotI a 30) (rotI a 19)) (rotI a 10)
  let t2 := addI s0 (xorI (xorI (andI a (v.getD 1 0)) (andI a (v.getD 2 0))) (andI (v.getD 1 0) (v.getD 2 0)))
  [addI t1 t2, v.getD 0 0, v.getD 1 0, v.getD 2 0, addI (v.getD 3 0) t1, v.getD 4 0, v.getD 5 0, v.getD 6 0]
def rnds (k w : List Int) : Nat → List Int → List Int
  | 0, v => v
  | i + 1, v => rnd (k.getD i 0) (w.getD i 0) (rnds k w i v)
theorem rnd_len (k w : Int) (v : List Int) : (rnd k w v).length = 8 := rfl
theorem rnds_len (k w : List Int) {v : List Int} (h : v.length = 8) : ∀ i, (rnds k w i v).length = 8
  | 0 => h
  | i + 1 => rnd_len _ _ _
def adds (h v : List Int) : Nat → List Int
  | 0 => h
  | i + 1 => (adds h v i).set i (addI ((adds h v i).getD i 0) (v.getD i 0))
theorem adds_len (h v : List Int) : ∀ i, (adds h v i).length = h.length
  | 0 => rfl
  | i + 1 => by simp [adds, adds_len h v i]
def mixI (k : List Int) (h : List Int) (b : Bs) : List Int := adds h (rnds k (sched b) 64 h) 8
theorem mixI_len (k : List Int) {h : List Int} (hh : h.length = 8) (b : Bs) : (mixI k h b).length = 8 := by rw [mixI, adds_len, hh]
def blocksI (k : List Int) : Nat → List Int → Bs → List Int
  | 0, h, _ => h
  | n + 1, h, b => if 64 ≤ b.length then blocksI k n (mixI k h (b.take 64)) (b.drop 64) else h
end Go.Rp
