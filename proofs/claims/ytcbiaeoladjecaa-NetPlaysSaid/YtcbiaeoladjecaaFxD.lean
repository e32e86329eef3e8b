/-
  A quick evaluator for closed calls, fourth part: operations that look at no memory are right.
-/
import Derived.Test.YtcbiaeoladjecaaFxC
namespace Go.Abs
open Go

section
variable {P : Program} {G : Nat → Option AV} {T : ET} {k : AV → Bool}

theorem abin_int {op : BinOp} {t : TypeId} {x y : Operand} {kd : IntKind} {m n : Int} (h1 : op ≠ .shl) (h2 : op ≠ .shr) : abin P op t x y (.int kd m) (.int kd n) = aint2 op kd m n := by
  cases op <;> simp_all [abin]

theorem fpure_sound (o : Oper) (h : (fpure P G o).run P G o T k = true) : GoodP P G o T k := by
  unfold fpure at h
  split at h
  · rename_i x ho
    exact fx1_good (fun y hy hr => by have hr : k (y.get T) = true := hr; exact ⟨y.get T, by simp [apure, ho, hy], hr⟩) h
  · rename_i x ho
    exact fx1_good (fun y hy hr => by have hr : k (y.get T) = true := hr; exact ⟨y.get T, by simp [apure, ho, hy], hr⟩) h
  · rename_i c a b ho
    split at h
    · rename_i c' a' b' hc ha hb
      have h : (c'.get T).onBool false (fun t => ifK t (k (a'.get T)) (k (b'.get T))) = true := h
      rcases AV.onBool_inv h with ⟨t, ht, h⟩ | ⟨h, _⟩
      · cases t
        · exact ⟨b'.get T, by simp [apure, ho, fx_eq hc, ht, fx_eq hb], h⟩
        · exact ⟨a'.get T, by simp [apure, ho, fx_eq hc, ht, fx_eq ha], h⟩
      · simp at h
    · exact genP_inv h
  · rename_i x ho
    refine fx1_good (fun y hy hr => ?_) h
    generalize hv : y.get T = v at hy
    have hr : (FP.nilc y).run P G o T k = true := hr
    unfold FP.run at hr
    simp only [hv] at hr
    cases v <;> first
      | exact ⟨_, by simp [apure, ho, hy], hr⟩
      | exact genP_inv hr
      | simp at hr
  · rename_i op t x y z ho
    refine fx2_good (fun a b ha hb hr => ?_) h
    have hr : (a.get T).onInt ((a.get T).onStr (genP P G o T k) fun s => (b.get T).onStr (genP P G o T k) fun t => fstr op s t k (genP P G o T k))
      (fun kd m => (b.get T).onInt (genP P G o T k) fun kd' n => ifK (kindB kd kd') (fint op kd m n k (genP P G o T k)) (genP P G o T k)) = true := hr
    rcases AV.onInt_inv hr with ⟨kd, m, hm, hr⟩ | ⟨hr, _⟩
    · rcases AV.onInt_inv hr with ⟨kd', n, hn, hr⟩ | ⟨hr, _⟩
      · by_cases hk : kd = kd'
        · subst hk
          rw [kindB_eq.2 rfl, ifK_true] at hr
          rcases fint_inv hr with ⟨v, hv, h1, h2, hr⟩ | hr
          · exact ⟨v, by simp only [apure, ho, ha, hb, hm, hn]; rw [abin_int h1 h2]; exact hv, hr⟩
          · exact genP_inv hr
        · have : kindB kd kd' = false := by
            cases hh : kindB kd kd'
            · rfl
            · exact absurd (kindB_eq.1 hh) hk
          rw [this, ifK_false] at hr
          exact genP_inv hr
      · exact genP_inv hr
    · rcases AV.onStr_inv hr with ⟨s, hs, hr⟩ | ⟨hr, _⟩
      · rcases AV.onStr_inv hr with ⟨t', ht, hr⟩ | ⟨hr, _⟩
        · rcases fstr_inv hr with ⟨v, hv, hr⟩ | hr
          · exact ⟨v, by simp only [apure, ho, ha, hb, hs, ht, abin]; exact hv, hr⟩
          · exact genP_inv hr
        · exact genP_inv hr
      · exact genP_inv hr
  · rename_i t x ho
    refine fx1_good (fun y hy hr => ?_) h
    have hr : (y.get T).onBool false (fun b => k (.bool (notK b))) = true := hr
    rcases AV.onBool_inv hr with ⟨b, hb, hr⟩ | ⟨hr, _⟩
    · exact ⟨.bool !b, by simp [apure, ho, hy, hb, aun], by rw [notK_eq] at hr; exact hr⟩
    · simp at hr
  · rename_i s d x ho
    split at h
    · rename_i u kd hs hd
      refine fx1_good (fun y hy hr => ?_) h
      have hr : (y.get T).onInt (genP P G o T k) (fun _ n => k (.int kd (fwrap kd n))) = true := hr
      rcases AV.onInt_inv hr with ⟨kd', n, hn, hr⟩ | ⟨hr, _⟩
      · exact ⟨.int kd (kd.wrap n), by simp [apure, ho, hy, hn, aconv, hs, hd], by rw [fwrap_eq] at hr; exact hr⟩
      · exact genP_inv hr
    · exact genP_inv h
  · rename_i t x f ho
    split at h
    · rename_i fs hu
      split at h
      · rename_i fd hf
        split at h
        · rename_i n hz
          refine fx1_good (fun y hy hr => ?_) h
          have hr : (y.get T).onPtr false (fun i o => k (.ptr i (Nat.add o fd.offset))) (fun cs => k (.vptr (cs.drop fd.offset))) = true := hr
          rcases AV.onPtr_inv hr with ⟨i, off, hv, hr⟩ | ⟨cs, hv, hr⟩
          · exact ⟨_, by simp [apure, ho, hy, hv, afieldAddr, hu, hf, hz], hr⟩
          · exact ⟨_, by simp [apure, ho, hy, hv, afieldAddr, hu, hf, hz], hr⟩
        · exact genP_inv h
      · exact genP_inv h
    · exact genP_inv h
  · rename_i t x f ho
    split at h
    · rename_i fs hu
      split at h
      · rename_i fd hf
        split at h
        · rename_i n ha hz
          refine fx1_good (fun y hy hr => ?_) h
          have hr : (y.get T).onAgg false (fun cs => k (.agg ((cs.drop fd.offset).take n))) = true := hr
          obtain ⟨cs, hv, hr⟩ := AV.onAgg_inv hr
          exact ⟨_, by simp only [apure, ho, hy, hv, afield, hu, hf, apart', ha, hz], hr⟩
        · rename_i n ha hz
          refine fx1_good (fun y hy hr => ?_) h
          have hr : (y.get T).onAgg false (fun cs => nthK cs fd.offset k false) = true := hr
          obtain ⟨cs, hv, hr⟩ := AV.onAgg_inv hr
          rw [nthK_eq] at hr
          split at hr
          · rename_i a hca
            exact ⟨a, by simp only [apure, ho, hy, hv, afield, hu, hf, apart', ha, hz, hca], hr⟩
          · simp at hr
        · exact genP_inv h
      · exact genP_inv h
    · exact genP_inv h
  · rename_i t x i ho
    split at h
    · rename_i e hu
      split at h
      · rename_i z hz
        refine fx2_good (fun a b ha hb hr => ?_) h
        have hr : (b.get T).onInt false (fun _ n => onNat n fun m => (a.get T).onSl false false (fun i o z' len _ _ => ifK (Nat.blt m len) (ifK (Nat.beq z z') (k (.ptr i (Nat.add o (Nat.mul m z)))) false) false) (fun cs len => ifK (Nat.blt m len) (k (.vptr (cs.drop (Nat.mul m z)))) false)) = true := hr
        rcases AV.onInt_inv hr with ⟨kd, n, hn, hr⟩ | ⟨hr, _⟩
        · obtain ⟨m, rfl, hr⟩ := onNat_inv hr
          rcases AV.onSl_inv hr with ⟨hv, hr⟩ | ⟨j, off, z', len, cap, opn, hv, hr⟩ | ⟨cs, len, hv, hr⟩
          · simp at hr
          · have hr : ifK (Nat.blt m len) (ifK (Nat.beq z z') (k (.ptr j (Nat.add off (Nat.mul m z)))) false) false = true := hr
            obtain ⟨h1, hr⟩ := ifK_inv hr
            obtain ⟨h2, hr⟩ := ifK_inv hr
            have h1 : m < len := Nat.le_of_ble_eq_true h1
            have h2 : z = z' := by simpa using h2
            exact ⟨_, by simp [apure, ho, ha, hb, hn, hv, aindexAddr, hu, hz, h1, h2], hr⟩
          · obtain ⟨h1, hr⟩ := ifK_inv hr
            have h1 : m < len := Nat.le_of_ble_eq_true h1
            exact ⟨_, by simp [apure, ho, ha, hb, hn, hv, aindexAddr, hu, hz, h1], hr⟩
        · simp at hr
      · exact genP_inv h
    · rename_i len e hu
      split at h
      · rename_i z hz
        refine fx2_good (fun a b ha hb hr => ?_) h
        have hr : (b.get T).onInt false (fun _ n => onNat n fun m => ifK (Nat.blt m len) ((a.get T).onPtr false (fun i o => k (.ptr i (Nat.add o (Nat.mul m z)))) (fun cs => k (.vptr (cs.drop (Nat.mul m z))))) false) = true := hr
        rcases AV.onInt_inv hr with ⟨kd, n, hn, hr⟩ | ⟨hr, _⟩
        · obtain ⟨m, rfl, hr⟩ := onNat_inv hr
          obtain ⟨h1, hr⟩ := ifK_inv hr
          have h1 : m < len := Nat.le_of_ble_eq_true h1
          rcases AV.onPtr_inv hr with ⟨j, off, hv, hr⟩ | ⟨cs, hv, hr⟩
          · exact ⟨_, by simp [apure, ho, ha, hb, hn, hv, aindexAddr, hu, hz, h1], hr⟩
          · exact ⟨_, by simp [apure, ho, ha, hb, hn, hv, aindexAddr, hu, hz, h1], hr⟩
        · simp at hr
      · exact genP_inv h
    · exact genP_inv h
  · rename_i t x i ho
    split at h
    · rename_i hu
      refine fx2_good (fun a b ha hb hr => ?_) h
      have hr : (b.get T).onInt false (fun _ n => onNat n fun m => (a.get T).onStr false fun s => byteK s m (fun b => k (.int .u8 (.ofNat b.toNat))) false) = true := hr
      rcases AV.onInt_inv hr with ⟨kd, n, hn, hr⟩ | ⟨hr, _⟩
      · obtain ⟨m, rfl, hr⟩ := onNat_inv hr
        rcases AV.onStr_inv hr with ⟨s, hs, hr⟩ | ⟨hr, _⟩
        · rw [byteK_eq] at hr
          split at hr
          · rename_i c hc
            exact ⟨_, by simp [apure, ho, ha, hb, hn, hs, aindex, hu, hc], hr⟩
          · simp at hr
        · simp at hr
      · simp at hr
    · exact genP_inv h
  · rename_i x n ho
    refine fx1_good (fun y hy hr => ?_) h
    have hr : (y.get T).onTuple false (fun vs => nthK vs n k false) = true := hr
    obtain ⟨vs, hv, hr⟩ := AV.onTuple_inv hr
    rw [nthK_eq] at hr
    split at hr
    · rename_i a hca
      exact ⟨a, by simp [apure, ho, hy, hv, aextract, hca], hr⟩
    · simp at hr
  · rename_i c ho
    split at h
    · rename_i x t h1 h2 h3
      split at h
      · rename_i hu
        refine fx1_good (fun y hy hr => ?_) h
        have hr : (y.get T).onStr false (fun s => k (.int .i64 (.ofNat (lenN s)))) = true := hr
        rcases AV.onStr_inv hr with ⟨s, hs, hr⟩ | ⟨hr, _⟩
        · rw [lenN_eq] at hr
          exact ⟨_, by simp [apure, ho, h1, h2, h3, hy, hs, alen, hu], hr⟩
        · simp at hr
      · rename_i e hu
        refine fx1_good (fun y hy hr => ?_) h
        have hr : (y.get T).onSl false (k (.int .i64 (.ofNat 0))) (fun _ _ _ len _ _ => k (.int .i64 (.ofNat len))) (fun _ len => k (.int .i64 (.ofNat len))) = true := hr
        rcases AV.onSl_inv hr with ⟨hv, hr⟩ | ⟨j, off, z', len, cap, opn, hv, hr⟩ | ⟨cs, len, hv, hr⟩
        · exact ⟨_, by simp [apure, ho, h1, h2, h3, hy, hv, alen, hu], hr⟩
        · exact ⟨_, by simp [apure, ho, h1, h2, h3, hy, hv, alen, hu], hr⟩
        · exact ⟨_, by simp [apure, ho, h1, h2, h3, hy, hv, alen, hu], hr⟩
      · exact genP_inv h
    · exact genP_inv h
  · exact genP_inv h
end
end Go.Abs
