/-
  Own library of this claim, part 5: texts one behind the other (ShE, ShF, ShG, ShH, ShI, ShJ, MaA, MaB, MaC, MaD, MaE, MaF, MaG, MaH, MaI, MaJ, MaK, MaL, MaM, MaN, MaO, LxW1, LxW2, LxW3, LxW4, LxW5, LxW6, LxW7, LxW8, LxE, LxO, SyB, SyO, SyG).
-/
import Derived.Test.YtekbjlihciedjaaGreatDoorLibRepRawD
set_option linter.unusedVariables false
set_option linter.unusedSimpArgs false

namespace Go.Proofs.YtekbjlihciedjaaGreatDoor
open Go Go.Abs Go.Rp
variable {G : Nat → Option AV}
theorem rot_does (x : Int) (k : Int) (n : Nat) (hn : n ≤ 31) (h1 : aint2 .and .u64 (IntKind.u64.wrap k) 31 = some (.int .u64 n)) (h2 : IntKind.u64.wrap (32 - (n : Int)) = ((32 - n : Nat) : Int)) (H : AHeap) :
    Does Tryz.prog G 266 [.int .u32 x, .int .i64 k] H fun r h => r = .int .u32 (rotI x n) ∧ h = H := by
  refine does_f Tryz.call266 Tryz.func266 rfl (by simp [Tryz.f266]) ?_
  simp [h1, o_shl, o_shr, o_subU, h2, o_or, rotI, -aint2, -ashift]
theorem rot6 (x : Int) (H : AHeap) : Does Tryz.prog G 266 [.int .u32 x, .int .i64 (-6)] H fun r h => r = .int .u32 (rotI x 26) ∧ h = H := rot_does x _ 26 (by decide) rfl rfl H
theorem rot7 (x : Int) (H : AHeap) : Does Tryz.prog G 266 [.int .u32 x, .int .i64 (-7)] H fun r h => r = .int .u32 (rotI x 25) ∧ h = H := rot_does x _ 25 (by decide) rfl rfl H
theorem rot18 (x : Int) (H : AHeap) : Does Tryz.prog G 266 [.int .u32 x, .int .i64 (-18)] H fun r h => r = .int .u32 (rotI x 14) ∧ h = H := rot_does x _ 14 (by decide) rfl rfl H
theorem rot17 (x : Int) (H : AHeap) : Does Tryz.prog G 266 [.int .u32 x, .int .i64 (-17)] H fun r h => r = .int .u32 (rotI x 15) ∧ h = H := rot_does x _ 15 (by decide) rfl rfl H
theorem rot19 (x : Int) (H : AHeap) : Does Tryz.prog G 266 [.int .u32 x, .int .i64 (-19)] H fun r h => r = .int .u32 (rotI x 13) ∧ h = H := rot_does x _ 13 (by decide) rfl rfl H
theorem rot11 (x : Int) (H : AHeap) : Does Tryz.prog G 266 [.int .u32 x, .int .i64 (-11)] H fun r h => r = .int .u32 (rotI x 21) ∧ h = H := rot_does x _ 21 (by decide) rfl rfl H
theorem rot25 (x : Int) (H : AHeap) : Does Tryz.prog G 266 [.int .u32 x, .int .i64 (-25)] H fun r h => r = .int .u32 (rotI x 7) ∧ h = H := rot_does x _ 7 (by decide) rfl rfl H
theorem rot2 (x : Int) (H : AHeap) : Does Tryz.prog G 266 [.int .u32 x, .int .i64 (-2)] H fun r h => r = .int .u32 (rotI x 30) ∧ h = H := rot_does x _ 30 (by decide) rfl rfl H
theorem rot13 (x : Int) (H : AHeap) : Does Tryz.prog G 266 [.int .u32 x, .int .i64 (-13)] H fun r h => r = .int .u32 (rotI x 19) ∧ h = H := rot_does x _ 19 (by decide) rfl rfl H
theorem rot22 (x : Int) (H : AHeap) : Does Tryz.prog G 266 [.int .u32 x, .int .i64 (-22)] H fun r h => r = .int .u32 (rotI x 10) ∧ h = H := rot_does x _ 10 (by decide) rfl rfl H
theorem u32s_put {l : List Int} {i : Nat} (h : i < l.length) (x : Int) : List.take i (u32s l) ++ AV.int .u32 x :: List.drop (i + 1) (u32s l) = u32s (l.set i x) := by
  rw [← u32s_set, List.set_eq_take_append_cons_drop, if_pos (by rw [u32s_len]; exact h)]
theorem u32s_lt (n : Nat) : ∀ l : List Int, AV.allLt n (u32s l) = true
  | [] => rfl
  | a :: l => by
    have := u32s_lt n l
    simp only [u32s, List.map_cons, AV.allLt, AV.idLt, Bool.true_and] at this ⊢
    exact this
theorem u32s_get {l : List Int} {i : Nat} (h : i < (u32s l).length) : (u32s l)[i]'h = .int .u32 (l.getD i 0) := by
  have := u32s_at (l := l) (i := i) (by rw [u32s_len] at h; exact h)
  rw [List.getElem?_eq_getElem h] at this
  exact Option.some.inj this
theorem strCs_at {b : Bs} {ts : List AV} {i : Nat} (h : i < b.length) : (strCs b ++ ts)[i]? = some (.int .u8 ((b.getD i 0).toNat : Int)) := by
  rw [List.getElem?_append_left (by rw [strCs_len]; exact h)]
  simp [strCs, h]
set_option maxHeartbeats 8000000 in
set_option maxRecDepth 100000 in
theorem sched_does {b : Bs} {ts : List AV} {n : Nat} (hn : n = 64) (hb : 64 ≤ b.length) (H : AHeap) :
    Does Tryz.prog G 265 [.vsl (strCs b ++ ts) n] H fun r h => r = .agg (u32s (sched b)) ∧ h = H := by
  subst hn
  refine Does.forgot (R := fun r h => r = .agg (u32s (sched b)) ∧ ∀ j x, H.get j = some x → h.get j = some x) ?_ (fun hw ha r H1 ⟨h1, h2⟩ => ⟨h2, by rw [h1, AV.idLt, u32s_lt], h1, rfl⟩)
  refine Does.wf Tryz.call265 fun hw _ => ?_
  refine does_f Tryz.call265 Tryz.func265 rfl (by simp [Tryz.f265]) ?_
  simp
  refine aws_loopw (fun m T' H' => ∃ i, i + m = 16 ∧ (∀ j x, H.get j = some x → H'.get j = some x) ∧ H.next + 2 ≤ H'.next ∧ H'.get H.next = some (.cells (u32s (zeros 64))) ∧ H'.get (H.next + 1) = some (.cells (u32s (words0 b i (zeros 64)))) ∧
    T' 0 = .vsl (strCs b ++ ts) 64 ∧ T' 2 = .ptr H.next 0 ∧ T' 3 = .ptr (H.next + 1) 0 ∧ T' 10 = .int .i64 i) 16 ?_ ?_
  · refine ⟨0, rfl, fun j x hj => ?_, by simp, ?_, ?_, ?_, ?_, ?_, ?_⟩
    · have := next_lt hw hj
      have q1 : j ≠ H.next := by omega
      have q2 : j ≠ H.next + 1 := by omega
      simp [q1, q2, hj]
    · simp [u32s, zeros]
    · simp [u32s, zeros, words0]
    all_goals simp
  rintro m T H1 ⟨i, him, hk, hnx, hz, hg, t0, t2, t3, t10⟩ hw1 _
  by_cases hi : i < 16
  · have hii : (i : Int) < 16 := by omega
    have w1 : IntKind.i64.wrap (4 * (i : Int)) = ((4 * i : Nat) : Int) := by rw [IntWalk.i64_in _ (by omega)]; omega
    have w2 : IntKind.i64.wrap (((4 * i : Nat) : Int) + 1) = ((4 * i + 1 : Nat) : Int) := by rw [IntWalk.i64_in _ (by omega)]; omega
    have w3 : IntKind.i64.wrap (((4 * i : Nat) : Int) + 2) = ((4 * i + 2 : Nat) : Int) := by rw [IntWalk.i64_in _ (by omega)]; omega
    have w4 : IntKind.i64.wrap (((4 * i : Nat) : Int) + 3) = ((4 * i + 3 : Nat) : Int) := by rw [IntWalk.i64_in _ (by omega)]; omega
    have w5 : IntKind.i64.wrap ((i : Int) + 1) = ((i + 1 : Nat) : Int) := by rw [IntWalk.i64_in _ (by omega)]; omega
    have s1 := strCs_at (b := b) (ts := ts) (i := 4 * i) (by omega)
    have s2 := strCs_at (b := b) (ts := ts) (i := 4 * i + 1) (by omega)
    have s3 := strCs_at (b := b) (ts := ts) (i := 4 * i + 2) (by omega)
    have s4 := strCs_at (b := b) (ts := ts) (i := 4 * i + 3) (by omega)
    have l1 : (0 : Int) ≤ 4 * i ∧ 4 * (i : Int) < 64 := by omega
    have l2 : (0 : Int) ≤ 4 * i + 1 ∧ 4 * (i : Int) + 1 < 64 := by omega
    have l3 : (0 : Int) ≤ 4 * i + 2 ∧ 4 * (i : Int) + 2 < 64 := by omega
    have l4 : (0 : Int) ≤ 4 * i + 3 ∧ 4 * (i : Int) + 3 < 64 := by omega
    have n1 : (4 * (i : Int)).toNat = 4 * i := by omega
    have n2 : (4 * (i : Int) + 1).toNat = 4 * i + 1 := by omega
    have n3 : (4 * (i : Int) + 2).toNat = 4 * i + 2 := by omega
    have n4 : (4 * (i : Int) + 3).toNat = 4 * i + 3 := by omega
    simp only [Int.natCast_add, Int.natCast_mul, Int.cast_ofNat_Int] at w1 w2 w3 w4
    have h64 : i < 64 := by omega
    have h63 : i ≤ 63 := by omega
    have h64' : (i : Int) < 64 := by omega
    have wl : (words0 b i (zeros 64)).length = 64 := by rw [words0_len]; rfl
    have ul := u32s_len (words0 b i (zeros 64))
    rw [wl] at ul
    generalize hC : strCs b ++ ts = C at *
    simp [t0, t2, t3, t10, hi, hii]
    refine aw_drawn [(5, 0), (13, 0), (22, 0), (31, 0)] mixedOrdR (by kernel_rfl) ?_
    intro es hes
    simp [t0, t2, t3, t10, w1, w2, w3, w4, s1, s2, s3, s4, l1, l2, l3, l4, n1, n2, n3, n4, h63, h64, h64', ul, hg, o_shl24, o_shl16, o_shl8, o_or, o_add64, o_mul64, -aint2, -ashift]
    refine ⟨by subst hes; exact ⟨by kernel_rfl, by kernel_rfl⟩, by simp [rds, heapF], ?_⟩
    refine ⟨m - 1, by omega, i + 1, by omega, fun j x hj => ?_, hnx, hz, ?_, w5⟩
    · have := next_lt hw hj
      have q2 : j ≠ H.next + 1 := by omega
      simp [q2, hk j x hj]
    · rw [u32s_put (by omega)]
      simp [words0, word0, byteI, cvI]
  · obtain rfl : i = 16 := by omega
    simp [t0, t2, t3, t10]
    obtain ⟨W0, hW0⟩ : ∃ W0, W0 = words0 b 16 (zeros 64) := ⟨_, rfl⟩
    have hWl : W0.length = 64 := by rw [hW0, words0_len]; rfl
    have hS : sched b = words1 48 W0 := by rw [hW0]; rfl
    rw [← hW0] at hg
    clear hW0
    refine aws_loopw (fun m T' H' => ∃ i, i + m = 48 ∧ (∀ j x, H.get j = some x → H'.get j = some x) ∧ H.next + 2 ≤ H'.next ∧ H'.get H.next = some (.cells (u32s (zeros 64))) ∧ H'.get (H.next + 1) = some (.cells (u32s (words1 i W0))) ∧
      T' 2 = .ptr H.next 0 ∧ T' 3 = .ptr (H.next + 1) 0 ∧ T' 5 = .int .i64 (16 + i : Nat)) 48 ?_ ?_
    · exact ⟨0, rfl, hk, hnx, hz, hg, by simp [t2], by simp [t3], by simp⟩
    clear hw1 hk hnx hz hg t0 t2 t3 t10
    rintro m T H1 ⟨i, him, hk, hnx, hz, hg, t2, t3, t5⟩ hw1 _
    have w5 : IntKind.i64.wrap (((16 + i : Nat) : Int) + 1) = ((16 + (i + 1) : Nat) : Int) := by rw [IntWalk.i64_in _ (by omega)]; omega
    have wl : (words1 i W0).length = 64 := by rw [words1_len]; exact hWl
    by_cases hi : i < 48
    · have hii : ((16 + i : Nat) : Int) < 64 := by omega
      have m15 : IntKind.i64.wrap (((16 + i : Nat) : Int) - 15) = ((16 + i - 15 : Nat) : Int) := by rw [IntWalk.i64_in _ (by omega)]; omega
      have m2 : IntKind.i64.wrap (((16 + i : Nat) : Int) - 2) = ((16 + i - 2 : Nat) : Int) := by rw [IntWalk.i64_in _ (by omega)]; omega
      have m16 : IntKind.i64.wrap (((16 + i : Nat) : Int) - 16) = ((16 + i - 16 : Nat) : Int) := by rw [IntWalk.i64_in _ (by omega)]; omega
      have m7 : IntKind.i64.wrap (((16 + i : Nat) : Int) - 7) = ((16 + i - 7 : Nat) : Int) := by rw [IntWalk.i64_in _ (by omega)]; omega
      obtain ⟨W, hW⟩ : ∃ W, W = words1 i W0 := ⟨_, rfl⟩
      have hN : words1 (i + 1) W0 = W.set (16 + i) (word1 W (16 + i)) := by rw [hW]; rfl
      rw [← hW] at hg wl
      obtain ⟨k, hk16⟩ : ∃ k, k = 16 + i := ⟨_, rfl⟩
      rw [← hk16] at t5 m15 m2 m16 m7 hii hN
      obtain ⟨k15, e15⟩ : ∃ k15, k15 = k - 15 := ⟨_, rfl⟩
      obtain ⟨k2, e2⟩ : ∃ k2, k2 = k - 2 := ⟨_, rfl⟩
      obtain ⟨k16, e16⟩ : ∃ k16, k16 = k - 16 := ⟨_, rfl⟩
      obtain ⟨k7, e7⟩ : ∃ k7, k7 = k - 7 := ⟨_, rfl⟩
      rw [← e15] at m15
      rw [← e2] at m2
      rw [← e16] at m16
      rw [← e7] at m7
      have a15 := u32s_at (l := W) (i := k15) (by omega)
      have a2 := u32s_at (l := W) (i := k2) (by omega)
      have a16 := u32s_at (l := W) (i := k16) (by omega)
      have a7 := u32s_at (l := W) (i := k7) (by omega)
      have ul := u32s_len W
      rw [wl] at ul
      have b15 : k15 < 64 := by omega
      have b2 : k2 < 64 := by omega
      have b16 : k16 < 64 := by omega
      have b7 : k7 < 64 := by omega
      have bk : k < 64 := by omega
      have b15' : (k15 : Int) < 64 := by omega
      have b2' : (k2 : Int) < 64 := by omega
      have b16' : (k16 : Int) < 64 := by omega
      have b7' : (k7 : Int) < 64 := by omega
      have c15 : k15 ≤ 64 := by omega
      have c2 : k2 ≤ 64 := by omega
      have c16 : k16 ≤ 64 := by omega
      have c7 : k7 ≤ 64 := by omega
      have ck : k ≤ 63 := by omega
      have bk' : (k : Int) < 64 := by omega
      simp [t2, t3, t5, bk, bk']
      refine aw_drawn [(3, 0), (7, 0)] mixedOrdR (by kernel_rfl) ?_
      intro es hes
      simp [t2, t3, t5, o_sub64, m15, m2, b15, b2, b15', b2', c15, c2, hg, ul, u32s_get, -aint2, -ashift]
      refine ⟨by subst hes; exact ⟨by kernel_rfl, by kernel_rfl⟩, by simp [rds, heapF, hg, ul, u32s_get, b15, b2, c15, c2], ?_⟩
      refine does_use (rot7 _ _) ?_
      rintro r h ⟨rfl, rfl⟩
      simp
      refine does_use (rot18 _ _) ?_
      rintro r h ⟨rfl, rfl⟩
      simp [o_xor, o_shr3, -aint2, -ashift]
      refine does_use (rot17 _ _) ?_
      rintro r h ⟨rfl, rfl⟩
      simp
      refine does_use (rot19 _ _) ?_
      rintro r h ⟨rfl, rfl⟩
      simp [o_xor, o_shr10, -aint2, -ashift]
      refine aw_drawn [(4, 0), (10, 0)] mixedOrdR (by kernel_rfl) ?_
      intro es hes
      simp [t2, t3, t5, o_sub64, o_add, m16, m7, b16, b7, b16', b7', bk, bk', c16, c7, ck, hg, ul, u32s_get, -aint2, -ashift]
      refine ⟨by subst hes; exact ⟨by kernel_rfl, by kernel_rfl⟩, by simp [rds, heapF, hg, ul, u32s_get, b16, b7, c16, c7], ?_⟩
      have wk : IntKind.i64.wrap ((k : Int) + 1) = ((16 + (i + 1) : Nat) : Int) := by rw [IntWalk.i64_in _ (by omega)]; omega
      simp [t5, o_add64, wk, -aint2]
      refine ⟨m - 1, by omega, i + 1, by omega, fun j x hj => ?_, hnx, hz, ?_, t2, t3, by omega⟩
      · have := next_lt hw hj
        have q2 : j ≠ H.next + 1 := by omega
        simp [q2, hk j x hj]
      · rw [u32s_put (by omega), hN]
        simp [word1, e15, e2, e16, e7]
    · obtain rfl : i = 48 := by omega
      have ul := u32s_len (words1 48 W0)
      rw [wl] at ul
      have tk : List.take 64 (u32s (words1 48 W0)) = u32s (words1 48 W0) := by rw [← ul, List.take_length]
      have zl : (u32s (zeros 64)).length = 64 := by rw [u32s_len]; rfl
      have sc : ∀ x, x ∈ u32s (words1 48 W0) → x.scalar = true := fun x hx => List.all_eq_true.1 (u32s_sc _) x hx
      have dz : List.drop 64 (u32s (zeros 64)) = [] := List.drop_eq_nil_of_le (by rw [zl]; exact Nat.le_refl _)
      simp only [← hS] at *
      simp [t2, t3, t5, hg, hz, ul, tk, zl, dz]
      rw [if_pos sc]
      simp [t2, tk, ul]
      intro j x hj
      have := next_lt hw hj
      have q2 : j ≠ H.next := by omega
      simp [q2, hk j x hj]
end Go.Proofs.YtekbjlihciedjaaGreatDoor

namespace Go.Proofs.YtekbjlihciedjaaGreatDoor
open Go Go.Abs Go.Rp
variable {G : Nat → Option AV}
def K32 : List Int := [1116352408, 1899447441, 3049323471, 3921009573, 961987163, 1508970993, 2453635748, 2870763221, 3624381080, 310598401, 607225278, 1426881987, 1925078388, 2162078206, 2614888103, 3248222580, 3835390401, 4022224774, 264347078, 604807628, 770255983, 1249150122, 1555081692, 1996064986, 2554220882, 2821834349, 2952996808, 3210313671, 3336571891, 3584528711, 113926993, 338241895, 666307205, 773529912, 1294757372, 1396182291, 1695183700, 1986661051, 2177026350, 2456956037, 2730485921, 2820302411, 3259730800, 3345764771, 3516065817, 3600352804, 4094571909, 275423344, 430227734, 506948616, 659060556, 883997877, 958139571, 1322822218, 1537002063, 1747873779, 1955562222, 2024104815, 2227730452, 2361852424, 2428436474, 2756734187, 3204031479, 3329325298]
theorem K32_len : K32.length = 64 := rfl
set_option maxRecDepth 100000 in
theorem rounds_does (H : AHeap) : Does Tryz.prog G 264 [] H fun r h => r = .agg (u32s K32) ∧ h = H := by
  refine Does.forgot (R := fun r h => r = .agg (u32s K32) ∧ ∀ j x, H.get j = some x → h.get j = some x) ?_ (fun hw ha r H1 ⟨h1, h2⟩ => ⟨h2, by rw [h1, AV.idLt, u32s_lt], h1, rfl⟩)
  refine Does.wf Tryz.call264 fun hw _ => ?_
  refine does_f Tryz.call264 Tryz.func264 rfl (by simp [Tryz.f264]) ?_
  simp
  refine ⟨rfl, fun j x hj => ?_⟩
  have := next_lt hw hj
  have e : j ≠ H.next := by omega
  simp [e, hj]
set_option maxHeartbeats 8000000 in
set_option maxRecDepth 100000 in
theorem mix_does {hv : List Int} (hh : hv.length = 8) {b : Bs} {ts : List AV} {n : Nat} (hn : n = 64) (hb : 64 ≤ b.length) (H : AHeap) :
    Does Tryz.prog G 221 [.agg (u32s hv), .vsl (strCs b ++ ts) n] H fun r h => r = .agg (u32s (mixI K32 hv b)) ∧ h = H := by
  obtain ⟨M, hM⟩ : ∃ M, M = mixI K32 hv b := ⟨_, rfl⟩
  rw [← hM]
  refine Does.forgot (R := fun r h => r = .agg (u32s M) ∧ ∀ j x, H.get j = some x → h.get j = some x) ?_ (fun hw ha r H1 ⟨h1, h2⟩ => ⟨h2, by rw [h1, AV.idLt, u32s_lt], h1, rfl⟩)
  refine Does.wf Tryz.call221 fun hw _ => ?_
  refine does_f Tryz.call221 Tryz.func221 rfl (by simp [Tryz.f221]) ?_
  have hul := u32s_len hv
  rw [hh] at hul
  have hsc : ∀ x, x ∈ u32s hv → x.scalar = true := fun x hx => List.all_eq_true.1 (u32s_sc _) x hx
  simp [hul]
  have e01 : H.next ≠ H.next + 1 := by omega
  have tk8 : ∀ {l : List Int}, l.length = 8 → List.take 8 (u32s l) = u32s l := fun {l} h => by
    have : (u32s l).length = 8 := by rw [u32s_len, h]
    rw [← this, List.take_length]
  have dk8 : ∀ {l : List Int}, l.length = 8 → List.drop 8 (u32s l) = [] := fun {l} h => List.drop_eq_nil_of_le (by rw [u32s_len, h]; exact Nat.le_refl _)
  have hk64 := u32s_len K32
  rw [K32_len] at hk64
  have hs64 := u32s_len (sched b)
  rw [sched_len] at hs64
  have ksc : ∀ x, x ∈ u32s K32 → x.scalar = true := fun x hx => List.all_eq_true.1 (u32s_sc _) x hx
  have ssc : ∀ x, x ∈ u32s (sched b) → x.scalar = true := fun x hx => List.all_eq_true.1 (u32s_sc _) x hx
  obtain ⟨K, hK⟩ : ∃ K, K = K32 := ⟨_, rfl⟩
  rw [← hK] at hk64 ksc
  obtain ⟨S, hS⟩ : ∃ S, S = sched b := ⟨_, rfl⟩
  rw [← hS] at hs64 ssc
  refine aw_drawn [(3, 0), (3, 1), (3, 3), (3, 8), (3, 9)] mixedOrdR (by kernel_rfl) ?_
  intro es hes
  simp [adf_stop, -adf_cons]
  refine ⟨_, _, rounds_does _, Nat.le_refl _, ?_⟩
  rw [← hK]
  refine ad_go (fun T' => T' 1 = .vsl (strCs b ++ ts) n ∧ T' 2 = .ptr H.next 0 ∧ T' 4 = .ptr (H.next + 1) 0 ∧ T' 16 = .agg (u32s K)) (by simp) ?_
  rintro T1 ⟨a1, a2, a4, a16⟩
  simp [adf_stop, -adf_cons, a1, a2, a4, a16]
  refine ⟨_, _, sched_does hn hb _, Nat.le_refl _, ?_⟩
  rw [← hS]
  refine ad_go (fun T' => T' 2 = .ptr H.next 0 ∧ T' 4 = .ptr (H.next + 1) 0 ∧ T' 16 = .agg (u32s K) ∧ T' 18 = .agg (u32s S)) (by simp [a2, a4, a16]) ?_
  rintro T2 ⟨b2, b4, b16, b18⟩
  simp [adf_stop, -adf_cons, b2, b4, b16, b18, hul, hk64, hs64, e01, tk8 hh, dk8 hh]
  rw [if_pos ksc]
  simp [adf_stop, -adf_cons, b2, b4, b16, b18, hul, hk64, hs64, e01, tk8 hh, dk8 hh]
  rw [if_pos ssc]
  simp [adf_stop, -adf_cons, b2, b4, b16, b18, hul, hk64, hs64, e01, tk8 hh, dk8 hh]
  have e02 : H.next + 1 + 1 ≠ H.next := by omega
  have e03 : H.next ≠ H.next + 1 + 1 := by omega
  have e04 : H.next ≠ H.next + 1 + 1 + 1 := by omega
  have e05 : H.next ≠ H.next + 1 + 1 + 1 + 1 := by omega
  have e06 : H.next + 1 ≠ H.next + 1 + 1 + 1 := by omega
  have e07 : H.next + 1 ≠ H.next + 1 + 1 + 1 + 1 := by omega
  have e08 : H.next + 1 + 1 ≠ H.next + 1 + 1 + 1 + 1 := by omega
  have hsc' : (∀ x, x ∈ u32s hv → x.scalar = true) = True := eq_true hsc
  simp [adf_stop, -adf_cons, b2, b4, b16, b18, hul, hk64, hs64, e01, e02, hsc', tk8 hh, dk8 hh]
  refine ⟨by subst hes; exact ⟨by kernel_rfl, by kernel_rfl⟩, by simp [rds, heapF, e03, e04, e05, hul, tk8 hh], ?_⟩
  obtain ⟨v0, hv0⟩ : ∃ v0, v0 = hv := ⟨_, rfl⟩
  refine aws_loopw (fun m T' H' => ∃ i, i + m = 64 ∧ (∀ j x, H.get j = some x → H'.get j = some x) ∧ H.next + 5 ≤ H'.next ∧ H'.get H.next = some (.cells (u32s hv)) ∧ H'.get (H.next + 1) = some (.cells (u32s (zeros 8))) ∧ H'.get (H.next + 1 + 1) = some (.cells (u32s K)) ∧ H'.get (H.next + 1 + 1 + 1) = some (.cells (u32s S)) ∧
    H'.get (H.next + 1 + 1 + 1 + 1) = some (.cells (u32s (rnds K S i hv))) ∧ T' 2 = .ptr H.next 0 ∧ T' 4 = .ptr (H.next + 1) 0 ∧ T' 5 = .ptr (H.next + 1 + 1) 0 ∧ T' 6 = .ptr (H.next + 1 + 1 + 1) 0 ∧ T' 7 = .ptr (H.next + 1 + 1 + 1 + 1) 0 ∧ T' 20 = .int .i64 i) 64 ?_ ?_
  · refine ⟨0, rfl, fun j x hj => ?_, by simp, ?_, ?_, ?_, ?_, ?_, ?_, ?_, ?_, ?_, ?_, ?_⟩
    · have := next_lt hw hj
      have q1 : j ≠ H.next := by omega
      have q2 : j ≠ H.next + 1 := by omega
      have q3 : j ≠ H.next + 1 + 1 := by omega
      have q4 : j ≠ H.next + 1 + 1 + 1 := by omega
      have q5 : j ≠ H.next + 1 + 1 + 1 + 1 := by omega
      simp [q1, q2, q3, q4, q5, hj]
    · simp [e03, e04, e05]
    · simp [e06, e07, u32s, zeros]; try omega
    · simp [e08]; try omega
    · simp
    · simp [rnds]
    all_goals simp [b2, b4]
  clear b2 b4 b16 b18 a1 a2 a4 a16 e01 e02 e03 e04 e05 e06 e07 e08
  rintro m T H1 ⟨i, him, hk, hnx, g0, g1, g2, g3, g4, t2, t4, t5, t6, t7, t20⟩ hw1 _
  by_cases hi : i < 64
  · obtain ⟨V, hV⟩ : ∃ V, V = rnds K S i hv := ⟨_, rfl⟩
    have hvl : V.length = 8 := by rw [hV]; exact rnds_len _ _ hh _
    have hN : rnds K S (i + 1) hv = rnd (K.getD i 0) (S.getD i 0) V := by rw [hV]; rfl
    rw [← hV] at g4
    have vl := u32s_len V
    rw [hvl] at vl
    have hii : (i : Int) < 64 := by omega
    have hi64 : i ≤ 64 := by omega
    have hi63 : i ≤ 63 := by omega
    have w5 : IntKind.i64.wrap ((i : Int) + 1) = ((i + 1 : Nat) : Int) := by rw [IntWalk.i64_in _ (by omega)]; omega
    simp [t20, hi, hii]
    refine aw_drawn [(1, 0), (3, 0)] mixedOrdR (by kernel_rfl) ?_
    intro es hes
    simp [t7, g4, vl, u32s_get]
    refine ⟨by subst hes; exact ⟨by kernel_rfl, by kernel_rfl⟩, by simp [rds, heapF, g4, vl, u32s_get], ?_⟩
    refine does_use (rot6 _ _) ?_
    rintro r h ⟨rfl, rfl⟩
    simp
    refine does_use (rot11 _ _) ?_
    rintro r h ⟨rfl, rfl⟩
    simp [o_xor, -aint2, -ashift]
    refine does_use (rot25 _ _) ?_
    rintro r h ⟨rfl, rfl⟩
    simp [o_xor, -aint2, -ashift]
    refine aw_drawn [(1, 0), (6, 0), (11, 0), (17, 0), (21, 0)] mixedOrdR (by kernel_rfl) ?_
    intro es hes
    simp [t5, t6, t7, g2, g3, g4, vl, hk64, hs64, hi, hii, hi64, u32s_get, o_add, o_and, o_xor, o_not, -aint2, -ashift, -aun]
    refine ⟨by subst hes; exact ⟨by kernel_rfl, by kernel_rfl⟩, by simp [rds, heapF, g2, g3, g4, vl, hk64, hs64, hi, hi64, u32s_get], ?_⟩
    refine does_use (rot2 _ _) ?_
    rintro r h ⟨rfl, rfl⟩
    simp
    refine does_use (rot13 _ _) ?_
    rintro r h ⟨rfl, rfl⟩
    simp [o_xor, -aint2, -ashift]
    refine does_use (rot22 _ _) ?_
    rintro r h ⟨rfl, rfl⟩
    simp [t7, g4, vl, u32s_get, o_add, o_and, o_xor, -aint2, -ashift]
    simp [t20, o_add64, w5, -aint2]
    refine ⟨m - 1, by omega, i + 1, by omega, fun j x hj => ?_, hnx, by rw [if_neg (by omega)]; exact g0, g1, g2, g3, ?_, t2, t4, t5, t6, t7, by omega⟩
    · have := next_lt hw hj
      have q2 : j ≠ H.next + 1 + 1 + 1 + 1 := by omega
      simp [q2, hk j x hj]
    · rw [hN]
      simp [rnd, u32s]; try omega
  · obtain rfl : i = 64 := by omega
    obtain ⟨V, hV⟩ : ∃ V, V = rnds K S 64 hv := ⟨_, rfl⟩
    have hvl : V.length = 8 := by rw [hV]; exact rnds_len _ _ hh _
    have hM : M = adds hv V 8 := by rw [hM, hV, hK, hS]; rfl
    rw [← hV] at g4
    have vl := u32s_len V
    rw [hvl] at vl
    clear hV g2 g3
    simp [t20]
    refine aws_loopw (fun m T' H' => ∃ i, i + m = 8 ∧ (∀ j x, H.get j = some x → H'.get j = some x) ∧ H'.get H.next = some (.cells (u32s (adds hv V i))) ∧ H'.get (H.next + 1) = some (.cells (u32s (zeros 8))) ∧
      H'.get (H.next + 1 + 1 + 1 + 1) = some (.cells (u32s V)) ∧ T' 2 = .ptr H.next 0 ∧ T' 4 = .ptr (H.next + 1) 0 ∧ T' 7 = .ptr (H.next + 1 + 1 + 1 + 1) 0 ∧ T' 104 = .int .i64 i) 8 ?_ ?_
    · exact ⟨0, rfl, hk, g0, g1, g4, by simp [t2], by simp [t4], by simp [t7], by simp⟩
    clear hk hnx g0 g1 g4 t2 t4 t5 t6 t7 t20 hw1
    rintro m T H1 ⟨i, him, hk, g0, g1, g4, t2, t4, t7, t104⟩ hw1 _
    obtain ⟨A, hA⟩ : ∃ A, A = adds hv V i := ⟨_, rfl⟩
    have hal : A.length = 8 := by rw [hA, adds_len]; exact hh
    have al := u32s_len A
    rw [hal] at al
    rw [← hA] at g0
    by_cases hi : i < 8
    · have hN : adds hv V (i + 1) = A.set i (addI (A.getD i 0) (V.getD i 0)) := by rw [hA]; rfl
      have hii : (i : Int) < 8 := by omega
      have hi8 : i ≤ 8 := by omega
      have hi7 : i ≤ 7 := by omega
      have w5 : IntKind.i64.wrap ((i : Int) + 1) = ((i + 1 : Nat) : Int) := by rw [IntWalk.i64_in _ (by omega)]; omega
      have e4 : H.next ≠ H.next + 1 + 1 + 1 + 1 := by omega
      simp [t104, hi, hii]
      refine aw_drawn [(2, 0), (5, 0)] mixedOrdR (by kernel_rfl) ?_
      intro es hes
      simp [t2, t7, g0, g4, vl, al, hi, hii, hi8, hi7, u32s_get, o_add, -aint2, -ashift]
      refine ⟨by subst hes; exact ⟨by kernel_rfl, by kernel_rfl⟩, by simp [rds, heapF, g0, g4, vl, al, hi, hi8, u32s_get], ?_⟩
      simp [t104, o_add64, w5, -aint2]
      refine ⟨m - 1, by omega, i + 1, by omega, fun j x hj => ?_, ?_, g1, ?_, t2, t4, t7, by omega⟩
      · have := next_lt hw hj
        have q2 : j ≠ H.next := by omega
        simp [q2, hk j x hj]
      · rw [u32s_put (by omega), hN]
        simp
      · rw [if_neg (by omega)]; exact g4
    · obtain rfl : i = 8 := by omega
      have sc : (∀ x, x ∈ u32s A → x.scalar = true) = True := eq_true fun x hx => List.all_eq_true.1 (u32s_sc _) x hx
      have zl : (u32s (zeros 8)).length = 8 := by rw [u32s_len]; rfl
      have dz : List.drop 8 (u32s (zeros 8)) = [] := List.drop_eq_nil_of_le (by rw [zl]; exact Nat.le_refl _)
      rw [← hA] at hM
      simp [t2, t4, t104, g0, g1, al, sc, zl, dz, tk8 hal]
      exact ⟨by rw [hM], fun j x hj => by
        have := next_lt hw hj
        have q2 : j ≠ H.next + 1 := by omega
        simp [q2, hk j x hj]⟩
end Go.Proofs.YtekbjlihciedjaaGreatDoor

namespace Go.Proofs.YtekbjlihciedjaaGreatDoor
open Go Go.Abs Go.Rp
variable {G : Nat → Option AV}
def restI : Nat → Bs → Bs
  | 0, b => b
  | n + 1, b => if 64 ≤ b.length then restI n (b.drop 64) else b
theorem restI_fuel : ∀ (n m : Nat) (b : Bs), b.length < n → b.length < m → restI n b = restI m b
  | 0, _, _, h, _ => by omega
  | _, 0, _, _, h => by omega
  | n + 1, m + 1, b, h1, h2 => by
    simp only [restI]
    split
    · exact restI_fuel n m _ (by rw [List.length_drop]; omega) (by rw [List.length_drop]; omega)
    · rfl
theorem blocksI_fuel (k : List Int) : ∀ (n m : Nat) (h : List Int) (b : Bs), b.length < n → b.length < m → blocksI k n h b = blocksI k m h b
  | 0, _, _, _, h, _ => by omega
  | _, 0, _, _, _, h => by omega
  | n + 1, m + 1, h, b, h1, h2 => by
    simp only [blocksI]
    split
    · exact blocksI_fuel k n m _ _ (by rw [List.length_drop]; omega) (by rw [List.length_drop]; omega)
    · rfl
theorem strCs_app (a b : Bs) : strCs (a ++ b) = strCs a ++ strCs b := by simp [strCs]
theorem strCs_drop (b : Bs) (ts : List AV) (n : Nat) (h : n ≤ b.length) : List.drop n (strCs b ++ ts) = strCs (b.drop n) ++ ts := by
  rw [List.drop_append_of_le_length (by rw [strCs_len]; exact h)]
  simp [strCs, List.map_drop]
set_option maxHeartbeats 8000000 in
set_option maxRecDepth 100000 in
theorem blocks_does {hv : List Int} (hh : hv.length = 8) {v : AV} {b : Bs} (hb : BtA v b) (hl : b.length ≤ 1000000000) (H : AHeap) :
    Does Tryz.prog G 170 [.agg (u32s hv), v] H fun r h => (∃ v', r = .tuple [.agg (u32s (blocksI K32 (b.length + 1) hv b)), v'] ∧ BtA v' (restI (b.length + 1) b)) ∧ H.next ≤ h.next ∧ ∀ j x, H.get j = some x → h.get j = some x := by
  obtain ⟨M, hM⟩ : ∃ M, M = blocksI K32 (b.length + 1) hv b := ⟨_, rfl⟩
  obtain ⟨L, hL⟩ : ∃ L, L = restI (b.length + 1) b := ⟨_, rfl⟩
  rw [← hM, ← hL]
  refine Does.wf Tryz.call170 fun hw _ => ?_
  refine does_f Tryz.call170 Tryz.func170 rfl (by simp [Tryz.f170]) ?_
  have hul := u32s_len hv
  rw [hh] at hul
  simp [hul]
  refine aws_loopw (fun m T' H' => ∃ b' h' w, b'.length = m ∧ b'.length ≤ b.length ∧ h'.length = 8 ∧ M = blocksI K32 (b'.length + 1) h' b' ∧ L = restI (b'.length + 1) b' ∧ BtA w b' ∧ H.next ≤ H'.next ∧ (∀ j x, H.get j = some x → H'.get j = some x) ∧ H'.get H.next = some (.cells (u32s h')) ∧ H'.get (H.next + 1) = some (.cells (u32s (zeros 8))) ∧
    T' 1 = w ∧ T' 2 = .ptr H.next 0 ∧ T' 4 = .ptr (H.next + 1) 0) b.length ?_ ?_
  · refine ⟨b, hv, v, rfl, Nat.le_refl _, hh, hM, hL, hb, by simp; omega, fun j x hj => ?_, ?_, ?_, ?_, ?_, ?_⟩
    · have := next_lt hw hj
      have q1 : j ≠ H.next := by omega
      have q2 : j ≠ H.next + 1 := by omega
      simp [q1, q2, hj]
    · have : H.next ≠ H.next + 1 := by omega
      simp [this]
    · simp [u32s, zeros]
    all_goals simp
  rintro m T H1 ⟨b', h', w, rfl, hbl, hh', hM', hL', hw', hnx, hk, g0, g1, t1, t2, t4⟩ hw1 _
  have hwl : alen Tryz.prog 22 w = some (.int .i64 b'.length) := by
    rcases hw' with ⟨rfl, e⟩ | ⟨ts, rfl⟩
    · simp [alen, e]
    · simp [alen]
  have h8 := u32s_len h'
  rw [hh'] at h8
  have tk : List.take 8 (u32s h') = u32s h' := by rw [← h8, List.take_length]
  by_cases h64 : 64 ≤ b'.length
  · have h64' : (64 : Int) ≤ b'.length := by omega
    obtain ⟨ts, rfl⟩ : ∃ ts, w = .vsl (strCs b' ++ ts) b'.length := by
      rcases hw' with ⟨_, rfl⟩ | h
      · simp at h64
      · exact h
    have c1 : 0 < b'.length := by omega
    simp [t1, t2, t4, hwl, h64, h64', -alen]
    refine aw_drawn [(0, 0)] mixedOrdR (by kernel_rfl) ?_
    intro es hes
    simp [adf_stop, -adf_cons, t1, t2, g0, h8, tk, h64, h64', c1]
    have eC : strCs b' ++ ts = strCs (b'.take 64) ++ (strCs (b'.drop 64) ++ ts) := by
      rw [← List.append_assoc, ← strCs_app, List.take_append_drop]
    have hmx := mix_does (G := G) hh' (b := b'.take 64) (ts := strCs (b'.drop 64) ++ ts) (n := 64) rfl (by rw [List.length_take]; omega) H1
    rw [← eC] at hmx
    refine ⟨_, _, hmx, Nat.le_refl _, ?_⟩
    obtain ⟨X, hX⟩ : ∃ X, X = mixI K32 h' (b'.take 64) := ⟨_, rfl⟩
    rw [← hX]
    have hM2 : M = blocksI K32 ((b'.drop 64).length + 1) X (b'.drop 64) := by
      rw [hM', blocksI, if_pos h64, ← hX]
      exact blocksI_fuel _ _ _ _ _ (by rw [List.length_drop]; omega) (by omega)
    have hL2 : L = restI ((b'.drop 64).length + 1) (b'.drop 64) := by
      rw [hL', restI, if_pos h64]
      exact restI_fuel _ _ _ (by rw [List.length_drop]; omega) (by omega)
    have hXl : X.length = 8 := by rw [hX]; exact mixI_len _ hh' _
    have hx8 := u32s_len X
    rw [hXl] at hx8
    have sc : (∀ x, x ∈ u32s X → x.scalar = true) = True := eq_true fun x hx => List.all_eq_true.1 (u32s_sc _) x hx
    have dk : List.drop 8 (u32s h') = [] := List.drop_eq_nil_of_le (by rw [h8]; exact Nat.le_refl _)
    refine ad_go (fun T' => T' 1 = .vsl (strCs b' ++ ts) b'.length ∧ T' 2 = .ptr H.next 0 ∧ T' 4 = .ptr (H.next + 1) 0 ∧ T' 12 = .agg (u32s X)) (by simp [t1, t2, t4]) ?_
    rintro T1 ⟨a1, a2, a4, a12⟩
    simp [adf_stop, -adf_cons, a1, a2, a4, a12, g0, h8, hx8, sc, dk]
    refine ⟨by subst hes; exact ⟨by kernel_rfl, by kernel_rfl⟩, by simp [rds, heapF, g0, h8, tk, t2], ?_⟩
    have kp : ∀ j x, H.get j = some x → (if j = H.next then some (.cells (u32s X)) else H1.get j) = some x := fun j x hj => by
      have := next_lt hw hj
      have q : j ≠ H.next := by omega
      simp [q, hk j x hj]
    by_cases hlt : 64 < b'.length
    · simp [h64, h64', hlt]
      refine ⟨(b'.drop 64).length, by rw [List.length_drop]; omega, b'.drop 64, rfl, by rw [List.length_drop]; omega, X, hXl, hM2, hL2, _, .inr ⟨ts, ?_⟩, hnx, kp, rfl, g1, rfl, a2, a4⟩
      rw [strCs_drop _ _ _ h64, List.length_drop]
    · have e64 : b'.length = 64 := by omega
      simp [a1, a2, a4, e64]
      refine ⟨(b'.drop 64).length, by rw [List.length_drop]; omega, b'.drop 64, rfl, by rw [List.length_drop]; omega, X, hXl, hM2, hL2, _, .inr ⟨[], ?_⟩, hnx, kp, rfl, g1, rfl⟩
      have : b'.drop 64 = [] := List.drop_eq_nil_of_le (by omega)
      rw [this]; rfl
  · have h64' : ¬ (64 : Int) ≤ b'.length := by omega
    have sc : (∀ x, x ∈ u32s h' → x.scalar = true) = True := eq_true fun x hx => List.all_eq_true.1 (u32s_sc _) x hx
    have zl : (u32s (zeros 8)).length = 8 := by rw [u32s_len]; rfl
    have dz : List.drop 8 (u32s (zeros 8)) = [] := List.drop_eq_nil_of_le (by rw [zl]; exact Nat.le_refl _)
    simp [t1, t2, t4, hwl, h64, h64', g0, g1, h8, tk, sc, zl, dz, hw'.cells, -alen]
    refine ⟨⟨w, ⟨?_, rfl⟩, ?_⟩, hnx, fun j x hj => ?_⟩
    · rw [hM', blocksI, if_neg h64]
    · rw [hL', restI, if_neg h64]; exact hw'
    · have := next_lt hw hj
      have q : j ≠ H.next + 1 := by omega
      simp [q, hk j x hj]
end Go.Proofs.YtekbjlihciedjaaGreatDoor

namespace Go.Proofs.YtekbjlihciedjaaGreatDoor
open Go Go.Abs Go.Rp
variable {G : Nat → Option AV}
theorem elemB : ElemOk Tryz.prog 22 22 5 1 1 := ⟨by simp, ⟨.slice 5, by simp, rfl⟩, by simp⟩
def ByF (H : AHeap) (u : AV) (x : Bs) (b : Nat → Prop) : Prop := BtA u x ∨ Gr H 1 x.length (strCs x) u b
theorem ByF.len {H : AHeap} {u : AV} {x : Bs} {b : Nat → Prop} (h : ByF H u x b) : alen Tryz.prog 22 u = some (.int .i64 x.length) := by
  rcases h with h | h
  · rcases h with ⟨rfl, rfl⟩ | ⟨ts, rfl⟩ <;> simp [alen]
  · exact h.alen (e := 5) (by simp)
theorem ByF.sc {H : AHeap} {u : AV} {x : Bs} {b : Nat → Prop} (h : ByF H u x b) : u.scalar = true := by
  rcases h with h | h
  · exact h.sc
  · exact h.sc
theorem ByF.cells {H : AHeap} {u : AV} {x : Bs} {b : Nat → Prop} (h : ByF H u x b) : u.cells = [u] := by
  rcases h with h | h
  · exact h.cells
  · exact h.cells
theorem app_bytes {H : AHeap} {l x : Bs} {w u : AV} {b b2 : Nat → Prop} (h : Gr H 1 l.length (strCs l) w b) (hu : ByF H u x b2) (h1 : l.length ≤ 1000000000) (h2 : x.length ≤ 1000000000) {nx : Nat} (hnx : nx = H.next) :
    ∃ v' eff, aappend Tryz.prog 22 22 H.get nx w u = some (v', eff) ∧ Gr (H.eff eff) 1 (l ++ x).length (strCs (l ++ x)) v' (fun j => b j ∨ j = H.next) ∧ (∀ j, ¬ b j → j ≠ H.next → (H.eff eff).get j = H.get j) ∧ H.next ≤ (H.eff eff).next := by
  subst hnx
  by_cases h0 : x = []
  · subst h0
    have hf : (u = .nilsl ∨ (∃ ts, u = .vsl ts 0) ∨ ∃ p o cap op pre junk, u = .sl p o 1 0 cap op ∧ H.get p = some (.cells (pre ++ ([] ++ junk))) ∧ pre.length = o) := by
      rcases hu with (⟨rfl, _⟩ | ⟨ts, rfl⟩) | (⟨_, _, rfl⟩ | ⟨p, o, cap, op, pre, junk, rfl, _, a3, a4, _⟩)
      · exact .inl rfl
      · exact .inr (.inl ⟨_, rfl⟩)
      · exact .inl rfl
      · exact .inr (.inr ⟨p, o, cap, op, pre, junk, rfl, a3, a4⟩)
    rcases h with ⟨a1, a2, rfl⟩ | ⟨p, o, cap, op, pre, junk, rfl, a2, a3, a4, a5, a6, a7⟩
    · refine ⟨.nilsl, .same, ?_, .inl (by simp [a1, a2]), fun j _ _ => rfl, Nat.le_refl _⟩
      rcases hf with rfl | ⟨ts, rfl⟩ | ⟨p, o, cap, op, pre, junk, rfl, a3, a4⟩
      · simp [aappend, afirst, alenOf]
      · simp [aappend, afirst, alenOf]
      · have : o ≤ pre.length + junk.length := by omega
        simp [aappend, afirst, alenOf, a3, this]
    · have hs : AHeap.set H p (.cells (pre ++ (strCs l ++ junk))) = H := set_self a3
      refine ⟨.sl p o 1 l.length cap op, .put p (.cells (pre ++ (strCs l ++ junk))), ?_, ?_, fun j _ _ => by simp only [AHeap.eff, hs], by simp [AHeap.eff]⟩
      · rcases hf with rfl | ⟨ts, rfl⟩ | ⟨p', o', cap', op', pre', junk', rfl, a3', a4'⟩
        · simp [aappend, afirst, alenOf, splice_nil, a3, a7, strCs_len] <;> omega
        · simp [aappend, afirst, alenOf, splice_nil, a3, a7, strCs_len] <;> omega
        · have : o' ≤ pre'.length + junk'.length := by omega
          simp [aappend, afirst, alenOf, splice_nil, a3, a3', this, a7, strCs_len] <;> omega
      · simp only [AHeap.eff, hs, List.append_nil]
        exact .inr ⟨p, o, cap, op, pre, junk, rfl, .inl a2, a3, a4, a5, a6, a7⟩
  · have hp : 0 < x.length := List.length_pos_iff.2 h0
    have hn : alenOf u = some x.length ∧ afirst H.get 1 x.length u = some (strCs x) ∧ ∀ k i, u ≠ .int k i := by
      rcases hu with (⟨rfl, e⟩ | ⟨ts, rfl⟩) | (⟨a1, _, rfl⟩ | ⟨p, o, cap, op, pre, junk, rfl, _, a3, a4, a5, a6, a7⟩)
      · exact absurd e h0
      · have e1 : List.take x.length (strCs x ++ ts) = strCs x := List.take_left' (strCs_len x)
        simp [alenOf, afirst, e1, strCs_len]
      · omega
      · have e1 : List.take x.length (strCs x ++ junk) = strCs x := List.take_left' (strCs_len x)
        have e2 : List.drop o (pre ++ (strCs x ++ junk)) = strCs x ++ junk := List.drop_left' a4
        simp [alenOf, afirst, a3, e1, e2, strCs_len]
        omega
    have := h.app elemB (m := x.length) (x := u) (news := strCs x) hn.2.2 hn.1 hn.2.1 (strCs_sc x) (by rw [strCs_len]; omega) hp (by omega) (by omega) (by omega) (nx := H.next) rfl
    rw [← strCs_app, ← List.length_append] at this
    exact this
end Go.Proofs.YtekbjlihciedjaaGreatDoor

namespace Go.Proofs.YtekbjlihciedjaaGreatDoor
open Go Go.Abs Go.Rp
variable {G : Nat → Option AV}
def H0s : List Int := [1779033703, 3144134277, 1013904242, 2773480762, 1359893119, 2600822924, 528734635, 1541459225]
def HsAt (H : AHeap) (i : Nat) (hv : List Int) (left : Bs) (n : Nat) (b : Nat → Prop) : Prop := ∃ u, H.get i = some (.cells (u32s hv ++ [u, .int .u64 n])) ∧ ByF H u left (fun j => b j ∧ j ≠ i)
set_option maxRecDepth 100000 in
theorem shaNew_does (H : AHeap) : Does Tryz.prog G 115 [] H fun r h => r = .ptr H.next 0 ∧ h = H.push (.cells (u32s H0s ++ [.nilsl, .int .u64 0])) := by
  refine does_f Tryz.call115 Tryz.func115 rfl (by simp [Tryz.f115]) ?_
  simp [u32s, H0s]
theorem blocksI_len (k : List Int) : ∀ (n : Nat) (h : List Int) (b : Bs), h.length = 8 → (blocksI k n h b).length = 8
  | 0, h, b, hh => hh
  | n + 1, h, b, hh => by
    simp only [blocksI]
    split
    · exact blocksI_len k n _ _ (mixI_len _ hh _)
    · exact hh
theorem restI_len : ∀ (n : Nat) (b : Bs), (restI n b).length ≤ b.length
  | 0, b => Nat.le_refl _
  | n + 1, b => by
    simp only [restI]
    split
    · have := restI_len n (b.drop 64)
      rw [List.length_drop] at this
      omega
    · exact Nat.le_refl _
theorem blocks_live {H0 H : AHeap} (hw : H0.Wf) {B : Nat} (hBn : H0.next ≤ B) {hv : List Int} (hh : hv.length = 8) {w : AV} {b : Bs} (hg : Gr H 1 b.length (strCs b) w (fun j => B ≤ j)) (hl : b.length ≤ 1000000000) :
    Does Tryz.prog G 170 [.agg (u32s hv), w] H fun r h => (∃ v', r = .tuple [.agg (u32s (blocksI K32 (b.length + 1) hv b)), v'] ∧ BtA v' (restI (b.length + 1) b)) ∧ H.next ≤ h.next ∧ (∀ j x, H0.get j = some x → H.get j = some x → h.get j = some x) ∧ ∀ j c, j < B → (∀ p cs, AV.frzs p cs c = c) → H.get j = some (.cells c) → h.get j = some (.cells c) := by
  rcases hg with ⟨h1, h2, rfl⟩ | ⟨p, o, cap, op, pre, junk, rfl, h2, h3, h4, h5, h6, h7⟩
  · obtain rfl := List.length_eq_zero_iff.1 h1
    refine (blocks_does hh .nil (by simp) H).mono ?_
    rintro r h ⟨g1, g0, g2⟩
    exact ⟨g1, g0, fun j x _ hj => g2 j x hj, fun j c _ _ hj => g2 j _ hj⟩
  · refine Does.lend h3 ?_
    have e : [AV.agg (u32s hv), AV.sl p o 1 b.length cap op].map (AV.frz p (pre ++ (strCs b ++ junk))) = [.agg (u32s hv), .vsl (strCs b) b.length] := by
      have e1 : AV.frzs p (pre ++ (strCs b ++ junk)) (u32s hv) = u32s hv := AV.frzs_lt (n := 0) (Nat.zero_le _) _ (u32s_lt 0 hv)
      simp only [List.map_cons, List.map_nil, AV.frz, e1, if_true, List.drop_left' h4, List.take_left' h5]
    rw [e]
    refine (blocks_does hh (.inr ⟨[], by rw [List.append_nil]⟩) hl _).mono ?_
    rintro r h ⟨g1, g0, g2⟩
    refine ⟨g1, by simpa [AHeap.frz] using g0, fun j x h0 hj => g2 j x (frz_old1 hw (by omega) h0 hj), fun j c hj hc hx => g2 j _ ?_⟩
    rw [frz_get hx (by omega), hc]
set_option maxHeartbeats 4000000 in
set_option maxRecDepth 100000 in
theorem shaAdd_does {H : AHeap} {i : Nat} {hv : List Int} (hh : hv.length = 8) (hi : H.get i = some (.cells (u32s hv ++ [.nilsl, .int .u64 0]))) {v : AV} {b : Bs} (hb : BtA v b) (hl : b.length ≤ 100000000) :
    Does Tryz.prog G 116 [.ptr i 0, v] H fun r h => r = .tuple [] ∧ HsAt h i (blocksI K32 (b.length + 1) hv b) (restI (b.length + 1) b) b.length (fun j => H.next ≤ j) ∧ ∀ j x, j ≠ i → H.get j = some x → h.get j = some x := by
  refine Does.wf Tryz.call116 fun hw _ => ?_
  refine does_f Tryz.call116 Tryz.func116 rfl (by simp [Tryz.f116]) ?_
  obtain ⟨M, hM⟩ : ∃ M, M = blocksI K32 (b.length + 1) hv b := ⟨_, rfl⟩
  obtain ⟨L, hL⟩ : ∃ L, L = restI (b.length + 1) b := ⟨_, rfl⟩
  rw [← hM, ← hL]
  have hMl : M.length = 8 := by rw [hM]; exact blocksI_len _ _ _ _ hh
  have hLl : L.length ≤ b.length := by rw [hL]; exact restI_len _ _
  have hin := next_lt hw hi
  obtain ⟨w0, w1, w2, w3, w4, w5, w6, w7, hv8⟩ : ∃ w0 w1 w2 w3 w4 w5 w6 w7, hv = [w0, w1, w2, w3, w4, w5, w6, w7] := by
    match hv, hh with
    | [a, b, c, d, e, f, g, h], _ => exact ⟨a, b, c, d, e, f, g, h, rfl⟩
  have hi' := hi
  rw [hv8] at hi
  simp only [u32s, List.map_cons, List.map_nil, List.cons_append, List.nil_append] at hi
  have q1 : i ≠ H.next := by omega
  obtain ⟨va, ea, fa1, fa2, fa3, fa4⟩ := app_bytes (H := H.push (.cells [])) (l := []) (x := []) (w := .sl H.next 0 1 0 0 false) (u := .nilsl) (b := fun j => H.next ≤ j) (b2 := fun _ => False) (.inr ⟨H.next, 0, 0, false, [], [], rfl, Nat.le_refl _, by simp [strCs], rfl, rfl, rfl, Nat.le_refl _⟩) (.inl .nil) (by simp) (by simp) (nx := H.next + 1) rfl
  have fa2 := fa2.mono (b' := fun j => H.next ≤ j) fun j hj => hj.elim (fun h => h) fun h => by rw [h]; simp
  obtain ⟨vb, eb, fb1, fb2, fb3, fb4⟩ := app_bytes (x := b) fa2 (.inl hb) (b2 := fun _ => False) (by simp) (by omega) (nx := _) rfl
  have fb2 := fb2.mono (b' := fun j => H.next ≤ j) fun j hj => hj.elim (fun h => h) fun h => by rw [h]; simp at fa4; omega
  simp [hi, q1, -aappend]
  rw [fa1]
  simp [-aappend]
  rw [fb1]
  simp
  have old : ∀ j x, H.get j = some x → (((H.push (.cells [])).eff ea).eff eb).get j = some x := fun j x hj => by
    have := next_lt hw hj
    have p1 : j ≠ H.next := by omega
    simp only [AHeap.next_push] at fa4 fa3
    rw [fb3 j (by omega) (by omega), fa3 j (by omega) (by omega)]
    simp [p1, hj]
  have hn2 : H.next ≤ (((H.push (.cells [])).eff ea).eff eb).next := by
    simp only [AHeap.next_push] at fa4
    omega
  generalize ((H.push (.cells [])).eff ea).eff eb = H2 at *
  have gi := old _ _ hi
  have hbl := (show ByF H v b (fun _ => False) from .inl hb).len
  have wl : IntKind.u64.wrap (b.length : Int) = b.length := IntWalk.u64_in _ (by omega)
  simp only [List.nil_append] at fb2
  simp [gi, hbl, wl, -alen]
  have hB := blocks_live (G := G) (H0 := H) (H := H2.set i (.cells [.int .u32 w0, .int .u32 w1, .int .u32 w2, .int .u32 w3, .int .u32 w4, .int .u32 w5, .int .u32 w6, .int .u32 w7, .nilsl, .int .u64 b.length])) hw (Nat.le_refl _) hh (w := vb) (b := b) (fb2.keep fun j x hj hx => by
    have : j ≠ i := by omega
    simp [this, hx]) (by omega)
  rw [← hM, ← hL, hv8] at hB
  simp only [u32s, List.map_cons, List.map_nil] at hB
  refine does_usew hB ?_
  rintro r h ⟨⟨v', rfl, hv'⟩, hk0, hk1, hk2⟩ hw2 _
  have gi2 := hk2 i _ hin (fun p cs => rfl) (by simp; rfl)
  obtain ⟨m0, m1, m2, m3, m4, m5, m6, m7, hM8⟩ : ∃ w0 w1 w2 w3 w4 w5 w6 w7, M = [w0, w1, w2, w3, w4, w5, w6, w7] := by
    match M, hMl with
    | [a, b, c, d, e, f, g, h], _ => exact ⟨a, b, c, d, e, f, g, h, rfl⟩
  clear hB
  subst hM8
  have hin3 := next_lt hw2 gi2
  have i3 : i ≠ h.next := by omega
  obtain ⟨vc, ec, fc1, fc2, fc3, fc4⟩ := app_bytes (H := (h.set i (.cells [.int .u32 m0, .int .u32 m1, .int .u32 m2, .int .u32 m3, .int .u32 m4, .int .u32 m5, .int .u32 m6, .int .u32 m7, .nilsl, .int .u64 b.length])).push (.cells [])) (l := []) (x := L) (w := .sl h.next 0 1 0 0 false) (u := v') (b := fun j => h.next ≤ j) (b2 := fun _ => False) (.inr ⟨h.next, 0, 0, false, [], [], rfl, Nat.le_refl _, by simp [strCs], rfl, rfl, rfl, Nat.le_refl _⟩) (.inl hv') (by simp) (by omega) (nx := h.next + 1) rfl
  have fc2 := fc2.mono (b' := fun j => h.next ≤ j) fun j hj => hj.elim (fun h => h) fun h => by rw [h]; simp
  simp only [List.nil_append, AHeap.next_push, AHeap.next_set] at fc2 fc3 fc4
  have vcc := fc2.cells
  have vcs := fc2.sc
  simp [gi2, -aappend]
  rw [fc1]
  simp
  have hHh : H.next ≤ h.next := by simp only [AHeap.next_set] at hk0; omega
  have old3 : ∀ j x, j ≠ i → j < h.next → h.get j = some x → (((h.set i (.cells [.int .u32 m0, .int .u32 m1, .int .u32 m2, .int .u32 m3, .int .u32 m4, .int .u32 m5, .int .u32 m6, .int .u32 m7, .nilsl, .int .u64 b.length])).push (.cells [])).eff ec).get j = some x := fun j x ji hjn hj => by
    have p1 : j ≠ h.next := by omega
    rw [fc3 j (by omega) (by omega)]
    simp [p1, ji, hj]
  have gi3 : (((h.set i (.cells [.int .u32 m0, .int .u32 m1, .int .u32 m2, .int .u32 m3, .int .u32 m4, .int .u32 m5, .int .u32 m6, .int .u32 m7, .nilsl, .int .u64 b.length])).push (.cells [])).eff ec).get i = some (.cells [.int .u32 m0, .int .u32 m1, .int .u32 m2, .int .u32 m3, .int .u32 m4, .int .u32 m5, .int .u32 m6, .int .u32 m7, .nilsl, .int .u64 b.length]) := by
    rw [fc3 i (by omega) (by omega)]
    simp [i3]
  generalize ((h.set i (.cells [.int .u32 m0, .int .u32 m1, .int .u32 m2, .int .u32 m3, .int .u32 m4, .int .u32 m5, .int .u32 m6, .int .u32 m7, .nilsl, .int .u64 b.length])).push (.cells [])).eff ec = H3 at *
  simp [gi3, vcc, vcs]
  refine ⟨⟨vc, by simp [u32s], .inr ((fc2.keep fun j x hj hx => ?_).mono fun j hj => ⟨by omega, by omega⟩)⟩, fun j x hji hj => ?_⟩
  · have : j ≠ i := by omega
    simp [this, hx]
  · have := next_lt hw hj
    rw [if_neg hji]
    exact old3 j x hji (by omega) (hk1 j x hj (by simp [hji, old j x hj]))
end Go.Proofs.YtekbjlihciedjaaGreatDoor

namespace Go.Proofs.YtekbjlihciedjaaGreatDoor
open Go Go.Abs Go.Rp
variable {G : Nat → Option AV}
def padZ (n : Nat) : Nat := (120 - n % 64) % 64
def padI (t : Bs) : Bs := t ++ List.replicate (padZ t.length) 0
theorem padI_done {t : Bs} (h : t.length % 64 = 56) : padI t = t := by simp [padI, padZ, h]
theorem padI_more {t : Bs} (h : ¬ t.length % 64 = 56) : padI (t ++ [0]) = padI t ∧ padZ (t ++ [0]).length + 1 = padZ t.length := by
  have e : padZ (t ++ [0]).length + 1 = padZ t.length := by
    simp only [padZ, List.length_append, List.length_singleton]
    omega
  refine ⟨?_, e⟩
  simp only [padI]
  rw [← e, List.replicate_succ, List.append_assoc]
  rfl
theorem padZ_lt (n : Nat) : padZ n < 64 := Nat.mod_lt _ (by decide)
def byteX (n : Nat) (s : Nat) : Int := IntKind.u8.wrap ((IntKind.u64.wrap ((n : Int) * 8)).fdiv (2 ^ (min s 64)))
def byteAt (n s : Nat) : UInt8 := UInt8.ofNat (byteX n s).toNat
theorem byteAt_eq (n s : Nat) : ((byteAt n s).toNat : Int) = byteX n s := by
  have h : 0 ≤ byteX n s ∧ byteX n s < 256 := by
    unfold byteX
    rw [IntKind.wrap_u8]
    omega
  unfold byteAt
  rw [UInt8.toNat_ofNat']
  omega
def lenR (n : Nat) : Nat → Bs
  | 0 => []
  | k + 1 => byteAt n (8 * k) :: lenR n k
theorem lenR_len (n : Nat) : ∀ k, (lenR n k).length = k
  | 0 => rfl
  | k + 1 => by simp [lenR, lenR_len n k]
def sumB (left : Bs) (n : Nat) : Bs := padI (left ++ [0x80]) ++ lenR n 8
def u8s (l : List Int) : List AV := l.map (.int .u8 ·)
theorem u8s_len (l : List Int) : (u8s l).length = l.length := by simp [u8s]
theorem u8s_put {l : List Int} {i : Nat} (h : i < l.length) (x : Int) : List.take i (u8s l) ++ AV.int .u8 x :: List.drop (i + 1) (u8s l) = u8s (l.set i x) := by
  have : u8s (l.set i x) = (u8s l).set i (.int .u8 x) := by simp [u8s, List.map_set]
  rw [this, List.set_eq_take_append_cons_drop, if_pos (by rw [u8s_len]; exact h)]
theorem u8s_lt (n : Nat) : ∀ l : List Int, AV.allLt n (u8s l) = true
  | [] => rfl
  | a :: l => by
    have := u8s_lt n l
    simp only [u8s, List.map_cons, AV.allLt, AV.idLt, Bool.true_and] at this ⊢
    exact this
def digI (v : List Int) (j : Nat) : Int := IntKind.u8.wrap (shrI (v.getD (j / 4) 0) (24 - 8 * (j % 4)))
def digs (v : List Int) : Nat → List Int
  | 0 => zeros 32
  | j + 1 => (digs v j).set j (digI v j)
theorem digs_len (v : List Int) : ∀ j, (digs v j).length = 32
  | 0 => rfl
  | j + 1 => by simp [digs, digs_len v j]
def shaSum (hv : List Int) (left : Bs) (n : Nat) : List Int := digs (blocksI K32 ((sumB left n).length + 1) hv (sumB left n)) 32
theorem list8 {l : List Int} (h : l.length = 8) : ∃ a b c d e f g i, l = [a, b, c, d, e, f, g, i] := by
  match l, h with
  | [a, b, c, d, e, f, g, i], _ => exact ⟨a, b, c, d, e, f, g, i, rfl⟩
theorem o_shrN (a : Int) (n : Nat) : ashift .shr .u64 a (n : Int) = some (.int .u64 (a.fdiv (2 ^ (min n 64)))) := by simp only [ashift]; rw [if_neg (by omega)]; rfl
theorem rem64 (n : Nat) : ((n : Int).tmod 64) = ((n % 64 : Nat) : Int) := by
  rw [Int.tmod_eq_emod_of_nonneg (by omega)]; rfl
def Z32 : List AV := [AV.int IntKind.u8 0, AV.int IntKind.u8 0, AV.int IntKind.u8 0, AV.int IntKind.u8 0, AV.int IntKind.u8 0, AV.int IntKind.u8 0, AV.int IntKind.u8 0, AV.int IntKind.u8 0, AV.int IntKind.u8 0, AV.int IntKind.u8 0, AV.int IntKind.u8 0, AV.int IntKind.u8 0, AV.int IntKind.u8 0, AV.int IntKind.u8 0, AV.int IntKind.u8 0, AV.int IntKind.u8 0, AV.int IntKind.u8 0, AV.int IntKind.u8 0, AV.int IntKind.u8 0, AV.int IntKind.u8 0, AV.int IntKind.u8 0, AV.int IntKind.u8 0, AV.int IntKind.u8 0, AV.int IntKind.u8 0, AV.int IntKind.u8 0, AV.int IntKind.u8 0, AV.int IntKind.u8 0, AV.int IntKind.u8 0, AV.int IntKind.u8 0, AV.int IntKind.u8 0, AV.int IntKind.u8 0, AV.int IntKind.u8 0]
theorem aappend_put {P : Program} {t u : TypeId} {get : Nat → Option AObj} {next : Nat} {s x v' : AV} {eff : AEff} (hx : ∀ k i, x ≠ .int k i) (h : aappend P t u get next s x = some (v', eff)) {i : Nat} {y : AObj} (e : eff = .put i y) : ∃ z, get i = some z := by
  subst e
  unfold aappend at h
  split at h
  · exact absurd rfl (hx _ _)
  · repeat' split at h
    all_goals first
      | (simp only [Option.some.injEq, Prod.mk.injEq, reduceCtorEq, and_false] at h; done)
      | (simp only [Option.some.injEq, Prod.mk.injEq, AEff.put.injEq] at h; obtain ⟨_, rfl, _⟩ := h; exact ⟨_, by assumption⟩)
      | cases h
theorem eff_lt {H : AHeap} (hw : ∀ j x, H.get j = some x → j < H.next) {eff : AEff} (he : ∀ i y, eff = .put i y → ∃ z, H.get i = some z) : ∀ j x, (H.eff eff).get j = some x → j < (H.eff eff).next := by
  intro j x hj
  cases eff with
  | same => exact hw j x hj
  | put i y =>
    simp only [AHeap.eff, AHeap.get_set, AHeap.next_set] at hj ⊢
    split at hj
    · rename_i e
      obtain ⟨z, hz⟩ := he i y rfl
      rw [e]; exact hw _ _ hz
    · exact hw j x hj
  | new y =>
    simp only [AHeap.eff, AHeap.get_push, AHeap.next_push] at hj ⊢
    split at hj
    · omega
    · have := hw j x hj; omega
  | move i y =>
    simp only [AHeap.eff, AHeap.get_push, AHeap.next_push, AHeap.next_kill, AHeap.get_kill] at hj ⊢
    have hj : (if j = H.next then some y else if j = i then none else H.get j) = some x := hj
    by_cases e : j = H.next
    · omega
    · rw [if_neg e] at hj
      by_cases e2 : j = i
      · rw [if_pos e2] at hj; cases hj
      · rw [if_neg e2] at hj
        have := hw j x hj; omega
theorem push_lt {H : AHeap} (hw : ∀ j x, H.get j = some x → j < H.next) (y : AObj) : ∀ j x, (H.push y).get j = some x → j < (H.push y).next := by
  intro j x hj
  simp only [AHeap.get_push, AHeap.next_push] at hj ⊢
  split at hj
  · omega
  · have := hw j x hj; omega
theorem app1 {H : AHeap} {l : Bs} {w : AV} {b : Nat → Prop} (h : Gr H 1 l.length (strCs l) w b) (hw : ∀ j x, H.get j = some x → j < H.next) (h1 : l.length ≤ 500000000) (x : UInt8) {c : Int} (hc : ((x.toNat : Nat) : Int) = c) :
    ∃ v' eff, aappend Tryz.prog 22 22 (H.push (.cells [.int .u8 c])).get (H.next + 1) w (.sl H.next 0 1 1 1 false) = some (v', eff) ∧ Gr ((H.push (.cells [.int .u8 c])).eff eff) 1 (l ++ [x]).length (strCs (l ++ [x])) v' (fun j => b j ∨ H.next ≤ j) ∧
      (∀ j, ¬ b j → j < H.next → ((H.push (.cells [.int .u8 c])).eff eff).get j = H.get j) ∧ H.next + 1 ≤ ((H.push (.cells [.int .u8 c])).eff eff).next := by
  have h' : Gr (H.push (.cells [.int .u8 c])) 1 l.length (strCs l) w b := h.keep fun j y hj hy => by
    have := hw j y hy
    have e : j ≠ H.next := by omega
    simp [e, hy]
  obtain ⟨v', eff, f1, f2, f3, f4⟩ := app_bytes (x := [x]) h' (u := .sl H.next 0 1 1 1 false) (b2 := fun _ => True) (.inr (.inr ⟨H.next, 0, 1, false, [], [], rfl, trivial, by simp [strCs, hc], rfl, rfl, rfl, Nat.le_refl _⟩)) (by omega) (by simp) (nx := H.next + 1) rfl
  refine ⟨v', eff, f1, f2.mono fun j hj => ?_, fun j hj hjn => ?_, f4⟩
  · rcases hj with hj | hj
    · exact .inl hj
    · exact .inr (by rw [hj]; simp)
  · rw [f3 j hj (by simp; omega)]
    have e : j ≠ H.next := by omega
    simp [e]
set_option maxHeartbeats 400000 in
set_option maxRecDepth 100000 in
theorem shaSum_does {H : AHeap} {i : Nat} {hv : List Int} (hh : hv.length = 8) {left : Bs} {n : Nat} {P : Nat → Prop} (hs : HsAt H i hv left n P) (hP : ∀ j, P j → j < H.next) (hl : left.length ≤ 100000000) :
    Does Tryz.prog G 117 [.ptr i 0] H fun r h => r = .agg (u8s (shaSum hv left n)) ∧ ∀ j x, ¬ P j → H.get j = some x → h.get j = some x := by
  refine Does.wf Tryz.call117 fun hw _ => ?_
  obtain ⟨M, hM⟩ : ∃ M, M = shaSum hv left n := ⟨_, rfl⟩
  rw [← hM]
  refine does_f Tryz.call117 Tryz.func117 rfl (by simp [Tryz.f117]) ?_
  obtain ⟨u, hi, hu⟩ := hs
  have hin := next_lt hw hi
  have hiR := hi
  obtain ⟨w0, w1, w2, w3, w4, w5, w6, w7, hv8⟩ := list8 hh
  rw [hv8] at hi
  simp only [u32s, List.map_cons, List.map_nil, List.cons_append, List.nil_append] at hi
  have q1 : i ≠ H.next := by omega
  have q2 : i ≠ H.next + 1 := by omega
  have uc := hu.cells
  have us := hu.sc
  have hu' : ByF ((H.push (.cells Z32)).push (.cells [])) u left (fun j => P j ∧ j ≠ i) := by
    rcases hu with hu | hu
    · exact .inl hu
    · exact .inr (hu.keep fun j x hj hx => by
        have := next_lt hw hx
        have p1 : j ≠ H.next := by omega
        have p2 : j ≠ H.next + 1 := by omega
        simp [p1, p2, hx])
  obtain ⟨va, ea, fa1, fa2, fa3, fa4⟩ := app_bytes (H := (H.push (.cells Z32)).push (.cells [])) (l := []) (x := left) (w := .sl (H.next + 1) 0 1 0 0 false) (u := u) (b := fun j => H.next < j) (.inr ⟨H.next + 1, 0, 0, false, [], [], rfl, Nat.lt_succ_self _, by simp [strCs], rfl, rfl, rfl, Nat.le_refl _⟩) hu' (by simp) (by omega) (nx := H.next + 1 + 1) rfl
  simp only [List.nil_append, AHeap.next_push] at fa2 fa3 fa4
  have lt2 : ∀ j x, (((H.push (.cells Z32)).push (.cells [])).eff ea).get j = some x → j < (((H.push (.cells Z32)).push (.cells [])).eff ea).next :=
    eff_lt (push_lt (push_lt (fun j x => next_lt hw) _) _) fun i y e => aappend_put (fun k i => by rcases hu with (⟨rfl, _⟩ | ⟨ts, rfl⟩) | (⟨_, _, rfl⟩ | ⟨p, o, cap, op, pre, junk, rfl, _⟩) <;> simp) fa1 e
  obtain ⟨vb, eb, fb1, fb2, fb3, fb4⟩ := app1 fa2 lt2 (by omega) 0x80 (c := 128) rfl
  have old : ∀ j x, ¬ (H.next < j) → j ≠ H.next + 1 + 1 → (((H.push (.cells Z32)).push (.cells [])).eff ea).get j = some x → True := fun _ _ _ _ _ => trivial
  unfold Z32 at fa1 fb1
  simp [hi, q1, q2, uc, us, -aappend]
  rw [fa1]
  simp [-aappend]
  rw [fb1]
  simp
  have old : ∀ j x, H.get j = some x → ((((((H.push (.cells Z32)).push (.cells [])).eff ea).push (.cells [.int .u8 128])).eff eb)).get j = some x := fun j x hj => by
    have := next_lt hw hj
    have p1 : j ≠ H.next := by omega
    have p2 : j ≠ H.next + 1 := by omega
    rw [fb3 j (by omega) (by omega), fa3 j (by omega) (by omega)]
    simp [p1, p2, hj]
  have hz0 : ((((((H.push (.cells Z32)).push (.cells [])).eff ea).push (.cells [.int .u8 128])).eff eb)).get H.next = some (.cells Z32) := by
    rw [fb3 _ (by omega) (by omega), fa3 _ (by omega) (by omega)]
    simp
  have fb2 := fb2.mono (b' := fun j => H.next < j) fun j hj => by
    rcases hj with (hj | hj) | hj <;> omega
  unfold Z32 at old hz0 fb2
  generalize ((((((H.push (.cells [AV.int IntKind.u8 0, AV.int IntKind.u8 0, AV.int IntKind.u8 0, AV.int IntKind.u8 0, AV.int IntKind.u8 0, AV.int IntKind.u8 0, AV.int IntKind.u8 0, AV.int IntKind.u8 0, AV.int IntKind.u8 0, AV.int IntKind.u8 0, AV.int IntKind.u8 0, AV.int IntKind.u8 0, AV.int IntKind.u8 0, AV.int IntKind.u8 0, AV.int IntKind.u8 0, AV.int IntKind.u8 0, AV.int IntKind.u8 0, AV.int IntKind.u8 0, AV.int IntKind.u8 0, AV.int IntKind.u8 0, AV.int IntKind.u8 0, AV.int IntKind.u8 0, AV.int IntKind.u8 0, AV.int IntKind.u8 0, AV.int IntKind.u8 0, AV.int IntKind.u8 0, AV.int IntKind.u8 0, AV.int IntKind.u8 0, AV.int IntKind.u8 0, AV.int IntKind.u8 0, AV.int IntKind.u8 0, AV.int IntKind.u8 0])).push (.cells [])).eff ea).push (.cells [.int .u8 128])).eff eb)) = H2 at *
  have hz0 : H2.get H.next = some (.cells (u8s (zeros 32))) := hz0
  have hpz := padZ_lt (left ++ [0x80]).length
  refine aws_loopw (fun m T' H' => ∃ t w, padI t = padI (left ++ [0x80]) ∧ padZ t.length = m ∧ t.length + m = (left ++ [0x80]).length + padZ (left ++ [0x80]).length ∧ Gr H' 1 t.length (strCs t) w (fun j => H.next < j) ∧ (∀ j x, H.get j = some x → H'.get j = some x) ∧ H'.get H.next = some (.cells (u8s (zeros 32))) ∧
    T' 0 = .ptr i 0 ∧ T' 2 = .ptr H.next 0 ∧ T' 3 = w) (padZ (left ++ [0x80]).length) ?_ ?_
  · exact ⟨left ++ [0x80], vb, rfl, rfl, rfl, fb2, old, hz0, by simp, by simp, by simp⟩
  clear fa1 fa2 fa3 fa4 fb1 fb2 fb3 fb4 lt2 old hz0
  rintro m T H1 ⟨t, w, hpd, hpm, htl, hg, hk, hz, t0, t2, t3⟩ hw1 _
  have hal : alen Tryz.prog 22 w = some (.int .i64 t.length) := hg.alen (e := 5) (by simp)
  have htb : t.length ≤ 100000100 := by
    simp only [List.length_append, List.length_singleton] at htl hpz
    omega
  by_cases h56 : t.length % 64 = 56
  · have hne : ((((t.length : Int).tmod 64)) != 56) = false := by rw [rem64, h56]; rfl
    simp [t0, t2, t3, hal, hne, -alen]
    have hF : sumB left n = t ++ lenR n 8 := by rw [sumB, ← hpd, padI_done h56]
    have hSl : (sumB left n).length ≤ 200000000 := by rw [hF, List.length_append, lenR_len]; omega
    refine aws_loopw (fun m T' H' => ∃ t' w, sumB left n = t' ++ lenR n m ∧ m ≤ 8 ∧ Gr H' 1 t'.length (strCs t') w (fun j => H.next < j) ∧ (∀ j x, H.get j = some x → H'.get j = some x) ∧ H'.get H.next = some (.cells (u8s (zeros 32))) ∧
      T' 0 = .ptr i 0 ∧ T' 2 = .ptr H.next 0 ∧ T' 3 = w ∧ T' 4 = .int .i64 (8 * (m : Int) - 8)) 8 ?_ ?_
    · exact ⟨t, w, hF, by omega, hg, hk, hz, by simp [t0], by simp [t2], by simp [t3], by simp⟩
    clear hg hk hz t0 t2 t3 hw1 hal hne
    rintro m T H1 ⟨t', w, hF, hm8, hg, hk, hz, t0, t2, t3, t4⟩ hw1 _
    have gi := hk _ _ hi
    have hFl := congrArg List.length hF
    rw [List.length_append, lenR_len] at hFl
    cases m with
    | succ m =>
      have t4 : T 4 = .int .i64 ((8 * m : Nat) : Int) := by rw [t4]; congr 1; omega
      have hge : (0 : Int) ≤ ((8 * m : Nat) : Int) := by omega
      have w8 : IntKind.i64.wrap (((8 * m : Nat) : Int) - 8) = 8 * (m : Int) - 8 := by rw [IntWalk.i64_in _ (by omega)]; omega
      have hwl : t'.length ≤ 500000000 := by omega
      obtain ⟨v', eff, f1, f2, f3, f4⟩ := app1 hg (fun j x => next_lt hw1) hwl (byteAt n (8 * m)) (c := byteX n (8 * m)) (byteAt_eq n _)
      unfold byteX at f1 f2 f3 f4
      obtain ⟨I8, hI8⟩ : ∃ I8, I8 = 8 * m := ⟨_, rfl⟩
      rw [← hI8] at t4 hge w8 f1 f2 f3 f4
      simp [t0, t2, t3, t4, gi, hge, o_geq64, o_shrN, o_mulU, o_sub64, w8, -aappend, -ashift, -aint2]
      have hF2 : sumB left n = (t' ++ [byteAt n (8 * m)]) ++ lenR n m := by rw [hF]; simp [lenR]
      rw [f1]
      simp [t0, t2, t3, t4, w8, o_sub64, -aint2]
      rw [← hI8] at hF2
      refine ⟨m, by omega, t' ++ [byteAt n I8], hF2, by omega, v', f2.mono fun j hj => ?_, fun j x hj => ?_, ?_, rfl, by first | rfl | omega⟩
      · rcases hj with hj | hj
        · exact hj
        · have := next_lt hw1 hz; omega
      · have hjn := next_lt hw hj
        have := next_lt hw1 (hk j x hj)
        rw [f3 j (by omega) (by omega)]
        exact hk j x hj
      · have := next_lt hw1 hz
        rw [f3 _ (by omega) (by omega)]
        exact hz
    | zero =>
      have t4 : T 4 = .int .i64 (-8) := t4
      simp [t0, t2, t3, t4, gi]
      have hF0 : sumB left n = t' := by rw [hF]; simp [lenR]
      have hB := blocks_live (G := G) (H0 := H) hw (B := H.next + 1) (by omega) hh (w := w) (b := t') (hg.mono fun j hj => by omega) (by rw [← hF0]; omega)
      rw [hv8] at hB
      simp only [u32s, List.map_cons, List.map_nil] at hB
      rw [← hv8] at hB
      refine does_usew hB ?_
      rintro r h ⟨⟨v', rfl, hv'⟩, hk0, hk1, hk2⟩ hw2 _
      have gz := hk2 H.next _ (by omega) (fun p cs => AV.frzs_lt (n := 0) (Nat.zero_le _) _ (u8s_lt 0 _)) hz
      obtain ⟨V, hV⟩ : ∃ V, V = blocksI K32 (t'.length + 1) hv t' := ⟨_, rfl⟩
      have hMV : M = digs V 32 := by rw [hM, shaSum, hF0, hV]
      have hVl : V.length = 8 := by rw [hV]; exact blocksI_len _ _ _ _ hh
      have vl := u32s_len V
      rw [hVl] at vl
      have tk : List.take 8 (u32s V) = u32s V := by rw [← vl, List.take_length]
      have sc : (∀ x, x ∈ u32s V → x.scalar = true) = True := eq_true fun x hx => List.all_eq_true.1 (u32s_sc _) x hx
      have eV : List.map (fun x => AV.int IntKind.u32 x) V = u32s V := rfl
      have gzn := next_lt hw2 gz
      have old : ∀ j x, H.get j = some x → h.get j = some x := fun j x hj => hk1 j x hj (hk j x hj)
      have vc := hv'.cells
      have vs := hv'.sc
      rw [← hV]
      clear hk1 hk2 hB hV hk hz hg
      simp [eV, vl, tk, sc, vc, vs]
      refine aws_loopw (fun m T' H' => ∃ a, a + m = 8 ∧ (∀ j x, H.get j = some x → H'.get j = some x) ∧ H'.get H.next = some (.cells (u8s (zeros 32))) ∧ H'.get (h.next + 1) = some (.cells (u8s (digs V (4 * a)))) ∧
        T' 2 = .ptr H.next 0 ∧ T' 7 = .ptr (h.next + 1) 0 ∧ T' 50 = .agg (u32s V) ∧ T' 51 = .int .i64 a) 8 ?_ ?_
      · refine ⟨0, rfl, fun j x hj => ?_, ?_, by simp [digs, u8s, zeros], ?_, ?_, ?_, ?_⟩
        · have := next_lt hw2 (old j x hj)
          have p1 : j ≠ h.next := by omega
          have p2 : j ≠ h.next + 1 := by omega
          simp [p1, p2, old j x hj]
        · have p1 : H.next ≠ h.next := by omega
          have p2 : H.next ≠ h.next + 1 := by omega
          simp [p1, p2, gz]
        all_goals simp [t2]
      clear old gz t0 t2 t3 t4 gi hw1
      rintro m T H1 ⟨a, ham, hk, hz, hd, t2, t7, t50, t51⟩ hw1 _
      have zn := next_lt hw1 hz
      by_cases ha : a < 8
      · have haa : (a : Int) < 8 := by omega
        simp [t50, t51, ha, haa, vl, u32s_get]
        refine aws_loopw (fun m' T' H' => ∃ k, k + m' = 4 ∧ (∀ j x, H.get j = some x → H'.get j = some x) ∧ H'.get H.next = some (.cells (u8s (zeros 32))) ∧ H'.get (h.next + 1) = some (.cells (u8s (digs V (4 * a + k)))) ∧
          T' 2 = .ptr H.next 0 ∧ T' 7 = .ptr (h.next + 1) 0 ∧ T' 50 = .agg (u32s V) ∧ T' 51 = .int .i64 a ∧ T' 8 = .int .i64 a ∧ T' 9 = .int .u32 (V.getD a 0) ∧ T' 55 = .int .i64 k) 4 ?_ ?_
        · refine ⟨0, rfl, hk, hz, hd, ?_, ?_, ?_, ?_, ?_, ?_, ?_⟩ <;> simp [t2, t7, t50, t51]
        clear hk hz hd t2 t7 t50 t51 hw1
        rintro m' T H1 ⟨k, hkm, hk, hz, hd, t2, t7, t50, t51, t8, t9, t55⟩ hw1 _
        by_cases hk4 : k < 4
        · have hkk : (k : Int) < 4 := by omega
          have dl : (digs V (4 * a + k)).length = 32 := digs_len _ _
          have ul := u8s_len (digs V (4 * a + k))
          rw [dl] at ul
          have w1 : IntKind.i64.wrap (4 * (a : Int)) = ((4 * a : Nat) : Int) := by rw [IntWalk.i64_in _ (by omega)]; omega
          have w2 : IntKind.i64.wrap (((4 * a : Nat) : Int) + k) = ((4 * a + k : Nat) : Int) := by rw [IntWalk.i64_in _ (by omega)]; omega
          have w3 : IntKind.i64.wrap (8 * (k : Int)) = ((8 * k : Nat) : Int) := by rw [IntWalk.i64_in _ (by omega)]; omega
          have w4 : IntKind.i64.wrap (24 - ((8 * k : Nat) : Int)) = ((24 - 8 * k : Nat) : Int) := by rw [IntWalk.i64_in _ (by omega)]; omega
          have w5 : IntKind.i64.wrap ((k : Int) + 1) = ((k + 1 : Nat) : Int) := by rw [IntWalk.i64_in _ (by omega)]; omega
          obtain ⟨A, hA⟩ : ∃ A, A = 4 * a := ⟨_, rfl⟩
          obtain ⟨B, hB⟩ : ∃ B, B = 4 * a + k := ⟨_, rfl⟩
          obtain ⟨C, hC⟩ : ∃ C, C = 8 * k := ⟨_, rfl⟩
          obtain ⟨D, hD⟩ : ∃ D, D = 24 - 8 * k := ⟨_, rfl⟩
          rw [← hB] at w2 hd dl ul
          rw [← hA] at w1 w2
          rw [← hD] at w4
          rw [← hC] at w3 w4
          have b1 : B < 32 := by omega
          have b1' : (B : Int) < 32 := by omega
          have b2 : B ≤ 31 := by omega
          simp [t2, t7, t50, t51, t8, t9, t55, hk4, hkk, o_lss64, o_mul64, o_add64, o_sub64, o_shr, w1, w2, w3, w4, w5, hd, ul, b1, b1', b2, -aint2, -ashift]
          refine ⟨m' - 1, by omega, k + 1, by omega, fun j x hj => ?_, ?_, ?_, by omega⟩
          · have := next_lt hw hj
            have p1 : j ≠ h.next + 1 := by omega
            simp [p1, hk j x hj]
          · rw [if_neg (by omega)]; exact hz
          · rw [u8s_put (by omega)]
            have e1 : 4 * a + (k + 1) = B + 1 := by omega
            have e2 : B / 4 = a := by omega
            have e3 : 24 - 8 * (B % 4) = D := by omega
            rw [e1]
            simp only [digs, digI, e2, e3]
            simp
        · obtain rfl : k = 4 := by omega
          have w5 : IntKind.i64.wrap ((a : Int) + 1) = ((a + 1 : Nat) : Int) := by rw [IntWalk.i64_in _ (by omega)]; omega
          simp [t2, t7, t50, t51, t55, w5]
          exact ⟨m - 1, by omega, a + 1, by omega, hk, hz, by rw [show 4 * (a + 1) = 4 * a + 4 by omega]; exact hd, by omega⟩
      · obtain rfl : a = 8 := by omega
        have dl : (digs V (4 * 8)).length = 32 := digs_len _ _
        rw [← hMV] at hd dl
        have ul := u8s_len M
        rw [dl] at ul
        have tkM : List.take 32 (u8s M) = u8s M := by rw [← ul, List.take_length]
        have scM : (∀ x, x ∈ u8s M → x.scalar = true) = True := eq_true fun x hx => by simp only [u8s, List.mem_map] at hx; obtain ⟨y, _, rfl⟩ := hx; rfl
        have zl : (u8s (zeros 32)).length = 32 := by rw [u8s_len]; rfl
        have dz : List.drop 32 (u8s (zeros 32)) = [] := List.drop_eq_nil_of_le (by rw [zl]; exact Nat.le_refl _)
        simp [t2, t7, t51, hz, hd, ul, tkM, scM, zl, dz]
        intro j x _ hj
        have := next_lt hw hj
        have p1 : j ≠ H.next := by omega
        simp [p1, hk j x hj]
  · have hne : ((((t.length : Int).tmod 64)) != 56) = true := by rw [rem64, bne_iff_ne]; omega
    obtain ⟨v', eff, f1, f2, f3, f4⟩ := app1 hg (fun j x => next_lt hw1) (by omega) 0 (c := 0) rfl
    simp [t0, t2, t3, hal, hne, -alen, -aappend]
    rw [f1]
    simp [t0, t2, t3]
    obtain ⟨p1, p2⟩ := padI_more h56
    have l1 : (left ++ [0x80]).length = left.length + 1 := by simp
    rw [l1] at htl hpz
    refine ⟨m - 1, by omega, t ++ [0], by rw [p1, hpd], by omega, by simp only [List.length_append, List.length_singleton]; omega, v', f2.mono fun j hj => ?_, fun j x hj => ?_, ?_, rfl⟩
    · rcases hj with hj | hj
      · exact hj
      · have := next_lt hw1 hz; omega
    · have hjn := next_lt hw hj
      have := next_lt hw1 (hk j x hj)
      rw [f3 j (by omega) (by omega)]
      exact hk j x hj
    · have := next_lt hw1 hz
      rw [f3 _ (by omega) (by omega)]
      exact hz
def shaOf (b : Bs) : List Int := shaSum (blocksI K32 (b.length + 1) H0s b) (restI (b.length + 1) b) b.length
set_option maxRecDepth 100000 in
theorem shaOf_does {v : AV} {b : Bs} (hb : BtA v b) (hl : b.length ≤ 100000000) (H : AHeap) : Does Tryz.prog G 73 [v] H fun r h => r = .agg (u8s (shaOf b)) ∧ h = H := by
  obtain ⟨M, hM⟩ : ∃ M, M = shaOf b := ⟨_, rfl⟩
  rw [← hM]
  refine Does.forgot (R := fun r h => r = .agg (u8s M) ∧ ∀ j x, H.get j = some x → h.get j = some x) ?_ (fun hw ha r H1 ⟨h1, h2⟩ => ⟨h2, by rw [h1, AV.idLt, u8s_lt], h1, rfl⟩)
  refine Does.wf Tryz.call73 fun hw _ => ?_
  refine does_f Tryz.call73 Tryz.func73 rfl (by simp [Tryz.f73]) ?_
  simp
  refine does_usew (shaNew_does _) ?_
  rintro r h ⟨rfl, rfl⟩ hw1 _
  simp
  refine does_usew (shaAdd_does (hv := H0s) rfl (by simp) hb hl) ?_
  rintro r h ⟨rfl, h1, h2⟩ hw2 _
  simp
  have hL := restI_len (b.length + 1) b
  have h1' : HsAt h (H.next + 1) (blocksI K32 (b.length + 1) H0s b) (restI (b.length + 1) b) b.length (fun j => H.next + 1 ≤ j ∧ j < h.next) := by
    obtain ⟨u, g1, g2⟩ := h1
    refine ⟨u, g1, ?_⟩
    rcases g2 with g2 | g2
    · exact .inl g2
    · exact .inr ((Gr_lt g2 fun j x => next_lt hw2).mono fun j hj => ⟨⟨by have := hj.1.1; simp at this; omega, hj.2.1⟩, hj.1.2⟩)
  have hz := h2 H.next _ (by omega) (by simp; rfl)
  refine does_usew (shaSum_does (blocksI_len _ _ _ _ rfl) h1' (fun j hj => hj.2) (by omega)) ?_
  rintro r h' ⟨rfl, h3⟩ hw3 _
  have hz3 := h3 H.next _ (by omega) hz
  have hM2 : u8s (shaSum (blocksI K32 (b.length + 1) H0s b) (restI (b.length + 1) b) b.length) = u8s M := by rw [hM]; rfl
  rw [hM2]
  have ml : M.length = 32 := by rw [hM]; exact digs_len _ _
  have ul := u8s_len M
  rw [ml] at ul
  have tkM : List.take 32 (u8s M) = u8s M := by rw [← ul, List.take_length]
  have scM : (∀ x, x ∈ u8s M → x.scalar = true) = True := eq_true fun x hx => by simp only [u8s, List.mem_map] at hx; obtain ⟨y, _, rfl⟩ := hx; rfl
  simp [hz3, ul, tkM, scM]
  intro j x hj
  have := next_lt hw hj
  have p1 : j ≠ H.next := by omega
  have p2 : j ≠ H.next + 1 := by omega
  simp [p1, h3 j x (by omega) (h2 j x (by omega) (by simp [p1, p2, hj]))]
end Go.Proofs.YtekbjlihciedjaaGreatDoor

namespace Go.Proofs.YtekbjlihciedjaaGreatDoor
open Go Go.Abs Go.Rp
variable {G : Nat → Option AV}
def MacAt (H : AHeap) (m q : Nat) (p : List AV) (mv : List Int) (t : Nat) (op : Bool) : Prop :=
  H.get m = some (.cells (p ++ [.sl q 0 1 4 4 op, .int .i64 t])) ∧ H.get q = some (.cells (ints mv)) ∧ p.length = 6 ∧ mv.length = 4 ∧ m ≠ q ∧ t ≤ 4611686018427387904 ∧ ∀ v ∈ mv, i64 v
def stateB (mv : List Int) (t : Nat) : Bs := encU t ++ (encU 4 ++ encIs mv)
theorem list6 {l : List AV} (h : l.length = 6) : ∃ a b c d e f, l = [a, b, c, d, e, f] := by
  match l, h with
  | [a, b, c, d, e, f], _ => exact ⟨a, b, c, d, e, f, rfl⟩
theorem ints_get {l : List Int} {i : Nat} (h : i < (ints l).length) : (ints l)[i]'h = .int .i64 (l.getD i 0) := by
  have h' : i < l.length := by rw [ints_len] at h; exact h
  simp [ints, h']
theorem encI_le {v : Int} (h : i64 v) : (encI v).length ≤ 10 := encU_le10 (zig_lt h)
theorem encIs_le10 : ∀ {l : List Int}, (∀ v ∈ l, i64 v) → (encIs l).length ≤ 10 * l.length
  | [], _ => by simp [encIs]
  | a :: l, h => by
    have h1 := encI_le (h a (by simp))
    have h2 := encIs_le10 (l := l) fun v hv => h v (by simp [hv])
    simp only [encIs, List.flatMap_cons, List.length_append, List.length_cons] at h2 ⊢
    omega
theorem encIs_append (a b : List Int) : encIs (a ++ b) = encIs a ++ encIs b := by simp [encIs]
set_option maxRecDepth 100000 in
theorem state_does {H : AHeap} {m q : Nat} {p : List AV} {mv : List Int} {t : Nat} {op : Bool} (hm : MacAt H m q p mv t op) : Does Tryz.prog G 74 [.ptr m 0] H fun r h => r = bV (stateB mv t) ∧ h = H := by
  obtain ⟨h1, h2, h3, h4, h5, h6, h7⟩ := hm
  obtain ⟨a, b, c, d, e, f, rfl⟩ := list6 h3
  simp only [List.cons_append, List.nil_append] at h1
  refine does_f Tryz.call74 Tryz.func74 rfl (by simp [Tryz.f74]) ?_
  have w1 : IntKind.u64.wrap (t : Int) = t := IntWalk.u64_in _ (by omega)
  have l1 := encU_le10 (u := t) (by omega)
  have l2 := encU_le10 (u := 4) (by omega)
  simp [h1, w1]
  refine does_use (packU_does (u := t) (by omega) .nil (by simp) _) ?_
  rintro r h ⟨rfl, rfl⟩
  simp [h1]
  refine does_use (packU_does (u := 4) (by omega) (.bV ([] ++ encU t)) (by simp; omega) _) ?_
  rintro r h ⟨rfl, rfl⟩
  simp [h1]
  obtain ⟨B0, hB0⟩ : ∃ B0, B0 = encU t ++ encU 4 := ⟨_, rfl⟩
  have hS : stateB mv t = B0 ++ encIs mv := by rw [hB0, stateB, List.append_assoc]
  have lB : B0.length ≤ 20 := by rw [hB0, List.length_append]; omega
  rw [hS, ← hB0]
  refine aws_loopw (fun k T' H' => ∃ j, j + k = 4 ∧ H' = h ∧ T' 3 = bV (B0 ++ encIs (mv.take j)) ∧ T' 23 = .sl q 0 1 4 4 op ∧ T' 24 = .int .i64 4 ∧ T' 25 = .int .i64 j) 4 ?_ ?_
  · refine ⟨0, rfl, rfl, ?_, ?_, ?_, ?_⟩ <;> simp [encIs, hB0]
  rintro k T H1 ⟨j, hjk, rfl, t3, t23, t24, t25⟩ hw1 _
  by_cases hj : j < 4
  · have hjj : (j : Int) < 4 := by omega
    have hj4 : j ≤ 4 := by omega
    obtain ⟨v, hv⟩ : ∃ v, mv[j]? = some v := ⟨_, List.getElem?_eq_getElem (by omega)⟩
    have hvi : i64 v := h7 v (List.mem_of_getElem? hv)
    have iv : (ints mv)[j]? = some (.int .i64 v) := by simp [ints, hv]
    have il := ints_len mv
    rw [h4] at il
    have hsn : mv.take (j + 1) = mv.take j ++ [v] := by rw [List.take_add_one, hv]; rfl
    have hle : (encIs (mv.take j)).length ≤ 40 := by
      have := encIs_le10 (l := mv.take j) fun x hx => h7 x (List.mem_of_mem_take hx)
      rw [List.length_take] at this
      omega
    have wr : IntKind.i64.wrap ((j : Int) + 1) = ((j + 1 : Nat) : Int) := by rw [IntWalk.i64_in _ (by omega)]; omega
    simp [t3, t23, t24, t25, hj, hjj, h2, il, hj4, ints_get, hv]
    refine does_use (packI_does hvi (bs := B0 ++ encIs (mv.take j)) (.bV _) (by rw [List.length_append]; omega) _) ?_
    rintro r h ⟨rfl, rfl⟩
    simp [t3, t23, t24, t25]
    refine ⟨k - 1, by omega, j + 1, by omega, ?_, by omega⟩
    rw [hsn, encIs_append]
    simp [encIs]
  · obtain rfl : j = 4 := by omega
    have : mv.take 4 = mv := by rw [← h4, List.take_length]
    rw [this] at t3
    simp [t3, t24, t25, hS]
def digestV (mv : List Int) (t : Nat) : AV := .agg (u8s (shaOf (stateB mv t)))
theorem stateB_le {mv : List Int} {t : Nat} (h4 : mv.length = 4) (h7 : ∀ v ∈ mv, i64 v) (ht : t < 2 ^ 64) : (stateB mv t).length ≤ 60 := by
  have l1 := encU_le10 ht
  have l2 := encU_le10 (u := 4) (by omega)
  have l3 := encIs_le10 h7
  simp only [stateB, List.length_append]
  omega
theorem shaOf_len (b : Bs) : (shaOf b).length = 32 := digs_len _ _
set_option maxRecDepth 100000 in
theorem digest_does {H : AHeap} {m q : Nat} {p : List AV} {mv : List Int} {t : Nat} {op : Bool} (hm : MacAt H m q p mv t op) : Does Tryz.prog G 39 [.ptr m 0] H fun r h => r = digestV mv t ∧ h = H := by
  obtain ⟨M, hM⟩ : ∃ M, M = shaOf (stateB mv t) := ⟨_, rfl⟩
  have hD : digestV mv t = .agg (u8s M) := by rw [hM]; rfl
  rw [hD]
  refine Does.forgot (R := fun r h => r = .agg (u8s M) ∧ ∀ j x, H.get j = some x → h.get j = some x) ?_ (fun hw ha r H1 ⟨h1, h2⟩ => ⟨h2, by rw [h1, AV.idLt, u8s_lt], h1, rfl⟩)
  refine Does.wf Tryz.call39 fun hw _ => ?_
  refine does_f Tryz.call39 Tryz.func39 rfl (by simp [Tryz.f39]) ?_
  have hmn := next_lt hw hm.1
  have hqn := next_lt hw hm.2.1
  have q1 : m ≠ H.next := by omega
  have q2 : q ≠ H.next := by omega
  simp
  refine does_use (state_does (q := q) (p := p) (mv := mv) (t := t) (op := op) ⟨by simp [q1, hm.1], by simp [q2, hm.2.1], hm.2.2⟩) ?_
  rintro r h ⟨rfl, rfl⟩
  simp
  refine does_use (shaOf_does (.bV (stateB mv t)) (by have := stateB_le (t := t) hm.2.2.2.1 hm.2.2.2.2.2.2 (by have := hm.2.2.2.2.2.1; omega); omega) _) ?_
  rintro r h ⟨rfl, rfl⟩
  have ml : M.length = 32 := by rw [hM]; exact shaOf_len _
  rw [← hM]
  have ul := u8s_len M
  rw [ml] at ul
  have tkM : List.take 32 (u8s M) = u8s M := by rw [← ul, List.take_length]
  have scM : (∀ x, x ∈ u8s M → x.scalar = true) = True := eq_true fun x hx => by simp only [u8s, List.mem_map] at hx; obtain ⟨y, _, rfl⟩ := hx; rfl
  simp [ul, tkM, scM]
  intro j x hj
  have := next_lt hw hj
  have p1 : j ≠ H.next := by omega
  simp [p1, hj]
end Go.Proofs.YtekbjlihciedjaaGreatDoor

namespace Go.Proofs.YtekbjlihciedjaaGreatDoor
open Go Go.Abs Go.Rp
variable {G : Nat → Option AV}
def fitI : List Int → List Int → Bool
  | [], [] => true
  | k :: ks, x :: l => (decide (k ≠ 1) || decide (x = 0) || decide (x = 1)) && fitI ks l
  | _, _ => false
theorem fitI_len : ∀ {ks l : List Int}, fitI ks l = true → ks.length = l.length
  | [], [], _ => rfl
  | k :: ks, x :: l, h => by
    simp only [fitI, Bool.and_eq_true] at h
    simp [fitI_len h.2]
  | [], _ :: _, h => by simp [fitI] at h
  | _ :: _, [], h => by simp [fitI] at h
theorem ticks_does {H : AHeap} {m q : Nat} {p : List AV} {mv : List Int} {t : Nat} {op : Bool} (hm : MacAt H m q p mv t op) : Does Tryz.prog G 37 [.ptr m 0] H fun r h => r = .int .i64 t ∧ h = H := by
  obtain ⟨h1, h2, h3, h4, h5, h6, h7⟩ := hm
  obtain ⟨a, b, c, d, e, f, rfl⟩ := list6 h3
  simp only [List.cons_append, List.nil_append] at h1
  refine does_f Tryz.call37 Tryz.func37 rfl (by simp [Tryz.f37]) ?_
  simp [h1]
set_option maxRecDepth 100000 in
theorem fit_does {ks l : List Int} {v : AV} {ts : List AV} (hv : v = .nilsl ∧ l = [] ∨ v = .vsl (ints l ++ ts) l.length) (hk : ks.length ≤ 1000000) (hl : l.length ≤ 1000000) (H : AHeap) :
    Does Tryz.prog G 71 [.vsl (ints ks) ks.length, v] H fun r h => r = .bool (fitI ks l) ∧ h = H := by
  have hal : alen Tryz.prog 33 v = some (.int .i64 l.length) := by rcases hv with ⟨rfl, rfl⟩ | rfl <;> simp [alen]
  have hkl : alen Tryz.prog 32 (.vsl (ints ks) ks.length) = some (.int .i64 ks.length) := by simp [alen]
  refine does_f Tryz.call71 Tryz.func71 rfl (by simp [Tryz.f71]) ?_
  by_cases hne : ks.length = l.length
  case neg =>
    have hf : fitI ks l = false := by
      cases h : fitI ks l with
      | false => rfl
      | true => exact absurd (fitI_len h) hne
    have c1 : ((ks.length : Int) != l.length) = true := by rw [bne_iff_ne]; omega
    simp [hal, hkl, c1, hf, -alen]
  have c1 : ((ks.length : Int) != l.length) = false := by simp [hne]
  simp [hal, hkl, c1, -alen]
  obtain ⟨F, hF⟩ : ∃ F, F = fitI ks l := ⟨_, rfl⟩
  rw [← hF]
  refine aws_loopw (fun m T' H' => ∃ j, j + m = ks.length ∧ H' = H ∧ F = fitI (ks.drop j) (l.drop j) ∧ T' 1 = v ∧ T' 12 = .vsl (ints ks) ks.length ∧ T' 13 = .int .i64 ks.length ∧ T' 14 = .int .i64 j) ks.length ?_ ?_
  · refine ⟨0, by simp, rfl, by simpa using hF, ?_, ?_, ?_, ?_⟩ <;> simp
  rintro m T H1 ⟨j, hjm, rfl, hFj, t1, t12, t13, t14⟩ hw1 _
  by_cases hj : j < ks.length
  · have hjj : (j : Int) < ks.length := by omega
    have hv' : v = .vsl (ints l ++ ts) l.length := by
      rcases hv with ⟨_, rfl⟩ | h
      · rw [List.length_nil] at hne; omega
      · exact h
    have k1 : ks.drop j = ks[j] :: ks.drop (j + 1) := List.drop_eq_getElem_cons hj
    have k2 : l.drop j = l[j] :: l.drop (j + 1) := List.drop_eq_getElem_cons (by omega)
    have g1 : (ints ks)[j]? = some (.int .i64 ks[j]) := by simp [ints, hj]
    have g2 : (ints l ++ ts)[j]? = some (.int .i64 l[j]) := by rw [List.getElem?_append_left (by rw [ints_len]; omega)]; simp [ints, show j < l.length by omega]
    rw [k1, k2] at hFj
    have c2 := ints_len ks
    generalize ks[j] = k at *
    generalize l[j] = x at *
    have hjl : j < l.length := by omega
    have hjl' : (j : Int) < l.length := by omega
    have wr : IntKind.i64.wrap ((j : Int) + 1) = ((j + 1 : Nat) : Int) := by rw [IntWalk.i64_in _ (by omega)]; omega
    have c3 : (ints l ++ ts).length = l.length + ts.length := by simp [ints_len]
    generalize hC : ints l ++ ts = C at *
    generalize hD : ints ks = D at *
    rw [hv'] at t1
    simp [t1, t12, t13, t14, hj, hjj, g1]
    by_cases hk1 : k = 1
    · by_cases x0 : x = 0
      · have e0 : (x != 0) = false := by simp [x0]
        simp [hk1, x0, e0, t1, t12, t13, t14, hjl, hjl', g2]
        refine ⟨m - 1, by omega, j + 1, by omega, ?_, hv'.symm, wr⟩
        simpa [fitI, x0] using hFj
      · have e0 : (x != 0) = true := by simp [x0]
        by_cases x1 : x = 1
        · have e1 : (x != 1) = false := by simp [x1]
          simp [hk1, x0, x1, e0, e1, t1, t12, t13, t14, hjl, hjl', g2]
          refine ⟨m - 1, by omega, j + 1, by omega, ?_, hv'.symm, wr⟩
          simpa [fitI, x1] using hFj
        · have e1 : (x != 1) = true := by simp [x1]
          simp [hk1, x0, x1, e0, e1, t1, t12, t13, t14, hjl, hjl', g2]
          simp [fitI, hk1, x0, x1] at hFj
          exact hFj
    · simp [hk1, t1, t12, t13, t14]
      refine ⟨m - 1, by omega, j + 1, by omega, ?_, hv'.symm, wr⟩
      simpa [fitI, hk1] using hFj
  · obtain rfl : j = ks.length := by omega
    rw [List.drop_length, hne, List.drop_length] at hFj
    simp only [fitI] at hFj
    simp [t13, t14, hFj]
end Go.Proofs.YtekbjlihciedjaaGreatDoor

namespace Go.Proofs.YtekbjlihciedjaaGreatDoor
open Go Go.Abs Go.Rp
variable {G : Nat → Option AV}
theorem fits_does {H : AHeap} {r pI cap : Nat} {op : Bool} {a0 a1 a2 a3 : AV} {e : List AV} (hr : H.get r = some (.cells (a0 :: a1 :: a2 :: a3 :: .sl pI 0 1 1 cap op :: e))) (hp : H.get pI = some (.cells [.int .i64 2])) {l : List Int} {v : AV} {ts : List AV} (hv : v = .nilsl ∧ l = [] ∨ v = .vsl (ints l ++ ts) l.length) (hl : l.length ≤ 1000000) :
    Does Tryz.prog G 45 [.ptr r 0, v] H fun x h => x = .bool (decide (l.length = 1)) ∧ h = H := by
  have hal : alen Tryz.prog 45 v = some (.int .i64 l.length) := by rcases hv with ⟨rfl, rfl⟩ | rfl <;> simp [alen]
  have hil : alen Tryz.prog 32 (.sl pI 0 1 1 cap op) = some (.int .i64 1) := by simp [alen]
  refine does_f Tryz.call45 Tryz.func45 rfl (by simp [Tryz.f45]) ?_
  by_cases h1 : l.length = 1
  case neg =>
    have c1 : ((l.length : Int) != 1) = true := by rw [bne_iff_ne]; omega
    simp [hr, hal, hil, c1, h1, -alen]
  have c1 : ((l.length : Int) != 1) = false := by simp [h1]
  simp [hr, hal, hil, c1, -alen]
  refine aws_loopw (fun m T' H' => H' = H ∧ T' 18 = .sl pI 0 1 1 cap op ∧ T' 19 = .int .i64 1 ∧ (m = 1 ∧ T' 20 = .int .i64 0 ∨ m = 0 ∧ T' 20 = .int .i64 1)) 1 ?_ ?_
  · refine ⟨rfl, ?_, ?_, .inl ⟨rfl, ?_⟩⟩ <;> simp
  rintro m T H1 ⟨rfl, t18, t19, ht⟩ hw1 _
  have wr : IntKind.i64.wrap (0 + 1) = 1 := rfl
  rcases ht with ⟨rfl, t20⟩ | ⟨rfl, t20⟩
  · simp [t18, t19, t20, hp]
    decide
  · simp [t18, t19, t20, h1]
set_option maxRecDepth 100000 in
theorem rpOff_does {H : AHeap} {r k : Nat} {d : Dk} (hk : DkAt H k d) {c0 c2 c3 c4 c5 c6 c7 c8 c9 c10 c11 : AV} {lives : Int} {dn : Bool} (hr : H.get r = some (.cells [c0, .ptr k 0, c2, c3, c4, c5, c6, c7, c8, c9, c10, c11, .int .i64 lives, .bool dn])) :
    Does Tryz.prog G 42 [.ptr r 0] H fun x h => x = .bool (dn || d.off || (d.lives != lives)) ∧ h = H.set r (.cells [c0, .ptr k 0, c2, c3, c4, c5, c6, c7, c8, c9, c10, c11, .int .i64 lives, .bool (dn || d.off || (d.lives != lives))]) := by
  refine does_f Tryz.call42 Tryz.func42 rfl (by simp [Tryz.f42]) ?_
  have hpw := fun H' (h : DkAt H' k d) => power_does (G := G) h
  have hlv := fun H' (h : DkAt H' k d) => lives_does (G := G) h
  cases dn with
  | true =>
    simp
    refine aw_drawn [(4, 0)] mixedOrdR (by kernel_rfl) ?_
    intro es hes
    simp [hr]
    refine ⟨by subst hes; exact ⟨by kernel_rfl, by kernel_rfl⟩, ?_⟩
    simp [rds, heapF, hr]
  | false =>
    cases ho : d.off with
    | true =>
      simp
      refine aw_drawn [(4, 0), (9, 0)] mixedOrdR (by kernel_rfl) ?_
      intro es hes
      simp [hr]
      refine ⟨_, _, (hpw H hk), Nat.le_refl _, ?_⟩
      simp [hr, ho]
      refine ⟨by subst hes; exact ⟨by kernel_rfl, by kernel_rfl⟩, ?_⟩
      simp [rds, heapF, hr]
    | false =>
      simp
      refine aw_drawn [(4, 0), (9, 0), (17, 11), (22, 11), (22, 19)] mixedOrdR (by kernel_rfl) ?_
      intro es hes
      simp [hr]
      refine ⟨_, _, (hpw H hk), Nat.le_refl _, ?_⟩
      simp [hr, ho]
      refine ⟨_, _, (hlv H hk), Nat.le_refl _, ?_⟩
      simp [hr, ho]
      refine ⟨by subst hes; exact ⟨by kernel_rfl, by kernel_rfl⟩, ?_⟩
      simp [rds, heapF, hr]
theorem rpTell_does {H : AHeap} {r : Nat} {c0 c1 c2 c3 c4 c5 c6 c7 c8 c9 c10 c11 c12 : AV} {dn : Bool} (hr : H.get r = some (.cells [c0, c1, c2, c3, c4, c5, c6, c7, c8, c9, c10, c11, c12, .bool dn])) (e : Int) :
    Does Tryz.prog G 48 [.ptr r 0, .int .i64 e] H fun x h => x = .int .i64 e ∧ h = H.set r (.cells [c0, c1, c2, c3, c4, c5, c6, c7, c8, c9, c10, c11, c12, .bool (dn || decide (e ≠ 0))]) := by
  refine does_f Tryz.call48 Tryz.func48 rfl (by simp [Tryz.f48]) ?_
  by_cases he : e = 0
  · have c1 : (e != 0) = false := by simp [he]
    cases dn <;> simp [hr, he, c1]
  · have c1 : (e != 0) = true := by simp [he]
    cases dn <;> simp [hr, he, c1]
end Go.Proofs.YtekbjlihciedjaaGreatDoor

namespace Go.Proofs.YtekbjlihciedjaaGreatDoor
open Go Go.Abs Go.Rp
variable {G : Nat → Option AV}
structure PgOk (G : Nat → Option AV) (p : List AV) : Prop where
  len : p.length = 6
  sc : ∀ x ∈ p, x.scalar = true
  cells : ∀ x ∈ p, x.cells = [x]
  check : ∀ H, Does Tryz.prog G 54 [.agg p] H fun r h => r = .tuple [.agg [.int .i64 0, .int .i64 0], .bool true] ∧ h = H
  copy : ∀ H, Does Tryz.prog G 55 [.agg p] H fun r h => r = .agg p ∧ h = H
  ins : p[0]? = some (.vsl [.int .i64 2] 1)
  mems : p[3]? = some (.vsl [.int .i64 2, .int .i64 1, .int .i64 2, .int .i64 1] 4)
theorem reset_does {H : AHeap} {m : Nat} {a b c e f x y : AV} {K : List AV} (hm : H.get m = some (.cells [a, b, c, .vsl K 4, e, f, x, y])) (hmn : m < H.next) :
    Does Tryz.prog G 56 [.ptr m 0] H fun r h => r = .tuple [] ∧ h = (H.push (.cells [.int .i64 0, .int .i64 0, .int .i64 0, .int .i64 0])).set m (.cells [a, b, c, .vsl K 4, e, f, .sl H.next 0 1 4 4 false, .int .i64 0]) := by
  have q1 : m ≠ H.next := by omega
  refine does_f Tryz.call56 Tryz.func56 rfl (by simp [Tryz.f56]) ?_
  simp [hm, q1]
  trace_state
set_option maxRecDepth 100000 in
theorem machNew_does {p : List AV} (hp : PgOk G p) (H : AHeap) :
    Does Tryz.prog G 30 [.agg p] H fun r h => ∃ m q, r = .tuple [.ptr m 0, .int .i64 0] ∧ H.next ≤ m ∧ H.next ≤ q ∧ MacAt h m q p [0, 0, 0, 0] 0 false ∧ ∀ j x, H.get j = some x → h.get j = some x := by
  refine Does.wf Tryz.call30 fun hw _ => ?_
  obtain ⟨h1, h2, h3, h4, h5, h6, h7⟩ := hp
  obtain ⟨a, b, c, d, e, f, rfl⟩ := list6 h1
  simp only [List.getElem?_cons_succ, List.getElem?_cons_zero, Option.some.injEq] at h6 h7
  subst h6 h7
  simp only [List.mem_cons, List.not_mem_nil, or_false, forall_eq_or_imp, forall_eq] at h2 h3
  obtain ⟨-, s2, s3, -, s5, s6⟩ := h2
  obtain ⟨-, c2, c3, -, c5, c6⟩ := h3
  refine does_f Tryz.call30 Tryz.func30 rfl (by simp [Tryz.f30]) ?_
  simp [s2, s3, s5, s6, c2, c3, c5, c6]
  refine does_use (h4 _) ?_
  rintro r h ⟨rfl, rfl⟩
  simp [s2, s3, s5, s6, c2, c3, c5, c6]
  refine does_use (h5 _) ?_
  rintro r h ⟨rfl, rfl⟩
  simp [s2, s3, s5, s6, c2, c3, c5, c6]
  refine does_usew (reset_does (if_pos rfl) (by simp)) ?_
  rintro r h ⟨rfl, rfl⟩ hw2 _
  simp
  refine ⟨by omega, H.next + 1 + 1 + 1, by omega, ⟨by simp, ?_, rfl, rfl, by omega, by decide, fun v hv => by simp at hv; subst hv; unfold i64; omega⟩, fun j x hj => ?_⟩
  · have : H.next + 1 + 1 + 1 ≠ H.next + 1 + 1 := by omega
    simp [this, ints]
  · have := next_lt hw hj
    have p1 : j ≠ H.next := by omega
    have p2 : j ≠ H.next + 1 := by omega
    have p3 : j ≠ H.next + 1 + 1 := by omega
    have p4 : j ≠ H.next + 1 + 1 + 1 := by omega
    simp [p1, p2, p3, p4, hj]
theorem keep0_does {H : AHeap} {r : Nat} : Does Tryz.prog G 80 [.ptr r 0, .nilsl] H fun x h => x = .int .i64 0 ∧ h = H := by
  refine does_f Tryz.call80 Tryz.func80 rfl (by simp [Tryz.f80]) ?_
  simp
  refine aws_loopw (fun m T' H' => H' = H ∧ T' 1 = .nilsl ∧ T' 10 = .int .i64 0 ∧ T' 11 = .int .i64 0) 1 ?_ ?_
  · refine ⟨rfl, ?_, ?_, ?_⟩ <;> simp
  rintro m T H1 ⟨rfl, t1, t10, t11⟩ hw1 _
  simp [t1, t10, t11]
end Go.Proofs.YtekbjlihciedjaaGreatDoor

namespace Go.Proofs.YtekbjlihciedjaaGreatDoor
open Go Go.Abs Go.Rp
variable {G : Nat → Option AV}
set_option maxRecDepth 100000 in
theorem step0_does {H : AHeap} {r ci : Nat} {c1 c2 c3 c4 c5 c6 c7 c9 c10 c11 c12 c13 : AV} {a0 a1 a2 a3 a6 a7 a8 a9 a10 lv : AV} {l : List En} {n : Nat}
    (hr : H.get r = some (.cells [.ptr ci 0, c1, c2, c3, c4, c5, c6, c7, .int .i64 n, c9, c10, c11, c12, c13])) (hi : H.get ci = some (.cells [a0, a1, a2, a3, lv, .int .i64 n, a6, a7, a8, a9, a10])) (hlv : EnF lv l) (hn : n ≤ l.length) (hl : l.length ≤ 1000000) (hrw : ∀ e ∈ l, e.l.length ≤ 1000000) :
    Does Tryz.prog G 40 [.ptr r 0] H fun x h => x = .tuple [] ∧ h = H.set r (.cells [.ptr ci 0, c1, c2, c3, c4, c5, c6, c7, .int .i64 n, entsV (l.take n), c10, c11, c12, c13]) := by
  refine does_f Tryz.call40 Tryz.func40 rfl (by simp [Tryz.f40]) ?_
  have hv := EnF.entsV (l.take n)
  have vs := hv.sc
  have vc := hv.cells
  have vl : alen Tryz.prog 48 (entsV (l.take n)) = some (.int .i64 n) := by
    rw [hv.alen (e := 62) (by simp), List.length_take, Nat.min_eq_left hn]
  simp [hr]
  refine does_use (committed_does hi hlv hn hl hrw) ?_
  rintro x h ⟨rfl, rfl⟩
  simp [hr, vs, vc]
  obtain ⟨V, hV⟩ : ∃ V, V = entsV (l.take n) := ⟨_, rfl⟩
  rw [← hV] at vs vc vl
  refine aws_loopw (fun m T' H' => H' = h.set r (.cells [.ptr ci 0, c1, c2, c3, c4, c5, c6, c7, .int .i64 n, V, c10, c11, c12, c13]) ∧ T' 0 = .ptr r 0) 0 ?_ ?_
  · exact ⟨by rw [hV], by simp⟩
  rintro m T H1 ⟨rfl, t0⟩ hw1 _
  simp
  refine aw_drawn [(3, 0), (7, 0)] mixedOrdR (by kernel_rfl) ?_
  intro es hes
  simp [t0, vl, -alen]
  refine ⟨by subst hes; exact ⟨by kernel_rfl, by kernel_rfl⟩, by simp [rds, heapF], ?_⟩
  exact hV ▸ rfl
set_option maxRecDepth 100000 in
theorem do0_does {H : AHeap} {r ci : Nat} {bytes : Int} {wv : AV} {c1 c2 c3 c4 c5 c7 c9 c10 c11 c12 : AV} {a0 a1 a2 a3 a6 a7 a8 a9 a10 lv : AV} {l : List En} {n : Nat}
    (hr : H.get r = some (.cells [.ptr ci 0, c1, c2, c3, c4, c5, .int .i64 bytes, c7, .int .i64 n, c9, c10, c11, c12, .bool false])) (hb : bytes ≤ 100000) (hrc : r ≠ ci) (hi : H.get ci = some (.cells [a0, a1, a2, a3, lv, .int .i64 n, a6, a7, a8, a9, a10])) (hlv : EnF lv l) (hn : n ≤ l.length) (hl : l.length ≤ 1000000) (hrw : ∀ e ∈ l, e.l.length ≤ 1000000) (ws : wv.scalar = true) (wc : wv.cells = [wv]) :
    Does Tryz.prog G 43 [.ptr r 0, .agg [.nilsl, wv]] H fun x h => x = .tuple [wv, .int .i64 0] ∧ h.get r = some (.cells [.ptr ci 0, c1, c2, c3, c4, c5, .int .i64 bytes, c7, .int .i64 n, entsV (l.take n), c10, c11, c12, .bool false]) ∧ ∀ j y, j ≠ r → H.get j = some y → h.get j = some y := by
  refine Does.wf Tryz.call43 fun hw _ => ?_
  have hrn := next_lt hw hr
  have hin := next_lt hw hi
  have q1 : r ≠ H.next := by omega
  have q2 : ci ≠ H.next := by omega
  have hb' : ¬ (100000 : Int) < bytes := by omega
  refine does_f Tryz.call43 Tryz.func43 rfl (by simp [Tryz.f43]) ?_
  simp [ws, wc]
  refine does_use keep0_does ?_
  rintro x h ⟨rfl, rfl⟩
  simp
  refine does_use (rpTell_does (by simp [q1]; exact hr) 0) ?_
  rintro x h ⟨rfl, rfl⟩
  simp
  refine does_use (step0_does (if_pos rfl) (by simp [q2, hrc.symm]; exact hi) hlv hn hl hrw) ?_
  rintro x h ⟨rfl, rfl⟩
  simp [hb', q1.symm, ws, wc]
  intro j y hj hy
  have := next_lt hw hy
  have p1 : j ≠ H.next := by omega
  simp [hj, p1, hy]
end Go.Proofs.YtekbjlihciedjaaGreatDoor

namespace Go.Proofs.YtekbjlihciedjaaGreatDoor
open Go Go.Abs Go.Rp
variable {G : Nat → Option AV}
structure RpAt (H : AHeap) (O : Nat → Prop) (r ci k pI : Nat) (c : Co) (d : Dk) : Prop where
  cells : ∃ c2 c3 cap op c5 bytes c7 c9 c10 c11, H.get r = some (.cells [.ptr ci 0, .ptr k 0, c2, c3, .sl pI 0 1 1 cap op, c5, .int .i64 bytes, c7, .int .i64 c.agreed, c9, c10, c11, .int .i64 d.lives, .bool false]) ∧ bytes ≤ 100000
  ins : H.get pI = some (.cells [.int .i64 2])
  core : CoAt H O ci c
  disk : DkAt H k d
  ro : ¬ O r
  ko : ¬ O k
  po : ¬ O pI
  rk : r ≠ k
  rp : r ≠ pI
  kp : k ≠ pI
  on : d.off = false
  agreed : c.agreed ≤ c.list.length
  list : c.list.length ≤ 200
  rows : ∀ e ∈ c.list, e.l.length ≤ 1000000
theorem CoAt.lt {H : AHeap} {O : Nat → Prop} {i : Nat} {c : Co} (h : CoAt H O i c) (hw : H.Wf) : CoAt H (fun j => O j ∧ j < H.next) i c := by
  obtain ⟨lv, g, h, es, wv, h1, h2, h3, h4, h5, h6, h7, h8, h9, h10⟩ := h
  exact ⟨lv, g, h, es, wv, h1, h2, h3, h4, h5, (Gr_lt h6 fun j x => next_lt hw).mono fun j hj => ⟨⟨hj.1.1, hj.2.1⟩, hj.1.2⟩, ⟨h7, next_lt hw h1⟩, ⟨h8, next_lt hw h2⟩, ⟨h9, next_lt hw h3⟩, h10⟩
set_option maxRecDepth 100000 in
theorem rpTick_still {H : AHeap} {O : Nat → Prop} {r ci k pI : Nat} {c : Co} {d : Dk} (h : RpAt H O r ci k pI c d) (h1 : c.lead = false) (h2 : c.n ≠ 1) (h3 : c.quiet = 0) :
    Does Tryz.prog G 13 [.ptr r 0] H fun x h => x = .tuple [.nilsl, .int .i64 0] ∧ RpAt h O r ci k pI { c with quiet := 1 } d := by
  refine Does.wf Tryz.call13 fun hw _ => ?_
  obtain ⟨⟨c2, c3, cap, op, c5, bytes, c7, c9, c10, c11, hr, hb⟩, hp, hc, hk, ro, ko, po, rk, rp, kp, hon, hag, hli, hrw⟩ := h
  have hci : O ci := by obtain ⟨lv, g, hh, es', wv, k1, k2, k3, k4, k5, k6, k7, k8, k9, k10⟩ := hc; exact k7
  have rci : r ≠ ci := fun e => ro (by rw [e]; exact hci)
  have kci : k ≠ ci := fun e => ko (by rw [e]; exact hci)
  have pci : pI ≠ ci := fun e => po (by rw [e]; exact hci)
  have hl : (d.lives != d.lives) = false := by simp
  refine does_f Tryz.call13 Tryz.func13 rfl (by simp [Tryz.f13]) ?_
  simp
  refine does_usew (rpOff_does hk hr) ?_
  rintro x h ⟨rfl, hx⟩ hw1 _
  rw [hon, hl] at hx ⊢
  simp only [Bool.or_false] at hx ⊢
  have hr1 : h.get r = some (.cells [.ptr ci 0, .ptr k 0, c2, c3, .sl pI 0 1 1 cap op, c5, .int .i64 bytes, c7, .int .i64 c.agreed, c9, c10, c11, .int .i64 d.lives, .bool false]) := by rw [hx]; simp
  have k1 : ∀ j y, j ≠ r → H.get j = some y → h.get j = some y := fun j y hj hy => by rw [hx]; simp [hj, hy]
  have hc1 := hc.keep (H' := h) fun j y hj hy => k1 j y (fun e => ro (e ▸ hj)) hy
  simp [hr1]
  refine does_usew (tick_still hc1 h1 h2 h3) ?_
  rintro x h' ⟨rfl, hc2, k2⟩ hw2 _
  have hr2 := k2 r _ rci hr1
  simp
  obtain ⟨lv, g, hh, es', wv, g1, g2, g3, g4, g5, g6, g7, g8, g9, g10⟩ := hc2
  have g1' := g1
  simp only [coC] at g1
  refine does_use (do0_does hr2 hb rci g1 g4 hag (by simp only; omega) hrw rfl rfl) ?_
  rintro x h'' ⟨rfl, g11, g12⟩
  simp
  have hn1 : H.next ≤ h.next := by rw [hx]; simp
  have keep : ∀ j y, j ≠ r → j ≠ ci → H.get j = some y → h''.get j = some y := fun j y a b hy => g12 j y a (k2 j y b (k1 j y a hy))
  have rg : r ≠ g := fun e => ro (by rw [e]; exact g8)
  have rh : r ≠ hh := fun e => ro (by rw [e]; exact g9)
  refine ⟨⟨c2, c3, cap, op, c5, bytes, c7, _, c10, c11, g11, hb⟩, keep _ _ rp.symm pci hp, ?_, ?_, ro, ko, po, rk, rp, kp, hon, hag, hli, hrw⟩
  · exact ⟨lv, g, hh, es', wv, g12 _ _ rci.symm g1', g12 _ _ rg.symm g2, g12 _ _ rh.symm g3, g4, g5, g6.keep fun j y hj hy => g12 j y (fun e => ro (e ▸ hj.1)) hy, g7, g8, g9, g10⟩
  · obtain ⟨cs, a, b⟩ := hk
    exact ⟨cs, a, keep _ _ rk.symm kci b⟩
set_option maxRecDepth 100000 in
theorem rpSubmit_still {H : AHeap} {O : Nat → Prop} {r ci k pI : Nat} {c : Co} {d : Dk} (h : RpAt H O r ci k pI c d) (h1 : c.lead = false) (h2 : c.n ≠ 1) (hn0 : 0 < c.n) (hn7 : c.n ≤ 7) (h4 : c.wait.length < 200) (hv : c.view < 2 ^ 64) {id : Nat} (hid : 0 < id) (hid2 : id < 2 ^ 64) {x : Int} {ts : List AV} :
    Does Tryz.prog G 14 [.ptr r 0, .int .u64 id, .vsl (ints [x] ++ ts) 1] H fun y h => ∃ wv, y = .tuple [wv, .int .i64 0] := by
  refine Does.wf Tryz.call14 fun hw _ => ?_
  obtain ⟨⟨c2, c3, cap, op, c5, bytes, c7, c9, c10, c11, hr, hb⟩, hp, hc, hk, ro, ko, po, rk, rp, kp, hon, hag, hli, hrw⟩ := h
  have hci : O ci := by obtain ⟨lv, g, hh, es', wv, k1, k2, k3, k4, k5, k6, k7, k8, k9, k10⟩ := hc; exact k7
  have rci : r ≠ ci := fun e => ro (by rw [e]; exact hci)
  have hl : (d.lives != d.lives) = false := by simp
  have hid' : ¬ (id : Int) = 0 := by omega
  have hid'' : ¬ id = 0 := by omega
  refine does_f Tryz.call14 Tryz.func14 rfl (by simp [Tryz.f14]) ?_
  simp [hid', hid'']
  refine does_use (fits_does hr hp (l := [x]) (ts := ts) (.inr rfl) (by simp)) ?_
  rintro y h ⟨rfl, rfl⟩
  simp
  refine does_usew (rpOff_does hk hr) ?_
  rintro y h' ⟨rfl, hx⟩ hw1 _
  rw [hon, hl] at hx ⊢
  simp only [Bool.or_false] at hx ⊢
  have hr1 : h'.get r = some (.cells [.ptr ci 0, .ptr k 0, c2, c3, .sl pI 0 1 1 cap op, c5, .int .i64 bytes, c7, .int .i64 c.agreed, c9, c10, c11, .int .i64 d.lives, .bool false]) := by rw [hx]; simp
  have k1 : ∀ j y, j ≠ r → h.get j = some y → h'.get j = some y := fun j y hj hy => by rw [hx]; simp [hj, hy]
  have hc1 := (hc.lt hw).keep (H' := h') fun j y hj hy => k1 j y (fun e => ro (e ▸ hj.1)) hy
  have hnx : h'.next = h.next := by rw [hx]; rfl
  simp [hr1]
  refine does_usew (submit_still hc1 (fun j hj => by rw [hnx]; exact hj.2) h1 h2 hn0 hn7 (by omega) h4 hv (id := id) (v := .vsl (ints [x] ++ ts) 1) (row := some [x]) (.inr ⟨ts, [x], rfl, rfl⟩) (by simp)) ?_
  rintro y h2' ⟨⟨wv, rfl, ws, wc⟩, hc2, k2⟩ hw2 _
  have hr2 := k2 r _ (fun e => ro e.1) hr1
  simp
  have hwl : (c.wanted ⟨id, 0, some [x]⟩).2.list = c.list ∧ (c.wanted ⟨id, 0, some [x]⟩).2.agreed = c.agreed := by
    unfold Co.wanted
    split <;> simp
  obtain ⟨w1, w2⟩ := hwl
  generalize (c.wanted ⟨id, 0, some [x]⟩).2 = c' at *
  obtain ⟨lv, g, hh, es', wv', g1, g2, g3, g4, g5, g6, g7, g8, g9, g10⟩ := hc2
  simp only [coC, w2] at g1
  rw [w1] at g4
  refine does_use (do0_does hr2 hb rci g1 g4 hag (by omega) hrw ws wc) ?_
  rintro y h'' ⟨rfl, g11, g12⟩
  simp
end Go.Proofs.YtekbjlihciedjaaGreatDoor

namespace Go.Proofs.YtekbjlihciedjaaGreatDoor
open Go Go.Abs Go.Rp
variable {G : Nat → Option AV}
theorem take_text (b : Bs) : (Rp.take b).2.1.length ≤ (Rp.take b).2.2 ∧ (Rp.take b).2.1.length ≤ b.length := by
  unfold Rp.take
  split
  · simp
  · rename_i h
    simp only
    split
    · simp
    · split
      · simp
      · simp only [List.length_take, List.length_drop]; omega
theorem all_lens : ∀ (k next : Nat) (b : Bs), lens (all k next b).1 ≤ (all k next b).2 ∧ (all k next b).1.length ≤ (all k next b).2
  | 0, _, _ => by simp [all, lens]
  | k + 1, next, b => by
    have h1 := take_text b
    have h0 := take_size b
    have h2 := all_lens k (next + 1) (b.drop (Rp.take b).2.2)
    unfold all
    simp only
    split
    · simp [lens]
    · rename_i hz
      have hz' : (Rp.take b).2.2 ≠ 0 := fun e => hz (.inl e)
      have h17 := h0.2 hz'
      split
      · simp only [lens, List.map_cons, List.map_nil, List.sum_cons, List.sum_nil, List.length_cons, List.length_nil]; omega
      · simp only [lens, List.map_cons, List.sum_cons, List.length_cons] at h2 ⊢
        omega
theorem all_log (b : Bs) : lens (all (b.length + 1) 0 b).1 ≤ b.length ∧ (all (b.length + 1) 0 b).1.length ≤ b.length := by
  have h1 := all_lens (b.length + 1) 0 b
  have h2 := all_size (b.length + 1) 0 b
  omega
theorem mem_lens {l : List Bs} {b : Bs} (h : b ∈ l) : b.length ≤ lens l := by
  induction l with
  | nil => simp at h
  | cons a l ih =>
    simp only [lens, List.map_cons, List.sum_cons]
    rcases List.mem_cons.1 h with rfl | h
    · omega
    · have := ih h
      simp only [lens] at this
      omega
end Go.Proofs.YtekbjlihciedjaaGreatDoor

namespace Go.Proofs.YtekbjlihciedjaaGreatDoor
open Go Go.Abs Go.Rp
variable {G : Nat → Option AV}
theorem packRead_at {bv : AV} {bs : Bs} (hb : BtA bv bs) (hl : bs.length ≤ 1000000000) (H : AHeap) :
    ∃ k nx, Does Tryz.prog G 61 [bv] H fun r h => ∃ i cap op, r = .ptr k 0 ∧ h.next = nx ∧ H.next ≤ k ∧ H.next ≤ i ∧ k ≠ i ∧ h.get i = some (.cells (strCs bs)) ∧ h.get k = some (.cells [.sl i 0 1 bs.length cap op, .bool false]) ∧ ∀ j x, H.get j = some x → h.get j = some x := by
  have hal : (strCs bs).all AV.scalar = true := by simp [strCs]
  have c1 : bs.length ≤ 140737488355328 := by omega
  have c2 : bs.length ≤ 4611686018427387904 := by omega
  refine ⟨if bs.length = 0 then H.next + 1 else H.next + 1 + 1, if bs.length = 0 then H.next + 1 + 1 else H.next + 1 + 1 + 1, ?_⟩
  refine Does.wf Tryz.call61 fun hw _ => ?_
  refine does_f Tryz.call61 Tryz.func61 rfl (by simp [Tryz.f61]) ?_
  rcases hb with ⟨rfl, rfl⟩ | ⟨ts, rfl⟩
  · simp
    refine ⟨H.next, by omega, by omega, by simp [strCs], rfl, fun j x hj => ?_⟩
    have l := next_lt hw hj
    have e0 : ¬ j = H.next := by omega
    have e1 : ¬ j = H.next + 1 := by omega
    simp [e0, e1, hj]
  · by_cases h0 : bs.length = 0
    · have hb0 : bs = [] := List.length_eq_zero_iff.1 h0
      subst hb0
      simp [strCs]
      refine ⟨H.next, by omega, by omega, by simp, rfl, fun j x hj => ?_⟩
      have l := next_lt hw hj
      have e0 : ¬ j = H.next := by omega
      have e1 : ¬ j = H.next + 1 := by omega
      simp [e0, e1, hj]
    · have tk : List.take bs.length (strCs bs ++ ts) = strCs bs := List.take_left' (strCs_len bs)
      simp [h0, c1, c2, hal, tk, strCs_len, strCs_sc]
      refine ⟨by omega, H.next + 1, by omega, by omega, by simp, rfl, fun j x hj => ?_⟩
      have l := next_lt hw hj
      have e0 : ¬ j = H.next := by omega
      have e1 : ¬ j = H.next + 1 := by omega
      have e2 : ¬ j = H.next + 1 + 1 := by omega
      simp [e0, e1, e2, hj]
theorem packRead_x {bv : AV} {bs : Bs} (hb : BtA bv bs) (hl : bs.length ≤ 1000000000) (H : AHeap) :
    ∃ k nx, H.next ≤ k ∧ k < nx ∧ Does Tryz.prog G 61 [bv] H fun r h => r = .ptr k 0 ∧ h.next = nx ∧ RdAt h k ⟨bs, false⟩ ∧ ∀ j x, H.get j = some x → h.get j = some x := by
  obtain ⟨k, nx, hd⟩ := packRead_at (G := G) hb hl H
  by_cases hkn : H.next ≤ k ∧ k < nx
  · refine ⟨k, nx, hkn.1, hkn.2, Does.frz1 hd ?_⟩
    rintro hw _ r H1 ⟨i, cap, op, rfl, hn, hk, hi, hki, hgi, hgk, hs⟩
    refine ⟨i, strCs bs, hi, hgi, frz_ptr hki _, by simpa [AHeap.frz] using hn, ⟨bV bs, .bV bs, ?_⟩, AHeap.frz_old hw hi hs⟩
    rw [frz_get hgk hki]
    have e : (strCs bs).take bs.length = strCs bs := by rw [← strCs_len, List.take_length]
    simp [AV.frzs, AV.frz, e, bV]
  · refine ⟨H.next, H.next + 1, Nat.le_refl _, Nat.lt_succ_self _, ⟨fun E w vs hR hG hv => ?_⟩⟩
    refine (hd.run E w vs hR hG hv).mono ?_
    rintro v w' ⟨r, h, E', ⟨i, cap, op, rfl, hn, hk, hi, hki, hgi, hgk, hs⟩, g2, g3, g4⟩
    exact absurd ⟨hk, by rw [← hn]; exact next_lt g4.wf hgk⟩ hkn
end Go.Proofs.YtekbjlihciedjaaGreatDoor

namespace Go.Proofs.YtekbjlihciedjaaGreatDoor
open Go Go.Abs Go.Rp
variable {G : Nat → Option AV}
def loadI (b : Bs) : Option (List Int × Nat) :=
  let r1 := (Rd.mk b false).U
  let r2 := r1.2.U
  if r2.2.bad = true ∨ 4611686018427387904 < r1.1 ∨ r2.1 ≠ 4 then none
  else
    let x := rdIs 4 r2.2
    if x.2.bad = true ∨ 0 < x.2.b.length ∨ fitI [2, 1, 2, 1] x.1 = false then none else some (x.1, r1.1)
theorem unzig_i64 {u : Nat} (h : u < 2 ^ 64) : i64 (unzig u) := by
  unfold unzig i64
  split <;> omega
theorem rdIs_i64 : ∀ (k : Nat) (r : Rd), ∀ v ∈ (rdIs k r).1, i64 v
  | 0, _, v, h => by simp [rdIs] at h
  | k + 1, r, v, h => by
    simp only [rdIs, List.mem_cons] at h
    rcases h with rfl | h
    · exact unzig_i64 (rdU_lt r).1
    · exact rdIs_i64 k _ v h
theorem rdIs_len : ∀ (k : Nat) (r : Rd), (rdIs k r).1.length = k
  | 0, _ => rfl
  | k + 1, r => by simp [rdIs, rdIs_len k]
theorem loadI_ok {b : Bs} {mv : List Int} {t : Nat} (h : loadI b = some (mv, t)) : mv.length = 4 ∧ t ≤ 4611686018427387904 ∧ (∀ v ∈ mv, i64 v) ∧ fitI [2, 1, 2, 1] mv = true := by
  unfold loadI at h
  simp only at h
  split at h
  · cases h
  · rename_i h1
    split at h
    · cases h
    · rename_i h2
      simp only [Option.some.injEq, Prod.mk.injEq] at h
      obtain ⟨rfl, rfl⟩ := h
      refine ⟨rdIs_len _ _, by omega, rdIs_i64 _ _, ?_⟩
      simp only [not_or, Bool.not_eq_false] at h2
      exact h2.2.2
end Go.Proofs.YtekbjlihciedjaaGreatDoor

namespace Go.Proofs.YtekbjlihciedjaaGreatDoor
open Go Go.Abs Go.Rp
variable {G : Nat → Option AV}
theorem fit_live {H : AHeap} {q : Nat} {mv ks : List Int} {op : Bool} (hq : H.get q = some (.cells (ints mv))) (hm : mv.length = 4) (hk : ks.length ≤ 1000000) :
    Does Tryz.prog G 71 [.vsl (ints ks) ks.length, .sl q 0 1 4 4 op] H fun r h => r = .bool (fitI ks mv) ∧ h = H := by
  have hres : AV.res H.get 2 (.sl q 0 1 4 4 op) = some (.vsl (ints mv) 4) := by
    have tk : List.take (4 * 1) (ints mv) = ints mv := by
      have := ints_len mv
      rw [hm] at this
      rw [show 4 * 1 = (ints mv).length by omega, List.take_length]
    rw [res_sl _ _ _ _ _ _ _ _ hq, List.drop_zero, tk, res_ints]
    rfl
  refine (Does.borrow (.keep _ (.res hres .nil)) (fit_does (ts := []) (.inr (by rw [List.append_nil, hm])) hk (by omega) _) (fun r H1 h => by rw [h.1]; rfl)).mono ?_
  rintro r h ⟨⟨H1, h3, _⟩, h4⟩
  exact ⟨h3, h4⟩
def kindsV : AV := .vsl [.int .i64 2, .int .i64 1, .int .i64 2, .int .i64 1] 4
set_option maxHeartbeats 1000000 in
set_option maxRecDepth 100000 in
theorem load_run {H : AHeap} (hw : H.Wf) {m q : Nat} {p : List AV} {mv : List Int} {t : Nat} {op : Bool} (hm : MacAt H m q p mv t op) (hp3 : p[3]? = some kindsV) {bv : AV} {b : Bs} (hb : BtA bv b) (hl : b.length ≤ 1000000) :
    ∃ q' nx, H.next ≤ q' ∧ q' < nx ∧ Does Tryz.prog G 36 [.ptr m 0, bv] H fun r h => match loadI b with
      | none => r = .int .i64 3 ∧ ∀ j y, H.get j = some y → h.get j = some y
      | some (mv', t') => r = .int .i64 0 ∧ h.next ≤ nx ∧ h.get m = some (.cells (p ++ [.sl q' 0 1 4 4 true, .int .i64 t'])) ∧ h.get q' = some (.cells (ints mv')) ∧ ∀ j y, j ≠ m → H.get j = some y → h.get j = some y := by
  obtain ⟨h1, h2, h3, h4, h5, h6, h7⟩ := hm
  obtain ⟨p0, p1, p2, p3, p4, p5, rfl⟩ := list6 h3
  simp only [List.getElem?_cons_succ, List.getElem?_cons_zero, Option.some.injEq] at hp3
  subst hp3
  simp only [List.cons_append, List.nil_append, kindsV] at h1
  obtain ⟨k, nx, hkn, hkx, hrd⟩ := packRead_x (G := G) hb (by omega) H
  refine ⟨nx + 7, nx + 8, by omega, by omega, ?_⟩
  have hmn := next_lt hw h1
  refine does_f Tryz.call36 Tryz.func36 rfl (by simp [Tryz.f36]) ?_
  obtain ⟨O, hO⟩ : ∃ O, O = loadI b := ⟨_, rfl⟩
  rw [← hO]
  unfold loadI at hO
  obtain ⟨u1, R1, e1⟩ : ∃ u R, (Rd.mk b false).U = (u, R) := ⟨_, _, rfl⟩
  obtain ⟨u2, R2, e2⟩ : ∃ u R, R1.U = (u, R) := ⟨_, _, rfl⟩
  have f1 := rdU_b e1 (by simpa using hl)
  have f2 := rdU_b e2 f1.2
  simp only [e1, e2] at hO
  simp
  refine does_usew hrd ?_
  rintro r H1 ⟨rfl, hn1, hr, hs1⟩ hw1 _
  simp
  refine does_usew (rdU_e e1 hr (by simpa using hl)) ?_
  rintro r H2 ⟨rfl, ht⟩ hw2 _
  have hr := ht.at
  have hn2 : H2.next = nx := by rw [ht.next, hn1]
  have hs2 : ∀ j x, H.get j = some x → H2.get j = some x := fun j x hj => by
    have := next_lt hw hj
    rw [ht.off (by omega)]; exact hs1 j x hj
  simp
  refine does_usew (rdU_e e2 hr f1.2) ?_
  rintro r H3 ⟨rfl, ht⟩ hw3 _
  have hr := ht.at
  have hn3 : H3.next = nx := by rw [ht.next, hn2]
  have hs3 : ∀ j x, H.get j = some x → H3.get j = some x := fun j x hj => by
    have := next_lt hw hj
    rw [ht.off (by omega)]; exact hs2 j x hj
  simp
  refine does_use (rdBad_does hr) ?_
  rintro r h ⟨rfl, rfl⟩
  have gm := hs3 _ _ h1
  have w4 : IntKind.u64.wrap (4 : Int) = 4 := rfl
  obtain ⟨b2, d2⟩ := R2
  cases d2 with
  | true =>
    simp at hO
    simp [hO]
    exact hs3
  | false =>
    by_cases ht2 : 4611686018427387904 < u1
    · have ht2' : (4611686018427387904 : Int) < u1 := by omega
      simp [ht2] at hO
      simp [hO, ht2, ht2']
      exact hs3
    have ht2' : ¬ (4611686018427387904 : Int) < u1 := by omega
    by_cases hu2 : u2 = 4
    case neg =>
      have c1 : ((u2 : Int) != 4) = true := by rw [bne_iff_ne]; omega
      simp [ht2, hu2] at hO
      simp [hO, ht2, ht2', gm, c1, w4]
      exact hs3
    subst hu2
    simp [ht2] at hO
    simp [ht2, ht2', gm, w4]
    obtain ⟨X, hX⟩ : ∃ X, X = rdIs 4 ⟨b2, false⟩ := ⟨_, rfl⟩
    rw [← hX] at hO
    refine aws_loopw (fun n T' H' => ∃ i done b' d', i + n = 4 ∧ done.length = i ∧ X = (done ++ (rdIs n ⟨b', d'⟩).1, (rdIs n ⟨b', d'⟩).2) ∧ b'.length ≤ 1000000 ∧ RdAt H' k ⟨b', d'⟩ ∧ H'.next = nx + 2 * i ∧ (∀ j x, H.get j = some x → H'.get j = some x) ∧ (0 < i → H'.get (nx + (2 * i - 1)) = some (.cells (ints done))) ∧
      T' 0 = .ptr m 0 ∧ T' 5 = .ptr k 0 ∧ T' 6 = .int .u64 u1 ∧ T' 8 = (if i = 0 then .nilsl else .sl (nx + (2 * i - 1)) 0 1 i i true) ∧ T' 32 = .int .u64 4 ∧ T' 33 = .int .u64 i) 4 ?_ ?_
    · refine ⟨0, [], b2, false, rfl, rfl, by simpa using hX, f2.2, hr, by simpa using hn3, hs3, fun h => by omega, ?_, ?_, ?_, ?_, ?_, ?_⟩ <;> simp
    clear hr hn3 hs3 hw3 gm hX
    rintro n T H1 ⟨i, done, b', d', hin, hdl, hX, hbl, hr, hnx, hs, hg, t0, t5, t6, t8, t32, t33⟩ hw1 _
    cases n with
    | zero =>
      obtain rfl : i = 4 := by omega
      have hg := hg (by omega)
      have l1 := ints_len done
      rw [hdl] at l1
      simp only [rdIs, List.append_nil] at hX
      rw [hX] at hO
      simp only at hO
      simp at t8
      simp [t0, t5, t6, t32, t33]
      refine does_use (rdBad_does hr) ?_
      rintro r h ⟨rfl, rfl⟩
      cases d' with
      | true =>
        simp at hO
        simp [hO]
        exact hs
      | false =>
        simp [t5]
        refine does_use (rdLeft_does hr) ?_
        rintro r h ⟨rfl, rfl⟩
        by_cases h0 : b' = []
        case neg =>
          have c2 := List.length_pos_iff.2 h0
          have c1 : (0 : Int) < b'.length := by omega
          simp [h0] at hO
          simp [c1, c2, h0, hO]
          exact hs
        subst h0
        have gm := hs _ _ h1
        simp [t0, t8, gm]
        refine does_use (fit_live (ks := [2, 1, 2, 1]) hg hdl (by simp)) ?_
        rintro r h ⟨rfl, rfl⟩
        cases hf : fitI [2, 1, 2, 1] done with
        | false =>
          simp [hf] at hO
          simp [hO]
          exact hs
        | true =>
          simp [hf] at hO
          simp [hO, t0, t6, t8, gm]
          have wu : IntKind.i64.wrap (u1 : Int) = u1 := IntWalk.i64_in _ (by omega)
          have q7 : nx + 7 ≠ m := by omega
          refine ⟨by omega, ⟨rfl, wu⟩, ?_, fun j y hj hy => ?_⟩
          · rw [if_neg q7]; exact hg
          · rw [if_neg hj]; exact hs j y hy
    | succ n =>
      have hi4 : i < 4 := by omega
      have hi4' : (i : Int) < 4 := by omega
      simp [t0, t5, t6, t32, t33, hi4, hi4']
      refine does_usew (rdI_does hr (by simp only; omega)) ?_
      rintro r h ⟨rfl, ht⟩ hw2 _
      have hr := ht.at
      have hnx2 : h.next = nx + 2 * i := by rw [ht.next, hnx]
      have hs2 : ∀ j x, H.get j = some x → h.get j = some x := fun j x hj => by
        have := next_lt hw hj
        rw [ht.off (by omega)]; exact hs j x hj
      have hg2 : 0 < i → h.get (nx + (2 * i - 1)) = some (.cells (ints done)) := fun h0 => by rw [ht.off (by omega)]; exact hg h0
      have hX2 : X = ((done ++ [(Rd.I ⟨b', d'⟩).1]) ++ (rdIs n (Rd.I ⟨b', d'⟩).2).1, (rdIs n (Rd.I ⟨b', d'⟩).2).2) := by rw [hX]; simp [rdIs]
      have hbl2 : (Rd.I ⟨b', d'⟩).2.b.length ≤ 1000000 := by
        have := (rdU_lt ⟨b', d'⟩).2
        simp only [Rd.I] at this ⊢
        omega
      generalize (Rd.I ⟨b', d'⟩).1 = v at *
      generalize (Rd.I ⟨b', d'⟩).2 = R at *
      obtain ⟨b3, d3⟩ := R
      have kn2 : k < h.next := by obtain ⟨_, _, hc⟩ := hr; exact next_lt hw2 hc
      have wr : IntKind.u64.wrap ((i : Int) + 1) = ((i + 1 : Nat) : Int) := by rw [IntWalk.u64_in _ (by omega)]; omega
      by_cases h0 : i = 0
      · subst h0
        obtain rfl := List.length_eq_zero_iff.1 hdl
        simp at t8
        simp [t0, t5, t6, t8, t32, t33, -Bool.exists_bool]
        have k1 : k ≠ h.next := by omega
        have k2 : k ≠ h.next + 1 := by omega
        refine ⟨n, by omega, 1, by omega, [v], rfl, b3, d3, by simpa using hX2, hbl2, ?_, by omega, fun j x hj => ?_, fun _ => ?_, ?_, by simpa using wr⟩
        · obtain ⟨w, a1, a2⟩ := hr
          exact ⟨w, a1, by simp [k1, k2, a2]⟩
        · have := next_lt hw hj
          have p1 : j ≠ h.next := by omega
          have p2 : j ≠ h.next + 1 := by omega
          simp [p1, p2, hs2 j x hj]
        · have e : nx = h.next := by rw [hnx2]; rfl
          simp [e, ints]
        · rw [if_neg (by omega)]
          congr 1
          omega
      · rw [if_neg h0] at t8
        have hg2 := hg2 (by omega)
        have l1 := ints_len done
        rw [hdl] at l1
        have q1 : nx + (2 * i - 1) ≠ h.next := by omega
        have c1 : ¬ i + 1 ≤ i := by omega
        have tk : List.take i (ints done) = ints done := by rw [← l1, List.take_length]
        have c2 : (i + 1) * 8 ≤ 140737488355328 := by omega
        have c3 : i ≤ 4611686018427387903 := by omega
        simp [t0, t5, t6, t8, t32, t33, hg2, q1, c1, c2, c3, l1, tk, -Bool.exists_bool]
        have k1 : k ≠ h.next := by omega
        have k2 : k ≠ h.next + 1 := by omega
        have k3 : k ≠ nx + (2 * i - 1) := by omega
        refine ⟨n, by omega, i + 1, by omega, done ++ [v], by simp [hdl], b3, d3, hX2, hbl2, ?_, by omega, fun j x hj => ?_, fun _ => ?_, ?_, wr⟩
        · obtain ⟨w, a1, a2⟩ := hr
          exact ⟨w, a1, by simp [k1, k2, k3, a2]⟩
        · have := next_lt hw hj
          have p1 : j ≠ h.next := by omega
          have p2 : j ≠ h.next + 1 := by omega
          have p3 : j ≠ nx + (2 * i - 1) := by omega
          simp [p1, p2, p3, hs2 j x hj]
        · rw [if_pos (by omega)]; simp [ints]
        · rw [if_neg (by omega)]
          congr 1
          omega
theorem load_does {H : AHeap} (hw : H.Wf) {m q : Nat} {p : List AV} {mv : List Int} {t : Nat} {op : Bool} (hm : MacAt H m q p mv t op) (hp3 : p[3]? = some kindsV) {bv : AV} {b : Bs} (hb : BtA bv b) (hl : b.length ≤ 1000000) :
    match loadI b with
    | none => Does Tryz.prog G 36 [.ptr m 0, bv] H fun r h => r = .int .i64 3 ∧ h = H
    | some (mv', t') => ∃ q' h', Does Tryz.prog G 36 [.ptr m 0, bv] H (fun r h => r = .int .i64 0 ∧ h = h') ∧ MacAt h' m q' p mv' t' true ∧ H.next ≤ q' ∧ H.next ≤ h'.next ∧ ∀ j y, j ≠ m → H.get j = some y → h'.get j = some y := by
  obtain ⟨q', nx, h1, h2, h3⟩ := load_run (G := G) hw hm hp3 hb hl
  cases hL : loadI b with
  | none =>
    rw [hL] at h3
    exact Does.forgot h3 (fun hw ha r H1 ⟨g1, g2⟩ => ⟨g2, by rw [g1]; rfl, g1, rfl⟩)
  | some x =>
    obtain ⟨mv', t'⟩ := x
    rw [hL] at h3
    obtain ⟨k1, k2, k3, k4⟩ := loadI_ok hL
    have hmn := next_lt hw hm.1
    have qm : q' ≠ m := by omega
    refine ⟨q', { next := nx, get := fun j => if j = m then some (.cells (p ++ [.sl q' 0 1 4 4 true, .int .i64 t'])) else if j = q' then some (.cells (ints mv')) else H.get j }, ?_, ⟨by simp, by simp [qm], hm.2.2.1, k1, qm.symm, k2, k3⟩, h1, by simp only; omega, fun j y hj hy => ?_⟩
    · refine h3.ghost ?_
      rintro r H1 ⟨rfl, g1, g2, g3, g4⟩
      refine ⟨_, _, Ghost.sub g1 ?_, rfl, rfl⟩
      intro j x hj
      simp only at hj
      split at hj
      · rename_i e
        rw [e, g2]; exact hj
      · split at hj
        · rename_i e
          rw [e, g3]; exact hj
        · exact g4 j x (by assumption) hj
    · have := next_lt hw hy
      have e : j ≠ q' := by omega
      simp [hj, e, hy]
end Go.Proofs.YtekbjlihciedjaaGreatDoor

namespace Go.Proofs.YtekbjlihciedjaaGreatDoor
open Go Go.Abs Go.Rp
variable {G : Nat → Option AV}
set_option maxRecDepth 100000
def pgL : List AV := [.vsl [.int .i64 2] 1,.vsl [.int .i64 2,.int .i64 2] 2,.vsl [.int .i64 2,.int .i64 2,.int .i64 2,.int .i64 2,.int .i64 2,.int .i64 1,.int .i64 2,.int .i64 2,.int .i64 2,.int .i64 2,.int .i64 2,.int .i64 1,.int .i64 2,.int .i64 2,.int .i64 1] 15,.vsl [.int .i64 2,.int .i64 1,.int .i64 2,.int .i64 1] 4,.vsl [.int .i64 0,.int .i64 1] 2,.vsl [.int .i64 2,.int .i64 4,.int .i64 0,.int .i64 0,.int .i64 2,.int .i64 5,.int .i64 1,.int .i64 0,.int .i64 2,.int .i64 10,.int .i64 2,.int .i64 0,.int .i64 2,.int .i64 11,.int .i64 3,.int .i64 0,.int .i64 4,.int .i64 0,.int .i64 0,.int .i64 0,.int .i64 0,.int .i64 3,.int .i64 0,.int .i64 0,.int .i64 19,.int .i64 9,.int .i64 5,.int .i64 0,.int .i64 1,.int .i64 6,.int .i64 4,.int .i64 0,.int .i64 20,.int .i64 10,.int .i64 0,.int .i64 0,.int .i64 1,.int .i64 6,.int .i64 3,.int .i64 0,.int .i64 8,.int .i64 7,.int .i64 0,.int .i64 6,.int .i64 1,.int .i64 1,.int .i64 7,.int .i64 0,.int .i64 0,.int .i64 8,.int .i64 1,.int .i64 0,.int .i64 0,.int .i64 9,.int .i64 0,.int .i64 0,.int .i64 19,.int .i64 17,.int .i64 11,.int .i64 0,.int .i64 1,.int .i64 12,.int .i64 10,.int .i64 0,.int .i64 20,.int .i64 18,.int .i64 0,.int .i64 0,.int .i64 1,.int .i64 12,.int .i64 9,.int .i64 0,.int .i64 8,.int .i64 13,.int .i64 8,.int .i64 12,.int .i64 1,.int .i64 2,.int .i64 13,.int .i64 0,.int .i64 3,.int .i64 0,.int .i64 1,.int .i64 0,.int .i64 3,.int .i64 2,.int .i64 2,.int .i64 0,.int .i64 0,.int .i64 14,.int .i64 1,.int .i64 0,.int .i64 3,.int .i64 1,.int .i64 14,.int .i64 0,.int .i64 3,.int .i64 3,.int .i64 14,.int .i64 0,.int .i64 5,.int .i64 0,.int .i64 1,.int .i64 0,.int .i64 5,.int .i64 1,.int .i64 2,.int .i64 0] 27]
noncomputable def addS (x a : Int) (b : Bool) : Int := fwrap .i64 (iadd x (bif b then a else 0))
def memI (a c : Int) (b1 b2 : Bool) : List Int := [a, bif b1 then 1 else 0, c, bif b2 then 1 else 0]
theorem mixedM : Tryz.prog.follows .mixedOrders = true := by kernel_rfl
theorem plainM : plainFn Tryz.prog = true := by kernel_rfl
theorem step_raw (op b1 b2 : Bool) (t a c x : Int) :
    Does Tryz.prog G 75 [.ptr 0 0, .vsl [.int .i64 x] 1] (AHeap.ofList [.cells (pgL ++ [.sl 1 0 1 4 4 op, .int .i64 t]), .cells (ints (memI a c b1 b2))]) fun r H =>
      r = .tuple [.vsl [.int .i64 (addS x a b1), .int .i64 (addS 1 c b2)] 2, .int .i64 0] ∧ H = AHeap.ofList [.cells (pgL ++ [.sl 1 0 1 4 4 op, .int .i64 (fwrap .i64 (iadd t 1))]), .cells (ints (memI (addS x a b1) (addS 1 c b2) true true))] := by
  cases op <;> cases b1 <;> cases b2 <;> exact tick_does (ov := noOv) (fuel := 100000) (n := 300) mixedM plainM (noOv_good _ _) rfl (by kernel_rfl) (fun Q => by kernel_rfl)
theorem addS_i64 (x a : Int) (b : Bool) : i64 (addS x a b) := by
  unfold addS i64
  rw [fwrap_eq, iadd_eq, IntKind.wrap_i64]
  omega
theorem mstep_does (hG : ∀ g a, G g = some a → a.idLt 0 = true) {H : AHeap} {m q : Nat} {a c : Int} {b1 b2 : Bool} {t : Nat} {op : Bool} (hm : MacAt H m q pgL (memI a c b1 b2) t op) (x : Int) (ht : t < 4611686018427387904) :
    ∃ h', Does Tryz.prog G 75 [.ptr m 0, .vsl [.int .i64 x] 1] H (fun r h => r = .tuple [.vsl [.int .i64 (addS x a b1), .int .i64 (addS 1 c b2)] 2, .int .i64 0] ∧ h = h') ∧
      MacAt h' m q pgL (memI (addS x a b1) (addS 1 c b2) true true) (t + 1) op ∧ h'.next = H.next ∧ ∀ j, j ≠ m → j ≠ q → h'.get j = H.get j := by
  obtain ⟨h1, h2, h3, h4, h5, h6, h7⟩ := hm
  obtain ⟨ρ, hρ⟩ : ∃ ρ : Nat → Nat, ρ = fun i => match i with | 0 => m | _ => q := ⟨_, rfl⟩
  have e0 : ρ 0 = m := by subst hρ; rfl
  have e1 : ρ 1 = q := by subst hρ; rfl
  have hinj : ∀ i j, i < 2 → j < 2 → ρ i = ρ j → i = j := by
    intro i j hi hj e
    have ci : i = 0 ∨ i = 1 := by omega
    have cj : j = 0 ∨ j = 1 := by omega
    rcases ci with rfl | rfl <;> rcases cj with rfl | rfl
    · rfl
    · rw [e0, e1] at e; exact absurd e h5
    · rw [e0, e1] at e; exact absurd e.symm h5
    · rfl
  have r0 : ∀ op t, AObj.ren ρ (.cells (pgL ++ [.sl 1 0 1 4 4 op, .int .i64 t])) = .cells (pgL ++ [.sl q 0 1 4 4 op, .int .i64 t]) := fun op t => by rw [← e1]; rfl
  have r1 : ∀ a c b1 b2, AObj.ren ρ (.cells (ints (memI a c b1 b2))) = .cells (ints (memI a c b1 b2)) := fun a c b1 b2 => rfl
  have hp : IsPart (AHeap.ofList [.cells (pgL ++ [.sl 1 0 1 4 4 op, .int .i64 t]), .cells (ints (memI a c b1 b2))]) ρ H := by
    refine ⟨fun i hi => ?_, fun i j hi hj => hinj i j hi hj⟩
    have hi : i < 2 := hi
    have ci : i = 0 ∨ i = 1 := by omega
    rcases ci with rfl | rfl
    · exact ⟨_, rfl, by rw [e0, r0]; exact h1⟩
    · exact ⟨_, rfl, by rw [e1, r1]; exact h2⟩
  have hd := tick_part (step_raw (G := G) op b1 b2 t a c x) (Nat.zero_lt_succ 1) rfl (by kernel_rfl) (fun n => rfl) (fun n => rfl) hG hp
  rw [e0] at hd
  have hw : fwrap .i64 (iadd (t : Int) 1) = ((t + 1 : Nat) : Int) := by rw [fwrap_eq, iadd_eq, IntWalk.i64_in _ (by omega)]; omega
  refine ⟨_, hd, ⟨?_, ?_, rfl, rfl, h5, by omega, ?_⟩, rfl, fun j hj hj2 => ?_⟩
  · have := patch_on (H := H) (H1 := AHeap.ofList [.cells (pgL ++ [.sl 1 0 1 4 4 op, .int .i64 (fwrap .i64 (iadd t 1))]), .cells (ints (memI (addS x a b1) (addS 1 c b2) true true))]) (m := 2) hinj (i := 0) (by omega)
    rw [e0] at this
    refine this.trans ?_
    rw [← hw, ← r0]; rfl
  · have := patch_on (H := H) (H1 := AHeap.ofList [.cells (pgL ++ [.sl 1 0 1 4 4 op, .int .i64 (fwrap .i64 (iadd t 1))]), .cells (ints (memI (addS x a b1) (addS 1 c b2) true true))]) (m := 2) hinj (i := 1) (by omega)
    rw [e1] at this
    refine this.trans ?_
    rw [← r1]; rfl
  · intro v hv
    simp only [memI, List.mem_cons, List.not_mem_nil, or_false] at hv
    rcases hv with rfl | rfl | rfl | rfl
    · exact addS_i64 _ _ _
    · simp only [cond_true]; unfold i64; omega
    · exact addS_i64 _ _ _
    · simp only [cond_true]; unfold i64; omega
  · refine patch_off fun i hi => ?_
    have hi : i < 2 := hi
    have ci : i = 0 ∨ i = 1 := by omega
    rcases ci with rfl | rfl
    · rw [e0]; exact Ne.symm hj
    · rw [e1]; exact Ne.symm hj2
end Go.Proofs.YtekbjlihciedjaaGreatDoor

namespace Go.Proofs.YtekbjlihciedjaaGreatDoor
open Go Go.Abs Go.Rp
variable {G : Nat → Option AV}
set_option maxRecDepth 100000
theorem elemOut : ElemOk Tryz.prog 52 52 59 3 40 := ⟨by simp, ⟨.slice 59, by simp, rfl⟩, by simp⟩
theorem elemDig : ElemOk Tryz.prog 84 84 55 32 32 := ⟨by simp, ⟨.slice 55, by simp, rfl⟩, by simp⟩
theorem mstep_zero (hG : ∀ g a, G g = some a → a.idLt 0 = true) {H : AHeap} (hw : H.Wf) {m q : Nat} {a c : Int} {b1 b2 : Bool} {t : Nat} {op : Bool} (hm : MacAt H m q pgL (memI a c b1 b2) t op) (ht : t < 4611686018427387904) (o : Bool) :
    ∃ h', Does Tryz.prog G 75 [.ptr m 0, .sl H.next 0 1 1 1 o] (H.push (.cells [.int .i64 0])) (fun r h => r = .tuple [.vsl [.int .i64 (addS 0 a b1), .int .i64 (addS 1 c b2)] 2, .int .i64 0] ∧ h = h') ∧
      MacAt h' m q pgL (memI (addS 0 a b1) (addS 1 c b2) true true) (t + 1) op ∧ H.next ≤ h'.next ∧ ∀ j y, j ≠ m → j ≠ q → H.get j = some y → h'.get j = some y := by
  have hmn := next_lt hw hm.1
  have hqn := next_lt hw hm.2.1
  have k : ∀ j y, H.get j = some y → ((H.push (.cells [.int .i64 0])).frz H.next [.int .i64 0]).get j = some y := fun j y hj => frz_old1 hw (Nat.le_refl _) hj (by
    have := next_lt hw hj
    have : j ≠ H.next := by omega
    simp [this, hj])
  have hm2 : MacAt ((H.push (.cells [.int .i64 0])).frz H.next [.int .i64 0]) m q pgL (memI a c b1 b2) t op := ⟨k _ _ hm.1, k _ _ hm.2.1, hm.2.2⟩
  obtain ⟨h', h1, h2, h3, h4⟩ := mstep_does hG hm2 0 ht
  refine ⟨h', Does.lend (i := H.next) (cs := [.int .i64 0]) (by simp) ?_, h2, ?_, fun j y hj hj2 hy => by rw [h4 j hj hj2]; exact k j y hy⟩
  · have e : List.map (AV.frz H.next [.int .i64 0]) [.ptr m 0, .sl H.next 0 1 1 1 o] = [.ptr m 0, .vsl [.int .i64 0] 1] := by
      have : m ≠ H.next := by omega
      simp [AV.frz, this]
    rw [e]; exact h1
  · rw [h3]; simp [AHeap.frz]
def rpV (ci : Nat) (c1 c2 : AV) (m pI cap : Nat) (op : Bool) (c5 c6 c7 : AV) (s : Nat) (ag ov dv lv dn : AV) : List AV :=
  [.ptr ci 0, c1, c2, .ptr m 0, .sl pI 0 1 1 cap op, c5, c6, c7, .int .i64 s, ag, ov, dv, lv, dn]
def StAt (H : AHeap) (m q : Nat) (op : Bool) (s no nd : Nat) (B : Nat → Prop) (ov dv : AV) : Prop :=
  ∃ a c b1 b2 os ds bo bd, MacAt H m q pgL (memI a c b1 b2) s op ∧ Gr H 3 no os ov bo ∧ Gr H 32 nd ds dv bd ∧ (∀ x, bo x → B x) ∧ (∀ x, bd x → B x) ∧ (∀ x, bo x → ¬ bd x) ∧ ¬ B m ∧ ¬ B q
theorem StAt.keep {H H' : AHeap} {m q : Nat} {op : Bool} {s no nd : Nat} {B : Nat → Prop} {ov dv : AV} (h : StAt H m q op s no nd B ov dv) (hk : ∀ j y, (j = m ∨ j = q ∨ B j) → H.get j = some y → H'.get j = some y) : StAt H' m q op s no nd B ov dv := by
  obtain ⟨a, c, b1, b2, os, ds, bo, bd, hM, gO, gD, bO, bD, bX, nm, nq⟩ := h
  exact ⟨a, c, b1, b2, os, ds, bo, bd, ⟨hk _ _ (.inl rfl) hM.1, hk _ _ (.inr (.inl rfl)) hM.2.1, hM.2.2⟩, gO.keep fun j x hj hx => hk j x (.inr (.inr (bO j hj))) hx, gD.keep fun j x hj hx => hk j x (.inr (.inr (bD j hj))) hx, bO, bD, bX, nm, nq⟩
theorem StAt.mono {H : AHeap} {m q : Nat} {op : Bool} {s no nd : Nat} {B B' : Nat → Prop} {ov dv : AV} (h : StAt H m q op s no nd B ov dv) (hB : ∀ x, B x → B' x) (hm : ¬ B' m) (hq : ¬ B' q) : StAt H m q op s no nd B' ov dv := by
  obtain ⟨a, c, b1, b2, os, ds, bo, bd, hM, gO, gD, bO, bD, bX, nm, nq⟩ := h
  exact ⟨a, c, b1, b2, os, ds, bo, bd, hM, gO, gD, fun x hx => hB x (bO x hx), fun x hx => hB x (bD x hx), bX, hm, hq⟩
def StR (H : AHeap) (r ci : Nat) (c1 c2 : AV) (m q pI cap : Nat) (opI : Bool) (c5 c6 c7 : AV) (op : Bool) (n no nd : Nat) (V lv dn : AV) (B : Nat → Prop) (h : AHeap) : Prop :=
  ∃ ov dv, h.get r = some (.cells (rpV ci c1 c2 m pI cap opI c5 c6 c7 n V ov dv lv dn)) ∧ StAt h m q op n no nd (fun x => B x ∨ H.next ≤ x) ov dv ∧ ∀ j y, j ≠ r → j ≠ m → j ≠ q → ¬ B j → H.get j = some y → h.get j = some y
set_option maxHeartbeats 4000000 in
theorem step_run (hG : ∀ g a, G g = some a → a.idLt 0 = true) {H : AHeap} {r ci m q pI cap : Nat} {opI op : Bool} {c1 c2 c5 c6 c7 ag ov dv lvs dn : AV} {a0 a1 a2 a3 a6 a7 a8 a9 a10 lv : AV} {l : List En} {s n no nd : Nat} {B : Nat → Prop}
    (hr : H.get r = some (.cells (rpV ci c1 c2 m pI cap opI c5 c6 c7 s ag ov dv lvs dn))) (hi : H.get ci = some (.cells [a0, a1, a2, a3, lv, .int .i64 n, a6, a7, a8, a9, a10])) (hlv : EnF lv l) (hn : n ≤ l.length) (hl : l.length ≤ 200) (hrw : ∀ e ∈ l, e.l.length ≤ 1000000)
    (hp : H.get pI = some (.cells [.int .i64 2])) (hS : StAt H m q op s no nd B ov dv) (hs : s ≤ n) (hno : no ≤ 1000) (hnd : nd ≤ 1000) (hBr : ¬ B r) (hBp : ¬ B pI) (hrm : r ≠ m) (hrq : r ≠ q) (hpr : pI ≠ r) (hpm : pI ≠ m) (hpq : pI ≠ q) :
    Does Tryz.prog G 40 [.ptr r 0] H fun x h => x = .tuple [] ∧ StR H r ci c1 c2 m q pI cap opI c5 c6 c7 op n (no + (n - s)) (nd + (n - s)) (entsV (l.take n)) lvs dn B h := by
  refine Does.wf Tryz.call40 fun hw _ => ?_
  have hv := EnF.entsV (l.take n)
  have vs := hv.sc
  have vc := hv.cells
  have hln : (l.take n).length = n := by rw [List.length_take, Nat.min_eq_left hn]
  have vl : alen Tryz.prog 48 (entsV (l.take n)) = some (.int .i64 n) := by
    rw [hv.alen (e := 62) (by simp), hln]
  have hcs := fun h0 => hv.cs (h0 : 0 < (l.take n).length)
  rw [hln] at hcs
  have hrn := next_lt hw hr
  have hpn := next_lt hw hp
  have hmn : m < H.next := by obtain ⟨a, c, b1, b2, os, ds, bo, bd, hM, _⟩ := hS; exact next_lt hw hM.1
  have hqn : q < H.next := by obtain ⟨a, c, b1, b2, os, ds, bo, bd, hM, _⟩ := hS; exact next_lt hw hM.2.1
  refine does_f Tryz.call40 Tryz.func40 rfl (by simp [Tryz.f40]) ?_
  have hr' := hr
  simp only [rpV] at hr'
  simp [hr']
  refine does_use (committed_does hi hlv hn (by omega) hrw) ?_
  rintro x h ⟨rfl, rfl⟩
  simp [hr', vs, vc]
  have hre : ∀ e ∈ l.take n, e.l.length ≤ 1000000 := fun e he => hrw e (List.mem_of_mem_take he)
  obtain ⟨V, hV⟩ : ∃ V, V = entsV (l.take n) := ⟨_, rfl⟩
  rw [← hV] at vs vc vl hcs ⊢
  generalize l.take n = L at *
  have hn2 : n ≤ 200 := by omega
  clear hv hV hi hlv hn hl hrw hr'
  refine aws_loopw (fun k T' H' => ∃ j ov dv, j + k = n ∧ s ≤ j ∧ H'.get r = some (.cells (rpV ci c1 c2 m pI cap opI c5 c6 c7 j V ov dv lvs dn)) ∧ StAt H' m q op j (no + (j - s)) (nd + (j - s)) (fun x => B x ∨ h.next ≤ x) ov dv ∧
    (∀ j y, j ≠ r → j ≠ m → j ≠ q → ¬ B j → h.get j = some y → H'.get j = some y) ∧ h.next ≤ H'.next ∧ T' 0 = .ptr r 0) (n - s) ?_ ?_
  · refine ⟨s, ov, dv, by omega, by omega, by simp [rpV], ?_, fun j y hj _ _ _ hy => by simp [hj, hy], by simp, by simp⟩
    simp only [Nat.sub_self, Nat.add_zero]
    refine (hS.mono (fun x hx => .inl hx) (fun hx => ?_) (fun hx => ?_)).keep fun j y hj hy => ?_
    · obtain ⟨a, c, b1, b2, os, ds, bo, bd, hM, gO, gD, bO, bD, bX, nm, nq⟩ := hS
      rcases hx with hx | hx
      · exact nm hx
      · omega
    · obtain ⟨a, c, b1, b2, os, ds, bo, bd, hM, gO, gD, bO, bD, bX, nm, nq⟩ := hS
      rcases hx with hx | hx
      · exact nq hx
      · omega
    · have : j ≠ r := by
        rintro rfl
        rcases hj with hj | hj | hj | hj
        · exact hrm hj
        · exact hrq hj
        · exact hBr hj
        · omega
      simp [this, hy]
  clear hS hr vc
  rintro k T H1 ⟨j, ov, dv, hjk, hsj, hr1, hSt, hk, hHn, t0⟩ hw1 _
  obtain ⟨a, c, b1, b2, os, ds, bo, bd', hM, gO, gD, bO, bD, bX, nm, nq⟩ := hSt
  obtain ⟨bd, hbd⟩ : ∃ bd : Nat → Prop, bd = fun x => bd' x ∧ x < H1.next := ⟨_, rfl⟩
  have gD : Gr H1 32 (nd + (j - s)) ds dv bd := (Gr_lt gD fun j x => next_lt hw1).mono fun j hj => by rw [hbd]; exact ⟨hj.1, hj.2.1⟩
  have bD : ∀ x, bd x → B x ∨ h.next ≤ x := fun x hx => bD x (by rw [hbd] at hx; exact hx.1)
  have bX : ∀ x, bo x → ¬ bd x := fun x hx hy => bX x hx (by rw [hbd] at hy; exact hy.1)
  have hbN : ∀ x, bd x → x < H1.next := fun x hx => by rw [hbd] at hx; exact hx.2
  clear hbd
  have ovs := gO.sc
  have ovc := gO.cells
  have dvs := gD.sc
  have dvc := gD.cells
  have hr1' := hr1
  simp only [rpV] at hr1
  simp
  refine aw_drawn [(3, 0), (7, 0)] mixedOrdR (by kernel_rfl) ?_
  intro es hes
  by_cases hj : j < n
  case neg =>
    obtain rfl : j = n := by omega
    simp [t0, hr1, vl, vs, -alen]
    refine ⟨by subst hes; exact ⟨by kernel_rfl, by kernel_rfl⟩, by simp [rds, heapF, hr1], ?_⟩
    exact ⟨ov, dv, hr1', ⟨a, c, b1, b2, os, ds, bo, bd, hM, gO, gD, bO, bD, bX, nm, nq⟩, hk⟩
  have hjj : (j : Int) < n := by omega
  simp [t0, hr1, vl, hjj, hj, -alen]
  refine ⟨by subst hes; exact ⟨by kernel_rfl, by kernel_rfl⟩, by simp [rds, heapF, hr1], ?_⟩
  obtain ⟨C, hVC, hCl, hat⟩ := hcs (by omega)
  obtain ⟨e, he⟩ : ∃ e, L[j]? = some e := ⟨_, List.getElem?_eq_getElem (by omega)⟩
  have hat := hat j e he
  have hee := hre e (List.mem_of_getElem? he)
  have rx := RowA.rowV e.row
  have rxs := rx.sc
  have rxc := rx.cells
  have h3 : 3 ≤ C.length - j * 3 := by omega
  have hr1n := next_lt hw1 hr1
  have q1 : r ≠ H1.next := by omega
  have t0' := t0
  rw [hVC] at hr1
  refine aw_drawn [(3, 0), (7, 0), (9, 0)] mixedOrdR (by kernel_rfl) ?_
  intro es hes
  simp [t0, hr1, hj, hat, h3, rxs, rxc]
  refine ⟨by subst hes; exact ⟨by kernel_rfl, by kernel_rfl⟩, by simp [rds, heapF, hr1], ?_⟩
  clear hes es
  obtain ⟨H2, hH2⟩ : ∃ H2, H2 = H1.push (.cells [.int .u64 e.id, .int .u64 e.view, rowV e.row]) := ⟨_, rfl⟩
  rw [← hH2]
  have k2 : ∀ x y, H1.get x = some y → H2.get x = some y := fun x y hx => by
    have := next_lt hw1 hx
    have : x ≠ H1.next := by omega
    rw [hH2]; simp [this, hx]
  have n2 : H2.next = H1.next + 1 := by rw [hH2]; rfl
  have he2 : H2.get H1.next = some (.cells [.int .u64 e.id, .int .u64 e.view, rowV e.row]) := by rw [hH2]; simp
  have hp2 := k2 _ _ (hk pI _ hpr hpm hpq hBp hp)
  have hr2 := k2 _ _ hr1
  have hM2 : MacAt H2 m q pgL (memI a c b1 b2) j op := ⟨k2 _ _ hM.1, k2 _ _ hM.2.1, hM.2.2⟩
  have gO2 := gO.keep (H' := H2) fun x y _ hy => k2 x y hy
  have gD2 := gD.keep (H' := H2) fun x y _ hy => k2 x y hy
  clear hH2
  have hrow : rowV e.row = .nilsl ∧ e.l = [] ∨ rowV e.row = .vsl (ints e.l ++ []) e.l.length := by
    unfold En.l
    cases e.row with
    | none => exact .inl ⟨rfl, rfl⟩
    | some l => exact .inr (by simp [rowV])
  refine does_usew (fits_does hr2 hp2 hrow hee) ?_
  rintro x h2 ⟨rfl, rfl⟩ hw2 _
  rcases Decidable.em (e.l.length = 1) with h1l | h1l
  case' inl =>
    obtain ⟨x, hx⟩ : ∃ x, e.l = [x] := List.length_eq_one_iff.1 h1l
    have hrv : rowV e.row = .vsl [.int .i64 x] 1 := by
      rcases hrow with ⟨_, hh⟩ | hh
      · rw [hx] at hh; simp at hh
      · rw [hh, hx]; rfl
    obtain ⟨h', d1, hM3, n3a, k3a⟩ := mstep_does hG hM2 x (by omega)
    simp [t0, h1l, hr2, hrv]
    refine does_usew d1 ?_
    have n3 : h2.next ≤ h'.next := by omega
    have k3 : ∀ j y, j ≠ m → j ≠ q → h2.get j = some y → h'.get j = some y := fun j y a b hy => by rw [k3a j a b]; exact hy
    clear d1 n3a k3a
    rintro y h3 ⟨rfl, rfl⟩ hw3 _
    obtain ⟨w, hw0, ws, wc⟩ : ∃ w, w = AV.vsl [AV.int .i64 (addS x a b1), AV.int .i64 (addS 1 c b2)] 2 ∧ w.scalar = true ∧ w.cells = [w] := ⟨_, rfl, rfl, rfl⟩
    rw [← hw0]
    obtain ⟨a', c', hM4⟩ : ∃ a' c', MacAt h3 m q pgL (memI a' c' true true) (j + 1) op := ⟨_, _, hM3⟩
  case' inr =>
    obtain ⟨h', d1, hM3, n3, k3⟩ := mstep_zero hG hw2 hM2 (by omega) false
    have q2 : r ≠ h2.next := by omega
    simp [t0, h1l, hr2, q2]
    refine does_usew d1 ?_
    rintro y h3 ⟨rfl, rfl⟩ hw3 _
    obtain ⟨w, hw0, ws, wc⟩ : ∃ w, w = AV.vsl [AV.int .i64 (addS 0 a b1), AV.int .i64 (addS 1 c b2)] 2 ∧ w.scalar = true ∧ w.cells = [w] := ⟨_, rfl, rfl, rfl⟩
    rw [← hw0]
    obtain ⟨a', c', hM4⟩ : ∃ a' c', MacAt h3 m q pgL (memI a' c' true true) (j + 1) op := ⟨_, _, hM3⟩
  all_goals
    clear hM3 hw0
    have hm1 : m < H1.next := by omega
    have hq1 : q < H1.next := by omega
    have hr3 := k3 _ _ hrm hrq hr2
    have he3 := k3 _ _ (by omega) (by omega) he2
    have bm : ∀ x, bo x → x ≠ m ∧ x ≠ q ∧ x ≠ r := fun x hx => ⟨fun e => nm (e ▸ bO x hx), fun e => nq (e ▸ bO x hx), fun e => by
      rcases bO x hx with h' | h'
      · exact hBr (e ▸ h')
      · omega⟩
    have dm : ∀ x, bd x → x ≠ m ∧ x ≠ q ∧ x ≠ r := fun x hx => ⟨fun e => nm (e ▸ bD x hx), fun e => nq (e ▸ bD x hx), fun e => by
      rcases bD x hx with h' | h'
      · exact hBr (e ▸ h')
      · omega⟩
    have gO3 : Gr h3 3 (no + (j - s)) os ov (fun x => bo x ∧ x < H1.next) := ((Gr_lt gO fun j x => next_lt hw1).mono (b' := fun x => bo x ∧ x < H1.next) fun j hj => ⟨hj.1, hj.2.1⟩).keep fun x y hx hy => k3 x y (bm x hx.1).1 (bm x hx.1).2.1 (k2 x y hy)
    have gD3 : Gr h3 32 (nd + (j - s)) ds dv (fun x => bd x ∧ x < H1.next) := ((Gr_lt gD fun j x => next_lt hw1).mono (b' := fun x => bd x ∧ x < H1.next) fun j hj => ⟨hj.1, hj.2.1⟩).keep fun x y hx hy => k3 x y (dm x hx.1).1 (dm x hx.1).2.1 (k2 x y hy)
    have q3 : r ≠ h3.next := by omega
    have q4 : H1.next ≠ h3.next := by omega
    obtain ⟨ov', eff, f1, f2, f3, f4⟩ := (gO3.keep (H' := h3.push (.cells [.int .i64 j, .int .u64 e.id, w])) fun x y hx hy => by
      have : x ≠ h3.next := by omega
      simp [this, hy]).app elemOut (m := 1) (x := .sl h3.next 0 3 1 1 false) (news := [.int .i64 j, .int .u64 e.id, w]) (fun _ _ e => by cases e) rfl (by simp [afirst]) (by simp [ws]) rfl (by omega) (by omega) (by omega) (by omega) (nx := h3.next + 1) rfl
    simp only [AHeap.next_push] at f2 f3 f4
    have ovs' := f2.sc
    have ovc' := f2.cells
    have ltE := eff_lt (push_lt (fun j x => next_lt hw3) (.cells [.int .i64 j, .int .u64 e.id, w])) fun i y e => aappend_put (fun k i e => by cases e) f1 e
    simp
    refine aw_drawn [(4, 0), (8, 0), (10, 0)] mixedOrdR (by kernel_rfl) ?_
    intro es hes
    simp [t0, hr3, he3, ovs, ovc, ws, wc, q3, q4, -aappend]
    rw [f1]
    generalize hH4 : h3.push (.cells [.int .i64 j, .int .u64 e.id, w]) = H4 at *
    have hr4 : (H4.eff eff).get r = some (.cells [AV.ptr ci 0, c1, c2, AV.ptr m 0, AV.sl pI 0 1 1 cap opI, c5, c6, c7, AV.int IntKind.i64 ↑j, AV.vsl C n, ov, dv, lvs, dn]) := by
      rw [f3 r (fun h => (bm r h.1).2.2 rfl) (by omega), ← hH4]
      simp [q3, hr3]
    simp [hr4, ovs', ovc']
    refine ⟨by subst hes; exact ⟨by kernel_rfl, by kernel_rfl⟩, by simp [rds, heapF, hr3, he3, ovs, ovc, ws, wc], ?_⟩
    clear hes es
    obtain ⟨H5, hH5⟩ : ∃ H5, H5 = (H4.eff eff).set r (.cells [AV.ptr ci 0, c1, c2, AV.ptr m 0, AV.sl pI 0 1 1 cap opI, c5, c6, c7, AV.int IntKind.i64 ↑j, AV.vsl C n, ov', dv, lvs, dn]) := ⟨_, rfl⟩
    rw [← hH5]
    have n5 : h3.next < H5.next := by
      rw [hH5]; simp only [AHeap.next_set]; omega
    have k5 : ∀ x y, x ≠ r → ¬ bo x → h3.get x = some y → H5.get x = some y := fun x y hx hb hy => by
      have x1 := next_lt hw3 hy
      have x2 : x ≠ h3.next := by omega
      rw [hH5]
      simp only [AHeap.get_set, if_neg hx]
      rw [f3 x (fun h => hb h.1) (by omega), ← hH4]
      simp [x2, hy]
    have hr5 : H5.get r = some (.cells [AV.ptr ci 0, c1, c2, AV.ptr m 0, AV.sl pI 0 1 1 cap opI, c5, c6, c7, AV.int IntKind.i64 ↑j, AV.vsl C n, ov', dv, lvs, dn]) := by rw [hH5]; simp
    have hM5 : MacAt H5 m q pgL (memI a' c' true true) (j + 1) op := ⟨k5 _ _ hrm.symm (fun hx => (bm m hx).1 rfl) hM4.1, k5 _ _ hrq.symm (fun hx => (bm q hx).2.1 rfl) hM4.2.1, hM4.2.2⟩
    have gO5 : Gr H5 3 (no + (j - s) + 1) (os ++ [.int .i64 j, .int .u64 e.id, w]) ov' (fun x => (bo x ∧ x < H1.next) ∨ x = h3.next + 1) := f2.keep fun x y hx hy => by
      have : x ≠ r := by
        rcases hx with hx | hx
        · exact (bm x hx.1).2.2
        · omega
      rw [hH5]; simp [this, hy]
    have gD5 : Gr H5 32 (nd + (j - s)) ds dv (fun x => bd x ∧ x < H1.next) := gD3.keep fun x y hx hy => k5 x y (dm x hx.1).2.2 (fun hb => bX x hb hx.1) hy
    have kk5 : ∀ x y, x ≠ r → x ≠ m → x ≠ q → ¬ bo x → H1.get x = some y → H5.get x = some y := fun x y a b c d hy => k5 x y a d (k3 x y b c (k2 x y hy))
    have lt5 : ∀ j x, H5.get j = some x → j < H5.next := fun j x hx => by
      have hrE := ltE _ _ hr4
      rw [hH5] at hx ⊢
      simp only [AHeap.get_set, AHeap.next_set] at hx ⊢
      split at hx
      · rename_i e; rw [e]; exact hrE
      · exact ltE _ _ hx
    clear hH5 f1 f2 f3 f4 hH4 ltE hr4 k5 gO3 gD3 hr3 he3 hM4 k3 k2
    obtain ⟨D, hD, hDl, hDs⟩ : ∃ D, digestV (memI a' c' true true) (j + 1) = .agg D ∧ D.length = 32 ∧ D.all AV.scalar = true := ⟨u8s (shaOf (stateB (memI a' c' true true) (j + 1))), rfl, by simp [u8s, shaOf_len], by simp [u8s]⟩
    have hdg := digest_does (G := G) hM5
    rw [hD] at hdg
    have q5 : r ≠ H5.next := by omega
    have tkD : D.take 32 = D := List.take_of_length_le (by omega)
    obtain ⟨dv', eff, f1, f2, f3, f4⟩ := (gD5.keep (H' := H5.push (.cells D)) fun x y hx hy => by
      have : x ≠ H5.next := by omega
      simp [this, hy]).app elemDig (m := 1) (x := .sl H5.next 0 32 1 1 false) (news := D) (fun _ _ e => by cases e) rfl (by simp [afirst, hDl, tkD]) hDs (by omega) (by omega) (by omega) (by omega) (by omega) (nx := H5.next + 1) rfl
    simp only [AHeap.next_push] at f2 f3 f4
    have dvs' := f2.sc
    have dvc' := f2.cells
    refine aw_drawn [(4, 0), (4, 10), (8, 0)] mixedOrdR (by kernel_rfl) ?_
    intro es hes
    simp [adf_stop, -adf_cons, t0, hr5, dvs, dvc]
    refine ⟨_, _, hdg, Nat.le_refl _, ?_⟩
    refine ad_go (fun T' => T' 79 = .ptr r 0 ∧ T' 83 = dv ∧ T' 88 = .agg D ∧ T' 0 = .ptr r 0) (by simp [t0]) ?_
    rintro T1 ⟨b79, b83, b88, b0⟩
    simp [adf_stop, -adf_cons, b79, b83, b88, b0, hDl, hDs, hr5, -aappend]
    rw [f1]
    generalize hH6 : H5.push (.cells D) = H6 at *
    have hr6 : (H6.eff eff).get r = some (.cells [AV.ptr ci 0, c1, c2, AV.ptr m 0, AV.sl pI 0 1 1 cap opI, c5, c6, c7, AV.int IntKind.i64 ↑j, AV.vsl C n, ov', dv, lvs, dn]) := by
      rw [f3 r (fun h => (dm r h.1).2.2 rfl) (by omega), ← hH6]
      simp [q5, hr5]
    have wr : IntKind.i64.wrap ((j : Int) + 1) = ((j + 1 : Nat) : Int) := by rw [IntWalk.i64_in _ (by omega)]; omega
    simp [adf_stop, -adf_cons, b79, b83, b88, b0, hr6, dvs', dvc']
    refine ⟨by subst hes; exact ⟨by kernel_rfl, by kernel_rfl⟩, by simp [rds, heapF, hr5, dvs, dvc], ?_⟩
    simp [b0, wr]
    have k6 : ∀ x y, ¬ bd x → H5.get x = some y → (H6.eff eff).get x = some y := fun x y hb hy => by
      have x1 : x < H5.next ∨ H5.next ≤ x := by omega
      have x0 : (H5.push (.cells D)).get x = some y → (H6.eff eff).get x = some y ∨ x = H5.next + 1 := fun hh => by
        by_cases e : x = H5.next + 1
        · exact .inr e
        · left
          rw [f3 x (fun h => hb h.1) e, ← hH6]; exact hh
      have := lt5 _ _ hy
      have x2 : x ≠ H5.next := by omega
      rcases x0 (by simp [x2, hy]) with h' | h'
      · exact h'
      · omega
    have eO : no + (j + 1 - s) = no + (j - s) + 1 := by omega
    have eD : nd + (j + 1 - s) = nd + (j - s) + 1 := by omega
    refine ⟨k - 1, by omega, j + 1, by omega, by omega, ov', dv', by rw [hVC]; simp [rpV], ?_, fun x y x1 x2 x3 x4 hx => ?_, by omega⟩
    · rw [eO, eD]
      refine ⟨a', c', true, true, _, _, fun x => (bo x ∧ x < H1.next) ∨ x = h3.next + 1, fun x => (bd x ∧ x < H1.next) ∨ x = H5.next + 1, ⟨?_, ?_, hM5.2.2⟩, gO5.keep fun x y hx hy => ?_, f2.keep fun x y hx hy => ?_, fun x hx => ?_, fun x hx => ?_, fun x hx hy => ?_, nm, nq⟩
      · simp [hrm.symm, k6 _ _ (fun hx => (dm m hx).1 rfl) hM5.1]
      · simp [hrq.symm, k6 _ _ (fun hx => (dm q hx).2.1 rfl) hM5.2.1]
      · have x1 : x ≠ r := by
          rcases hx with hx | hx
          · exact (bm x hx.1).2.2
          · omega
        have x2 : ¬ bd x := fun hb => by
          rcases hx with hx | hx
          · exact bX x hx.1 hb
          · rw [hx] at hb
            have := hbN _ hb; omega
        simp [x1, k6 x y x2 hy]
      · have x1 : x ≠ r := by
          rcases hx with hx | hx
          · exact (dm x hx.1).2.2
          · omega
        simp [x1, hy]
      · rcases hx with hx | hx
        · exact bO x hx.1
        · exact .inr (by omega)
      · rcases hx with hx | hx
        · exact bD x hx.1
        · exact .inr (by omega)
      · rcases hx with hx | hx <;> rcases hy with hy | hy
        · exact bX x hx.1 hy.1
        · omega
        · omega
        · omega
    · have x0 := next_lt hw hx
      rw [if_neg x1]
      refine k6 x y (fun hb => ?_) (kk5 x y x1 x2 x3 (fun hb => ?_) (hk x y x1 x2 x3 x4 hx))
      · rcases bD x hb with hb | hb
        · exact x4 hb
        · omega
      · rcases bO x hb with hb | hb
        · exact x4 hb
        · omega
end Go.Proofs.YtekbjlihciedjaaGreatDoor

namespace Go.Proofs.YtekbjlihciedjaaGreatDoor
open Go Go.Abs Go.Rp
variable {G : Nat → Option AV}
theorem ckRead_le (b : Bs) : (ckRead b).2.length ≤ b.length := by
  unfold ckRead
  split
  · simp
  · exact (take_text b).2
theorem ckLast_le {b1 b2 : Bs} {N : Nat} (h1 : b1.length ≤ N) (h2 : b2.length ≤ N) : (ckLast b1 b2).2.2.length ≤ N := by
  unfold ckLast
  split
  · simp
  · split
    · exact Nat.le_trans (ckRead_le b2) h2
    · exact Nat.le_trans (ckRead_le b1) h1
theorem slots_le {x : Nat × Nat × Bs} {k : KpRec} {N : Nat} (h : slots x = some (some k)) (hl : x.2.2.length ≤ N) : k.last < 2 ^ 64 ∧ k.whole.length ≤ N ∧ k.stepped < 2 ^ 64 ∧ k.state.length ≤ N := by
  unfold slots at h
  split at h
  · simp at h
  · simp only at h
    split at h
    · simp at h
    · simp only [Option.some.injEq] at h
      subst h
      have h1 := rdU_lt ⟨x.2.2, false⟩
      have h2 := rdS_len (Rd.mk x.2.2 false).U.2
      have h3 := rdU_lt (Rd.mk x.2.2 false).U.2.S.2
      have h4 := rdS_len (Rd.mk x.2.2 false).U.2.S.2.U.2
      simp only at h1
      refine ⟨h1.1, ?_, h3.1, ?_⟩ <;> simp only <;> omega
theorem recs_le : ∀ (l : List Bs) (last : Nat) {s : List Bs} {x : Nat}, recs last l = some (s, x) → s.length ≤ l.length ∧ ∀ b ∈ s, ∃ c ∈ l, b.length ≤ c.length
  | [], last, s, x, h => by
    simp only [recs, Option.some.injEq, Prod.mk.injEq] at h
    rw [← h.1]
    exact ⟨Nat.le_refl _, fun b hb => by simp at hb⟩
  | a :: l, last, s, x, h => by
    unfold recs at h
    simp only at h
    split at h
    · simp at h
    · split at h
      · rw [Option.map_eq_some_iff] at h
        obtain ⟨⟨s', x'⟩, h1, h2⟩ := h
        simp only [Prod.mk.injEq] at h2
        obtain ⟨rfl, rfl⟩ := h2
        obtain ⟨k1, k2⟩ := recs_le l _ h1
        have e1 := rdU_lt ⟨a, false⟩
        have e2 := rdS_len (Rd.mk a false).U.2
        simp only at e1
        refine ⟨by simp; omega, fun b hb => ?_⟩
        rcases List.mem_cons.1 hb with rfl | hb
        · exact ⟨a, by simp, by omega⟩
        · obtain ⟨c, h3, h4⟩ := k2 b hb
          exact ⟨c, by simp [h3], h4⟩
      · obtain ⟨k1, k2⟩ := recs_le l _ h
        refine ⟨by simp; omega, fun b hb => ?_⟩
        obtain ⟨c, h3, h4⟩ := k2 b hb
        exact ⟨c, by simp [h3], h4⟩
theorem rrecs_le {ko : Option KpRec} {l s : List Bs} {x N M : Nat} (h : rrecs ko l = some (s, x)) (hk : ∀ k, ko = some k → k.whole.length ≤ N) (hl : ∀ b ∈ l, b.length ≤ N) (hM : l.length ≤ M) : s.length ≤ M + 1 ∧ ∀ b ∈ s, b.length ≤ N := by
  unfold rrecs at h
  rw [Option.map_eq_some_iff] at h
  obtain ⟨⟨s', x'⟩, h1, h2⟩ := h
  simp only [Prod.mk.injEq] at h2
  obtain ⟨rfl, rfl⟩ := h2
  obtain ⟨k1, k2⟩ := recs_le l _ h1
  have k3 : ∀ b ∈ s', b.length ≤ N := fun b hb => by
    obtain ⟨c, h3, h4⟩ := k2 b hb
    exact Nat.le_trans h4 (hl c h3)
  rcases ko with _ | k
  · simp only [List.nil_append]
    exact ⟨by omega, k3⟩
  · refine ⟨by simp; omega, fun b hb => ?_⟩
    simp only [List.cons_append, List.nil_append, List.mem_cons] at hb
    rcases hb with rfl | hb
    · exact hk k rfl
    · exact k3 b hb
def rpo (me n : Nat) (d : Dk) : Option (Cs × Nat × Nat) :=
  match slots (ckLast d.f1.now d.f2.now) with
  | none => none
  | some ko => match rrecs ko (all (d.f0.now.length + 1) 0 d.f0.now).1 with
    | none => none
    | some (saved, last) => match opened me n ⟨0, 0, [], 0⟩ saved with
      | none => none
      | some c0 => match ko with
        | none => some (if n = 1 then { c0 with agreed := c0.list.length } else c0, last, 0)
        | some k => match loadI k.state with
          | none => none
          | some (mv, t) => if t ≠ k.stepped ∨ (if n = 1 then { c0 with agreed := c0.list.length } else c0).agreed < k.stepped then none else some (if n = 1 then { c0 with agreed := c0.list.length } else c0, last, k.stepped)
end Go.Proofs.YtekbjlihciedjaaGreatDoor

namespace Go.Proofs.YtekbjlihciedjaaGreatDoor
open Go Go.Abs Go.Rp
variable {G : Nat → Option AV}
set_option maxRecDepth 100000
def lgD (d : Dk) : Dk := if (all (d.f0.now.length + 1) 0 d.f0.now).2 < d.f0.now.length then ((d.cut 0 (all (d.f0.now.length + 1) 0 d.f0.now).2).2.sync 0).2 else (d.sync 0).2
theorem lgD_ok {d : Dk} (hok : dkOk d) (ho : d.off = false) (hf : d.fuse = 0) : (lgD d).f1 = d.f1 ∧ (lgD d).f2 = d.f2 ∧ (lgD d).off = false ∧ (lgD d).fuse = 0 ∧ (lgD d).lives = d.lives ∧ dkOk (lgD d) := by
  have hz : (all (d.f0.now.length + 1) 0 d.f0.now).2 ≤ (d.file 0).now.length := all_size _ _ _
  have hl := file_len hok 0
  unfold lgD
  split
  · rw [cut_zero ho hf hok hz]
    have hok2 : dkOk (d.setF 0 { d.file 0 with now := (d.file 0).now.take (all (d.f0.now.length + 1) 0 d.f0.now).2, other := true }) := dkOk_setF hok 0 (by simp; omega) (synced_len hok 0)
    simp only
    rw [sync_zero (by simp [Dk.setF, ho]) (by simp [Dk.setF, hf])]
    refine ⟨by simp [Dk.setF], by simp [Dk.setF], by simp [Dk.setF, ho], by simp [Dk.setF, hf], by simp [Dk.setF], dkOk_setF hok2 0 (file_len hok2 0) (file_len hok2 0)⟩
  · rw [sync_zero ho hf]
    exact ⟨by simp [Dk.setF], by simp [Dk.setF], by simp [Dk.setF, ho], by simp [Dk.setF, hf], by simp [Dk.setF], dkOk_setF hok 0 hl hl⟩
theorem memI_of {mv : List Int} (h : fitI [2, 1, 2, 1] mv = true) : ∃ a c b1 b2, mv = memI a c b1 b2 := by
  have hl := fitI_len h
  match mv, hl with
  | [x, y, z, w], _ =>
    have h2 : (y = 0 ∨ y = 1) ∧ (w = 0 ∨ w = 1) := by
      simp [fitI] at h
      omega
    obtain ⟨hy, hw⟩ := h2
    rcases hy with rfl | rfl <;> rcases hw with rfl | rfl
    · exact ⟨x, z, false, false, rfl⟩
    · exact ⟨x, z, false, true, rfl⟩
    · exact ⟨x, z, true, false, rfl⟩
    · exact ⟨x, z, true, true, rfl⟩
def OpenR (me n k : Nat) (d : Dk) (x : AV) (h : AHeap) : Prop := match rpo me n d with
  | none => x = .tuple [.nilptr, .int .i64 3]
  | some (c, last, base) => ∃ r ci g m q pI cap opI op ov dv gl lvl N,
      x = .tuple [.ptr r 0, .int .i64 0] ∧
      h.get r = some (.cells (rpV ci (.ptr k 0) (.ptr gl 0) m pI cap opI (.int .u64 last) (.int .i64 (lens (all (d.f0.now.length + 1) 0 d.f0.now).1)) (.int .i64 base) c.agreed (entsV (c.list.take c.agreed)) ov dv (.int .i64 d.lives) (.bool false))) ∧
      CoR h ci g me n c ∧ DkAt h k (lgD d) ∧ LgAt h gl k lvl ⟨(all (d.f0.now.length + 1) 0 d.f0.now).1, (all (d.f0.now.length + 1) 0 d.f0.now).1.length, d.lives, false⟩ ∧
      h.get pI = some (.cells [.int .i64 2]) ∧ StAt h m q op c.agreed (c.agreed - base) (1 + (c.agreed - base)) (fun x => N ≤ x) ov dv ∧
      r < N ∧ ci < N ∧ g + 1 < N ∧ pI < N ∧ gl < N ∧ k < N ∧ ∀ i op, lvl = .sl i 0 1 (all (d.f0.now.length + 1) 0 d.f0.now).1.length (all (d.f0.now.length + 1) 0 d.f0.now).1.length op → i < N
theorem rpo_some {me n : Nat} {d : Dk} {k' : KpRec} {saved : List Bs} {last : Nat} {c0 : Cs} (hO : slots (ckLast d.f1.now d.f2.now) = some (some k')) (hS : rrecs (some k') (all (d.f0.now.length + 1) 0 d.f0.now).1 = some (saved, last)) (hC : opened me n ⟨0, 0, [], 0⟩ saved = some c0) :
    rpo me n d = (loadI k'.state).bind fun x => if x.2 ≠ k'.stepped ∨ (if n = 1 then { c0 with agreed := c0.list.length } else c0).agreed < k'.stepped then none else some (if n = 1 then { c0 with agreed := c0.list.length } else c0, last, k'.stepped) := by
  unfold rpo
  rw [hO]; simp only
  rw [hS]; simp only
  rw [hC]; simp only
  cases loadI k'.state <;> rfl
theorem aws_wf {X : Ctx} {c : Code} {Q : Post} {T : Nat → AV} {H : AHeap} (h : H.Wf → @AWs ⟨X⟩ ⟨c⟩ ⟨Q⟩ ⟨T⟩ H) : @AWs ⟨X⟩ ⟨c⟩ ⟨Q⟩ ⟨T⟩ H := aw_wf fun hw _ => h hw
theorem kpv_form (ko : Option KpRec) : ∃ (u0 u2 : Nat) (v1 v3 : AV), kpv ko = .agg [.int .u64 u0, v1, .int .u64 u2, v3] ∧ v1.scalar = true ∧ v1.cells = [v1] ∧ v3.scalar = true ∧ v3.cells = [v3] ∧ ∀ k, ko = some k → u2 = k.stepped ∧ v3 = bV k.state := by
  rcases ko with _ | k
  · exact ⟨0, 0, .nilsl, .nilsl, rfl, rfl, rfl, rfl, rfl, fun k h => by cases h⟩
  · exact ⟨k.last, k.stepped, bV k.whole, bV k.state, rfl, bV_sc _, bV_cells _, bV_sc _, bV_cells _, fun k' h => by cases h; exact ⟨rfl, rfl⟩⟩
set_option maxHeartbeats 8000000 in
theorem rpOpen_does (hG : ∀ g a, G g = some a → a.idLt 0 = true) {H : AHeap} {k me n : Nat} {d : Dk} (h1 : me < n) (h2 : n % 2 = 1) (h3 : n ≤ 7) (hk : DkAt H k d) (hok : dkOk d) (ho : d.off = false) (hf : d.fuse = 0) (hp : PgOk G pgL) :
    Does Tryz.prog G 10 [.int .i64 me, .int .i64 n, .agg pgL, .ptr k 0] H (OpenR me n k d) := by
  refine Does.wf Tryz.call10 fun hw _ => ?_
  have hp0 := hp
  obtain ⟨e1, e2, e3, e4, e5, e6, e7⟩ := hp
  obtain ⟨p0, p1, p2, p3, p4, p5, hpg⟩ := list6 e1
  have ep0 : p0 = .vsl [.int .i64 2] 1 := by rw [hpg] at e6; simpa using e6
  subst ep0
  have s1 : p1.scalar = true := e2 _ (by rw [hpg]; simp)
  have s2 : p2.scalar = true := e2 _ (by rw [hpg]; simp)
  have s3 : p3.scalar = true := e2 _ (by rw [hpg]; simp)
  have s4 : p4.scalar = true := e2 _ (by rw [hpg]; simp)
  have s5 : p5.scalar = true := e2 _ (by rw [hpg]; simp)
  have c1 : p1.cells = [p1] := e3 _ (by rw [hpg]; simp)
  have c2 : p2.cells = [p2] := e3 _ (by rw [hpg]; simp)
  have c3 : p3.cells = [p3] := e3 _ (by rw [hpg]; simp)
  have c4 : p4.cells = [p4] := e3 _ (by rw [hpg]; simp)
  have c5 : p5.cells = [p5] := e3 _ (by rw [hpg]; simp)
  have hkn : k < H.next := by obtain ⟨c, _, hc⟩ := hk; exact next_lt hw hc
  obtain ⟨y1, y2, y3, y4, y5, y6⟩ := lgD_ok hok ho hf
  have hmac := fun H => machNew_does hp0 H
  rw [hpg] at hmac ⊢
  refine does_f Tryz.call10 Tryz.func10 rfl (by simp [Tryz.f10]) ?_
  simp [s1, s2, s3, s4, s5, c1, c2, c3, c4, c5]
  refine does_usew (coNew_does h1 h2 h3 _) ?_
  rintro x g1 ⟨rfl, -, k1⟩ hw1 _
  have hb1 : g1.get H.next = some (.cells [.vsl [.int .i64 2] 1, p1, p2, p3, p4, p5]) := k1 _ _ (by simp)
  have hk1 : DkAt g1 k d := by
    obtain ⟨cs, z1, z2⟩ := hk
    exact ⟨cs, z1, k1 _ _ (by have : k ≠ H.next := by omega
                              simp [this, z2])⟩
  simp [hb1, s1, s2, s3, s4, s5, c1, c2, c3, c4, c5]
  refine does_usew (hmac _) ?_
  rintro x g2 ⟨m, q, rfl, hm, hq, hM, k2⟩ hw2 _
  have hb2 := k2 _ _ hb1
  have hk2 : DkAt g2 k d := by
    obtain ⟨cs, z1, z2⟩ := hk1
    exact ⟨cs, z1, k2 _ _ z2⟩
  have n1 := next_lt hw1 hb1
  clear k1 hb1 hk1
  simp
  refine does_usew (lgOpen_does hk2 ho hok hf) ?_
  rintro x g3 hx hw3 _
  obtain ⟨gl, lvl, rfl, hL, hk3, hgl, hlvn, k3⟩ := hx
  have hk3 : DkAt g3 k (lgD d) := hk3
  have hL : LgAt g3 gl k lvl ⟨(all (d.f0.now.length + 1) 0 d.f0.now).1, (all (d.f0.now.length + 1) 0 d.f0.now).1.length, (lgD d).lives, false⟩ := hL
  rw [y5] at hL
  rw [← hpg] at hM
  have hmn2 := next_lt hw2 hM.1
  have hqn2 := next_lt hw2 hM.2.1
  have mk : m ≠ k := by omega
  have qk : q ≠ k := by omega
  have hM3 : MacAt g3 m q pgL [0, 0, 0, 0] 0 false := ⟨k3 _ _ mk hM.1, k3 _ _ qk hM.2.1, hM.2.2⟩
  have hb3 := k3 _ _ (by omega) hb2
  obtain ⟨z1, z2⟩ := all_log d.f0.now
  have z3 : d.f0.now.length ≤ 262144 := file_len hok 0
  have z4 : d.f1.now.length ≤ 262144 := file_len hok 1
  have z5 : d.f2.now.length ≤ 262144 := file_len hok 2
  have hkl3 : k < g3.next := by obtain ⟨c, _, hc⟩ := hk3; exact next_lt hw3 hc
  have glm := hgl _ _ hM.1
  have glq := hgl _ _ hM.2.1
  clear hM hb2 hk2 k2
  simp
  refine does_usew (slots_does hk3 y6 y3 (by rw [y1, y2]; exact Nat.le_trans (ckLast_le z4 z5) (by omega))) ?_
  rintro x g4 ⟨hg4, hx⟩ hw4 _
  subst hg4
  rw [y1, y2] at hx
  have hsl : ∀ k', slots (ckLast d.f1.now d.f2.now) = some (some k') → _ := fun k' h => slots_le h (ckLast_le z4 z5)
  obtain ⟨O, hO⟩ : ∃ O, O = slots (ckLast d.f1.now d.f2.now) := ⟨_, rfl⟩
  rw [← hO] at hx hsl
  rcases O with _ | ko
  · simp only at hx
    subst hx
    simp [kp0]
    have : rpo me n d = none := by unfold rpo; rw [← hO]
    simp [OpenR, this]
  have hx : x = .tuple [kpv ko, .bool ko.isSome, .int .i64 0] := by
    rcases ko with _ | k' <;> exact hx
  obtain ⟨u0, u2, v1, v3, ek, w1, w2, w3, w4, w5⟩ := kpv_form ko
  rw [ek] at hx
  subst hx
  have b4 := next_lt hw4 hb3
  have qa : H.next ≠ g4.next := by omega
  have qb : H.next ≠ g4.next + 1 := by omega
  simp [w1, w2, w3, w4, hb3, qa, qb]
  obtain ⟨g5, hg5⟩ : ∃ g5, g5 = ((g4.push (.cells [.int .u64 u0, v1, .int .u64 u2, v3])).push (.cells [])).push (.cells [.int .i64 2]) := ⟨_, rfl⟩
  rw [← hg5]
  have n5 : g5.next = g4.next + 1 + 1 + 1 := by rw [hg5]; rfl
  have k5 : ∀ j y, g4.get j = some y → g5.get j = some y := fun j y hj => by
    have := next_lt hw4 hj
    have p1 : j ≠ g4.next := by omega
    have p2 : j ≠ g4.next + 1 := by omega
    have p3 : j ≠ g4.next + 1 + 1 := by omega
    rw [hg5]; simp [p1, p2, p3, hj]
  have hc5 : g5.get g4.next = some (.cells [.int .u64 u0, v1, .int .u64 u2, v3]) := by
    have p1 : g4.next ≠ g4.next + 1 + 1 := by omega
    rw [hg5]; simp [p1]
  have hp5 : g5.get (g4.next + 1 + 1) = some (.cells [.int .i64 2]) := by rw [hg5]; simp
  have hk5 : DkAt g5 k (lgD d) := by
    obtain ⟨cs, z1, z2⟩ := hk3
    exact ⟨cs, z1, k5 _ _ z2⟩
  have hM5 : MacAt g5 m q pgL [0, 0, 0, 0] 0 false := ⟨k5 _ _ hM3.1, k5 _ _ hM3.2.1, hM3.2.2⟩
  have hL5 : LgAt g5 gl k lvl ⟨(all (d.f0.now.length + 1) 0 d.f0.now).1, (all (d.f0.now.length + 1) 0 d.f0.now).1.length, d.lives, false⟩ := ⟨k5 _ _ hL.1, hL.2.keep fun i op e => by
    rcases hL.2 with ⟨h', _⟩ | ⟨i', op', vs, h', hg, _⟩
    · rw [h'] at e; cases e
    · rw [e] at h'; cases h'
      rw [hg, k5 _ _ hg]⟩
  have lv4 : ∀ i op, lvl = .sl i 0 1 (all (d.f0.now.length + 1) 0 d.f0.now).1.length (all (d.f0.now.length + 1) 0 d.f0.now).1.length op → i < g4.next := fun i op e => by
    rcases hL.2 with ⟨h', _⟩ | ⟨i', op', vs, h', hg, _⟩
    · rw [h'] at e; cases e
    · rw [e] at h'; cases h'
      exact next_lt hw4 hg
  have gl4 := next_lt hw4 hL.1
  have m4 := next_lt hw4 hM3.1
  have q4 := next_lt hw4 hM3.2.1
  clear hg5 hL hM3 hk3 hb3
  refine does_usew (lives_does hk5) ?_
  rintro x g6 ⟨rfl, hg6⟩ hw5 _
  subst hg6
  rw [y5]
  have qc : g4.next ≠ g6.next := by omega
  simp [hc5, qc, w1, w2, w3, w4]
  obtain ⟨g7, hg7⟩ : ∃ g7, g7 = g6.push (.cells [.nilptr, .ptr k 0, .ptr gl 0, .ptr m 0, .sl (g4.next + 1 + 1) 0 1 1 1 true, .int .u64 0, .int .i64 0, .int .i64 0, .int .i64 0, .nilsl, .nilsl, .nilsl, .int .i64 d.lives, .bool false]) := ⟨_, rfl⟩
  rw [← hg7]
  have k7 : ∀ j y, g6.get j = some y → g7.get j = some y := fun j y hj => by
    have := next_lt hw5 hj
    have p1 : j ≠ g6.next := by omega
    rw [hg7]; simp [p1, hj]
  have hr7 : g7.get g6.next = some (.cells (rpC [.nilptr, .ptr k 0, .ptr m 0, .sl (g4.next + 1 + 1) 0 1 1 1 true] gl 0 0 [.int .i64 0, .int .i64 0, .nilsl, .nilsl, .nilsl, .int .i64 d.lives, .bool false])) := by rw [hg7]; simp [rpC]
  have hc7 := k7 _ _ hc5
  have hp7 := k7 _ _ hp5
  have hk7 : DkAt g7 k (lgD d) := by
    obtain ⟨cs, z1, z2⟩ := hk5
    exact ⟨cs, z1, k7 _ _ z2⟩
  have hM7 : MacAt g7 m q pgL [0, 0, 0, 0] 0 false := ⟨k7 _ _ hM5.1, k7 _ _ hM5.2.1, hM5.2.2⟩
  have hL7 : LgAt g7 gl k lvl ⟨(all (d.f0.now.length + 1) 0 d.f0.now).1, (all (d.f0.now.length + 1) 0 d.f0.now).1.length, d.lives, false⟩ := ⟨k7 _ _ hL5.1, hL5.2.keep fun i op e => by
    rcases hL5.2 with ⟨h', _⟩ | ⟨i', op', vs, h', hg, _⟩
    · rw [h'] at e; cases e
    · rw [e] at h'; cases h'
      rw [hg, k7 _ _ hg]⟩
  have n7 : g7.next = g6.next + 1 := by rw [hg7]; rfl
  obtain ⟨r, hre⟩ : ∃ r, r = g6.next := ⟨_, rfl⟩
  rw [← hre] at hr7 n7 ⊢
  have hlast : ∀ k', ko = some k' → k'.last < 2 ^ 64 := fun k' e => (hsl k' (by rw [e])).1
  have hrec := records_does (G := G) (ko := ko) hr7 rfl hL7 (by omega) (fun i op e => by have := lv4 i op e; omega) (by simp only; omega) (fun b (hb : b ∈ (all (d.f0.now.length + 1) 0 d.f0.now).1) => by have := mem_lens hb; omega) (by simp only; omega) hlast
  rw [ek] at hrec
  clear hg7 hL5 hM5 hk5 hc5 hp5 k7
  refine does_usew hrec ?_
  rintro x g8 hx hw8 _
  simp only at hx
  obtain ⟨S, hS⟩ : ∃ S, S = rrecs ko (all (d.f0.now.length + 1) 0 d.f0.now).1 := ⟨_, rfl⟩
  rw [← hS] at hx
  rcases S with _ | ⟨saved, last⟩
  · simp only [RcF] at hx
    subst hx
    simp
    have : rpo me n d = none := by unfold rpo; rw [← hO]; simp only; rw [← hS]
    simp [OpenR, this]
  obtain ⟨⟨sv, rfl, hsv⟩, hr8, k8⟩ := hx
  have svs : sv.scalar = true := by rcases hsv with ⟨rfl, _⟩ | ⟨vs, ts, rfl, _⟩ <;> rfl
  have svc : sv.cells = [sv] := by rcases hsv with ⟨rfl, _⟩ | ⟨vs, ts, rfl, _⟩ <;> rfl
  obtain ⟨sl1, sl2⟩ := rrecs_le (N := 262144) (M := 262144) hS.symm (fun k' e => (hsl k' (by rw [e])).2.1) (fun b hb => by have := mem_lens hb; omega) (by omega)
  have hc8 := k8 _ _ (by omega) hc7
  have hp8 := k8 _ _ (by omega) hp7
  have hk8 : DkAt g8 k (lgD d) := by
    obtain ⟨cs, z1, z2⟩ := hk7
    exact ⟨cs, z1, k8 _ _ (by omega) z2⟩
  have hM8 : MacAt g8 m q pgL [0, 0, 0, 0] 0 false := ⟨k8 _ _ (by omega) hM7.1, k8 _ _ (by omega) hM7.2.1, hM7.2.2⟩
  have hL8 : LgAt g8 gl k lvl ⟨(all (d.f0.now.length + 1) 0 d.f0.now).1, (all (d.f0.now.length + 1) 0 d.f0.now).1.length, d.lives, false⟩ := ⟨k8 _ _ (by omega) hL7.1, hL7.2.keep fun i op e => by
    rcases hL7.2 with ⟨h', _⟩ | ⟨i', op', vs, h', hg, _⟩
    · rw [h'] at e; cases e
    · have l4 := lv4 i op e
      rw [e] at h'; cases h'
      rw [hg, k8 _ _ (by omega) hg]⟩
  clear hc7 hp7 hk7 hM7 hL7 hr7 hrec
  simp [svs, svc]
  refine does_usew (coOpen_does h1 h2 h3 hsv (by omega) (fun b hb => by have := sl2 b hb; omega) _) ?_
  rintro x g9 hx hw9 _
  obtain ⟨C, hC⟩ : ∃ C, C = opened me n ⟨0, 0, [], 0⟩ saved := ⟨_, rfl⟩
  rw [← hC] at hx
  simp only [rpC] at hr8
  rcases C with _ | c0
  · obtain ⟨rfl, rfl⟩ := hx
    simp [hr8]
    have : rpo me n d = none := by unfold rpo; rw [← hO]; simp only; rw [← hS]; simp only; rw [← hC]
    simp [OpenR, this]
  obtain ⟨ci, rfl, hci, ⟨cg, hcg, hCR⟩, k9⟩ := hx
  have hc9 := k9 _ _ hc8
  have hp9 := k9 _ _ hp8
  have hr9 := k9 _ _ hr8
  have hk9 : DkAt g9 k (lgD d) := by
    obtain ⟨cs, z1, z2⟩ := hk8
    exact ⟨cs, z1, k9 _ _ z2⟩
  have hM9 : MacAt g9 m q pgL [0, 0, 0, 0] 0 false := ⟨k9 _ _ hM8.1, k9 _ _ hM8.2.1, hM8.2.2⟩
  have hL9 : LgAt g9 gl k lvl ⟨(all (d.f0.now.length + 1) 0 d.f0.now).1, (all (d.f0.now.length + 1) 0 d.f0.now).1.length, d.lives, false⟩ := ⟨k9 _ _ hL8.1, hL8.2.keep fun i op e => by
    rcases hL8.2 with ⟨h', _⟩ | ⟨i', op', vs, h', hg, _⟩
    · rw [h'] at e; cases e
    · rw [e] at h'; cases h'
      rw [hg, k9 _ _ hg]⟩
  have n8 : r < g8.next := next_lt hw8 hr8
  have o1 := next_lt hw8 hp8
  have o2 := next_lt hw8 hL8.1
  have o3 : k < g8.next := by obtain ⟨c, _, hc⟩ := hk8; exact next_lt hw8 hc
  have o4 := next_lt hw8 hM8.1
  have o5 := next_lt hw8 hM8.2.1
  have o6 := next_lt hw8 hc8
  clear hc8 hp8 hk8 hM8 hL8 hr8
  have hci9 : ci < g9.next := by obtain ⟨lv, hh, _⟩ := hCR; exact next_lt hw9 hh
  have hcg9 : cg + 1 < g9.next := by obtain ⟨lv, _, _, _, hh, _⟩ := hCR; exact next_lt hw9 hh
  have oki := opened_ok hC.symm (fun b hb => by have := sl2 b hb; omega) ⟨by simp [listed, fresh], by simp⟩
  obtain ⟨c, hc⟩ : ∃ c, c = (if n = 1 then { c0 with agreed := c0.list.length } else c0) := ⟨_, rfl⟩
  rw [← hc] at hCR
  have okc : listed c.list = true ∧ c.agreed ≤ c.list.length := by
    rw [hc]; split
    · exact ⟨oki.1, Nat.le_refl _⟩
    · exact oki
  have r4 : g4.next ≠ r := by omega
  have m9 : m ≠ r := by omega
  have q9 : q ≠ r := by omega
  have kr : k ≠ r := by omega
  have gr : gl ≠ r := by omega
  have pr : g4.next + 1 + 1 ≠ r := by omega
  have cir : ci ≠ r := by omega
  have set9 : ∀ (cs : List AV) j y, j ≠ r → g9.get j = some y → (g9.set r (.cells cs)).get j = some y := fun cs j y hj hy => by simp [hj, hy]
  rcases ko with _ | k'
  case' none =>
    have hrpo : rpo me n d = some (c, last, 0) := by unfold rpo; rw [← hO]; simp only; rw [← hS]; simp only; rw [← hC]; simp only; rw [← hc]
    simp [hr9]
    obtain ⟨g12, hg12⟩ : ∃ g12, g12 = g9.set r (.cells [.ptr ci 0, .ptr k 0, .ptr gl 0, .ptr m 0, .sl (g4.next + 1 + 1) 0 1 1 1 true, .int .u64 last, .int .i64 (lens (all (d.f0.now.length + 1) 0 d.f0.now).1), .int .i64 0, .int .i64 0, .nilsl, .nilsl, .nilsl, .int .i64 d.lives, .bool false]) := ⟨_, rfl⟩
    rw [← hg12]
    obtain ⟨q', a', c', b1, b2, base, op, hM12, hbase, hr12, hq', k12, n12⟩ : ∃ (q' : Nat) (a' c' : Int) (b1 b2 : Bool) (base : Nat) (op : Bool), MacAt g12 m q' pgL (memI a' c' b1 b2) base op ∧ (rpo me n d = some (c, last, base) ∧ base ≤ c.agreed) ∧
        g12.get r = some (.cells [.ptr ci 0, .ptr k 0, .ptr gl 0, .ptr m 0, .sl (g4.next + 1 + 1) 0 1 1 1 true, .int .u64 last, .int .i64 (lens (all (d.f0.now.length + 1) 0 d.f0.now).1), .int .i64 base, .int .i64 base, .nilsl, .nilsl, .nilsl, .int .i64 d.lives, .bool false]) ∧ (q' = q ∨ g9.next ≤ q') ∧ (∀ j y, j ≠ r → j ≠ m → g9.get j = some y → g12.get j = some y) ∧ g9.next ≤ g12.next :=
      ⟨q, 0, 0, false, false, 0, false, by rw [hg12]; exact ⟨set9 _ _ _ m9 hM9.1, set9 _ _ _ q9 hM9.2.1, hM9.2.2⟩, ⟨hrpo, Nat.zero_le _⟩, by rw [hg12]; simp, .inl rfl, fun j y hj _ hy => by rw [hg12]; exact set9 _ _ _ hj hy, by rw [hg12]; simp⟩
  case' some =>
    have hs1 := (hsl k' rfl)
    obtain ⟨e2, e3⟩ := w5 k' rfl
    subst e2 e3
    simp [hr9]
    obtain ⟨g10, hg10⟩ : ∃ g10, g10 = g9.set r (.cells [.ptr ci 0, .ptr k 0, .ptr gl 0, .ptr m 0, .sl (g4.next + 1 + 1) 0 1 1 1 true, .int .u64 last, .int .i64 (lens (all (d.f0.now.length + 1) 0 d.f0.now).1), .int .i64 0, .int .i64 0, .nilsl, .nilsl, .nilsl, .int .i64 d.lives, .bool false]) := ⟨_, rfl⟩
    rw [← hg10]
    refine aws_wf fun hw10 => ?_
    have hM10 : MacAt g10 m q pgL [0, 0, 0, 0] 0 false := by rw [hg10]; exact ⟨set9 _ _ _ m9 hM9.1, set9 _ _ _ q9 hM9.2.1, hM9.2.2⟩
    have hr10 : g10.get r = some (.cells [.ptr ci 0, .ptr k 0, .ptr gl 0, .ptr m 0, .sl (g4.next + 1 + 1) 0 1 1 1 true, .int .u64 last, .int .i64 (lens (all (d.f0.now.length + 1) 0 d.f0.now).1), .int .i64 0, .int .i64 0, .nilsl, .nilsl, .nilsl, .int .i64 d.lives, .bool false]) := by rw [hg10]; simp
    have hc10 : g10.get g4.next = some (.cells [.int .u64 u0, v1, .int .u64 k'.stepped, bV k'.state]) := by rw [hg10]; exact set9 _ _ _ r4 hc9
    have hld := load_does (G := G) hw10 hM10 e7 (BtA.bV k'.state) (by omega)
    obtain ⟨LL, hLL⟩ : ∃ LL, LL = loadI k'.state := ⟨_, rfl⟩
    rw [← hLL] at hld
    have hrp1 := rpo_some hO.symm hS.symm hC.symm
    rw [← hLL, ← hc] at hrp1
    rcases LL with _ | ⟨mv, t⟩
    · refine aw_drawn [(2, 0)] mixedOrdR (by kernel_rfl) ?_
      intro es hes
      simp [adf_stop, -adf_cons, hc10]
      refine ⟨_, _, hld, Nat.le_refl _, ?_⟩
      refine ad_go (fun T' => T' 91 = .int .i64 3) (by simp) ?_
      rintro T1 t91
      simp [adf_stop, -adf_cons, t91]
      refine ⟨by subst hes; exact ⟨by kernel_rfl, by kernel_rfl⟩, by simp [rds, heapF, hc10], ?_⟩
      have hrp1 : rpo me n d = none := hrp1
      simp [OpenR, hrp1]
    simp only at hld
    have hrp2 : rpo me n d = if t ≠ k'.stepped ∨ c.agreed < k'.stepped then none else some (c, last, k'.stepped) := hrp1
    clear hrp1
    obtain ⟨q', g11, hld, hM11, hq', hn11, k11⟩ := hld
    obtain ⟨lk1, lk2, lk3, lk4⟩ := loadI_ok hLL.symm
    have hc11 := k11 _ _ (by omega) hc10
    have hr11 := k11 _ _ m9.symm hr10
    have hCR10 := hCR
    obtain ⟨lv, w11, w12, w13, w14, w15, w16⟩ := hCR10
    have w10 : g10.get ci = some (.cells (csC me n c lv [.bool false, .int .i64 0, .map cg, .map (cg + 1), .nilsl])) := by rw [hg10]; exact set9 _ _ _ cir w11
    have w11 := k11 ci _ (by omega) w10
    have wu : IntKind.u64.wrap (t : Int) = t := IntWalk.u64_in _ (by omega)
    by_cases ht : t = k'.stepped
    case neg =>
      have ht' : ¬ (t : Int) = k'.stepped := by omega
      have htb : ((t : Int) != (k'.stepped : Int)) = true := by rw [bne_iff_ne]; exact ht'
      refine aw_drawn [(2, 0), (10, 4), (10, 8)] mixedOrdR (by kernel_rfl) ?_
      intro es hes
      simp [adf_stop, -adf_cons, hc10]
      refine ⟨_, _, hld, hn11, ?_⟩
      refine ad_go (fun T' => T' 91 = .int .i64 0 ∧ T' 12 = .ptr m 0 ∧ T' 15 = .ptr g4.next 0 ∧ T' 17 = .ptr r 0) (by simp) ?_
      rintro T1 ⟨t91, t12, t15, t17⟩
      simp [adf_stop, -adf_cons, t91, t12, t15, t17]
      refine ⟨_, _, ticks_does hM11, Nat.le_refl _, ?_⟩
      refine ad_go (fun T' => T' 93 = .bool false ∧ T' 95 = .int .i64 t ∧ T' 12 = .ptr m 0 ∧ T' 15 = .ptr g4.next 0 ∧ T' 17 = .ptr r 0) (by simp [t91, t12, t15, t17]) ?_
      rintro T2 ⟨t93, t95, t12, t15, t17⟩
      simp [adf_stop, -adf_cons, t93, t95, t12, t15, t17, hc11, wu, htb]
      refine ⟨by subst hes; exact ⟨by kernel_rfl, by kernel_rfl⟩, by simp [rds, heapF, hc10, hc11], ?_⟩
      rw [if_pos (.inl ht)] at hrp2
      simp [OpenR, hrp2]
    subst ht
    have htb : ((k'.stepped : Int) != (k'.stepped : Int)) = false := by simp
    simp only [csC] at w11
    obtain ⟨li1, li2⟩ := listed_ok okc.1
    have vl : alen Tryz.prog 48 (entsV (c.list.take c.agreed)) = some (.int .i64 c.agreed) := by
      rw [(EnF.entsV _).alen (e := 62) (by simp), List.length_take, Nat.min_eq_left okc.2]
    have wa : IntKind.u64.wrap (c.agreed : Int) = c.agreed := IntWalk.u64_in _ (by omega)
    by_cases hgt : c.agreed < k'.stepped
    case' pos => have hgt' : (c.agreed : Int) < k'.stepped := by omega
    case' neg => have hgt' : ¬ (c.agreed : Int) < k'.stepped := by omega
    all_goals
      refine aw_drawn [(2, 0), (10, 4), (10, 8), (15, 8), (15, 21), (19, 8)] mixedOrdR (by kernel_rfl) ?_
      intro es hes
      simp [adf_stop, -adf_cons, hc10]
      refine ⟨_, _, hld, hn11, ?_⟩
      refine ad_go (fun T' => T' 91 = .int .i64 0 ∧ T' 12 = .ptr m 0 ∧ T' 15 = .ptr g4.next 0 ∧ T' 17 = .ptr r 0) (by simp) ?_
      rintro T1 ⟨t91, t12, t15, t17⟩
      simp [adf_stop, -adf_cons, t91, t12, t15, t17]
      refine ⟨_, _, ticks_does hM11, Nat.le_refl _, ?_⟩
      refine ad_go (fun T' => T' 93 = .bool false ∧ T' 95 = .int .i64 k'.stepped ∧ T' 12 = .ptr m 0 ∧ T' 15 = .ptr g4.next 0 ∧ T' 17 = .ptr r 0) (by simp [t91, t12, t15, t17]) ?_
      rintro T2 ⟨t93, t95, t12, t15, t17⟩
      simp [adf_stop, -adf_cons, t93, t95, t12, t15, t17, hc11, hr11, wu, htb]
      refine ⟨_, _, committed_does w11 w12 okc.2 (by omega) li2, Nat.le_refl _, ?_⟩
      refine ad_go (fun T' => T' 101 = .bool false ∧ T' 103 = .int .u64 k'.stepped ∧ T' 108 = entsV (c.list.take c.agreed) ∧ T' 12 = .ptr m 0 ∧ T' 15 = .ptr g4.next 0 ∧ T' 17 = .ptr r 0) (by simp [t12, t15, t17]) ?_
      rintro T3 ⟨t101, t103, t108, t12, t15, t17⟩
      simp [adf_stop, -adf_cons, t101, t103, t108, t12, t15, t17, vl, wa, hgt, hgt', -alen]
      refine ⟨by subst hes; exact ⟨by kernel_rfl, by kernel_rfl⟩, by simp [rds, heapF, hc10, hc11, hr11], ?_⟩
    rotate_left
    · rw [if_pos (.inr hgt)] at hrp2
      simp [OpenR, hrp2]
    rw [if_neg (by omega)] at hrp2
    have wi : IntKind.i64.wrap (k'.stepped : Int) = k'.stepped := IntWalk.i64_in _ (by omega)
    simp [hc11, hr11, wi, t12, t15, t17]
    obtain ⟨g12, hg12⟩ : ∃ g12, g12 = g11.set r (.cells [.ptr ci 0, .ptr k 0, .ptr gl 0, .ptr m 0, .sl (g4.next + 1 + 1) 0 1 1 1 true, .int .u64 last, .int .i64 (lens (all (d.f0.now.length + 1) 0 d.f0.now).1), .int .i64 k'.stepped, .int .i64 k'.stepped, .nilsl, .nilsl, .nilsl, .int .i64 d.lives, .bool false]) := ⟨_, rfl⟩
    rw [← hg12]
    obtain ⟨a', c', b1, b2, rfl⟩ := memI_of lk4
    have n10 : g10.next = g9.next := by rw [hg10]; rfl
    have q11 : q' ≠ r := by omega
    obtain ⟨base, op, hM12, hbase, hr12, k12, n12⟩ : ∃ (base : Nat) (op : Bool), MacAt g12 m q' pgL (memI a' c' b1 b2) base op ∧ (rpo me n d = some (c, last, base) ∧ base ≤ c.agreed) ∧
        g12.get r = some (.cells [.ptr ci 0, .ptr k 0, .ptr gl 0, .ptr m 0, .sl (g4.next + 1 + 1) 0 1 1 1 true, .int .u64 last, .int .i64 (lens (all (d.f0.now.length + 1) 0 d.f0.now).1), .int .i64 base, .int .i64 base, .nilsl, .nilsl, .nilsl, .int .i64 d.lives, .bool false]) ∧ (∀ j y, j ≠ r → j ≠ m → g9.get j = some y → g12.get j = some y) ∧ g9.next ≤ g12.next :=
      ⟨k'.stepped, true, by rw [hg12]; exact ⟨by simp [m9, hM11.1], by simp [q11, hM11.2.1], hM11.2.2⟩, ⟨hrp2, by omega⟩, by rw [hg12]; simp, fun j y hj hj2 hy => by
        rw [hg12]
        simp only [AHeap.get_set, if_neg hj]
        exact k11 j y hj2 (by rw [hg10]; exact set9 _ _ _ hj hy), by rw [hg12]; simp only [AHeap.next_set]; omega⟩
    have hq' : q' = q ∨ g9.next ≤ q' := .inr (by omega)
  all_goals
    refine does_usew (digest_does hM12) ?_
    rintro x g13 ⟨rfl, hg13⟩ hw13 _
    subst hg13
    obtain ⟨D, hD, hDl, hDs⟩ : ∃ D, digestV (memI a' c' b1 b2) base = .agg D ∧ D.length = 32 ∧ D.all AV.scalar = true := ⟨u8s (shaOf (stateB (memI a' c' b1 b2) base)), rfl, by simp [u8s, shaOf_len], by simp [u8s]⟩
    rw [hD]
    have rn : r ≠ g13.next := by omega
    simp [hDl, hDs, hr12, rn]
    try rw [t17]
    obtain ⟨g14, hg14⟩ : ∃ g14, g14 = (g13.push (.cells D)).set r (.cells [.ptr ci 0, .ptr k 0, .ptr gl 0, .ptr m 0, .sl (g4.next + 1 + 1) 0 1 1 1 true, .int .u64 last, .int .i64 (lens (all (d.f0.now.length + 1) 0 d.f0.now).1), .int .i64 base, .int .i64 base, .nilsl, .nilsl, .sl g13.next 0 32 1 1 false, .int .i64 d.lives, .bool false]) := ⟨_, rfl⟩
    rw [← hg14]
    have k14 : ∀ j y, j ≠ r → g13.get j = some y → g14.get j = some y := fun j y hj hy => by
      have := next_lt hw13 hy
      have p1 : j ≠ g13.next := by omega
      rw [hg14]; simp [hj, p1, hy]
    have hr14 : g14.get r = some (.cells (rpV ci (.ptr k 0) (.ptr gl 0) m (g4.next + 1 + 1) 1 true (.int .u64 last) (.int .i64 (lens (all (d.f0.now.length + 1) 0 d.f0.now).1)) (.int .i64 base) base .nilsl .nilsl (.sl g13.next 0 32 1 1 false) (.int .i64 d.lives) (.bool false))) := by rw [hg14]; simp [rpV]
    have hD14 : g14.get g13.next = some (.cells D) := by rw [hg14]; simp [rn.symm]
    have n14 : g14.next = g13.next + 1 := by rw [hg14]; rfl
    have qr' : q' ≠ r := by omega
    have hM14 : MacAt g14 m q' pgL (memI a' c' b1 b2) base op := ⟨k14 _ _ m9 hM12.1, k14 _ _ qr' hM12.2.1, hM12.2.2⟩
    have hm13 := next_lt hw13 hM12.1
    have hq13 := next_lt hw13 hM12.2.1
    have k94 : ∀ j y, j ≠ r → j ≠ m → g9.get j = some y → g14.get j = some y := fun j y hj hj2 hy => k14 j y hj (k12 j y hj hj2 hy)
    have hSt : StAt g14 m q' op base 0 1 (fun x => g13.next ≤ x) .nilsl (.sl g13.next 0 32 1 1 false) :=
      ⟨a', c', b1, b2, [], D, fun _ => False, fun x => x = g13.next, hM14, .inl ⟨rfl, rfl, rfl⟩, .inr ⟨g13.next, 0, 1, false, [], [], rfl, rfl, by simpa using hD14, rfl, by rw [hDl], rfl, Nat.le_refl _⟩, fun x hx => hx.elim, fun x hx => by rw [hx]; exact Nat.le_refl _, fun x hx => hx.elim, by omega, by omega⟩
    obtain ⟨lv, v1, v2, v3, v4, v5, v6⟩ := hCR
    obtain ⟨li1, li2⟩ := listed_ok okc.1
    have hci14 := k94 ci _ cir (by omega) v1
    simp only [csC] at hci14
    refine does_use (step_run hG hr14 hci14 v2 okc.2 li1 li2 (k94 _ _ pr (by omega) hp9) hSt hbase.2 (by omega) (by omega) (by omega) (by omega) (by omega) (by omega) pr (by omega) (by omega)) ?_
    rintro x h ⟨rfl, ov, dv, hrf, hSf, hkf⟩
    have kf : ∀ j y, j ≠ r → j ≠ m → j ≠ q' → g9.get j = some y → h.get j = some y := fun j y a b c' hy => by
      have := next_lt hw9 hy
      exact hkf j y a b c' (by omega) (k94 j y a b hy)
    simp
    try rw [t17]
    unfold OpenR
    rw [hbase.1]
    simp only
    refine ⟨r, ci, cg, m, q', g4.next + 1 + 1, 1, true, op, ov, dv, gl, lvl, g13.next, rfl, hrf, ⟨lv, kf _ _ (by omega) (by omega) (by omega) v1, v2, kf _ _ (by omega) (by omega) (by omega) v3, kf _ _ (by omega) (by omega) (by omega) v4, v5, v6⟩, ?_, ⟨kf _ _ (by omega) (by omega) (by omega) hL9.1, hL9.2.keep fun i op e => ?_⟩, kf _ _ (by omega) (by omega) (by omega) hp9, ?_, by omega, by omega, by omega, by omega, by omega, by omega, fun i op e => ?_⟩
    · obtain ⟨cs, z1, z2⟩ := hk9
      exact ⟨cs, z1, kf _ _ (by omega) (by omega) (by omega) z2⟩
    · have l4 := lv4 i op e
      have l5 := hlvn i op e
      rcases hL9.2 with ⟨h', _⟩ | ⟨i', op', vs, h', hg, _⟩
      · rw [h'] at e; cases e
      · rw [e] at h'; cases h'
        rw [hg, kf _ _ (by omega) (by omega) (by omega) hg]
    · have e0 : 0 + (c.agreed - base) = c.agreed - base := by omega
      rw [e0] at hSf
      exact hSf.mono (fun x hx => by omega) (by omega) (by omega)
    · have l4 := lv4 i op e
      omega
end Go.Proofs.YtekbjlihciedjaaGreatDoor

namespace Go.Proofs.YtekbjlihciedjaaGreatDoor
open Go Go.Abs Go.Rp
variable {G : Nat → Option AV}
theorem parse_view {me n : Nat} {b : Bs} {x : Rc} (h : parse me n b = some x) : x.view ≤ 1099511627776 := by
  unfold parse at h
  simp only at h
  split at h
  · cases h
  · split at h
    · cases h
    · split at h
      · rename_i hh
        cases h
        exact hh.2.2.1
      · cases h
theorem apply_view {c c' : Cs} {x : Rc} (h : apply c x = some c') (hc : c.view ≤ 1099511627776) (hx : x.view ≤ 1099511627776) : c'.view ≤ 1099511627776 := by
  unfold apply at h
  repeat' split at h
  all_goals first
    | (cases h; done)
    | (cases h; assumption)
theorem opened_view {me n : Nat} : ∀ {l : List Bs} {c c' : Cs}, opened me n c l = some c' → c.view ≤ 1099511627776 → c'.view ≤ 1099511627776
  | [], c, c', h, hc => by simp only [opened, Option.some.injEq] at h; subst h; exact hc
  | b :: l, c, c', h, hc => by
    simp only [opened] at h
    split at h
    · cases h
    · rename_i x hx
      split at h
      · cases h
      · rename_i c1 h1
        exact opened_view h (apply_view h1 hc (parse_view hx))
theorem rpo_ok {me n : Nat} {d : Dk} {c : Cs} {last base : Nat} (h : rpo me n d = some (c, last, base)) (hok : dkOk d) : listed c.list = true ∧ c.agreed ≤ c.list.length ∧ c.view ≤ 1099511627776 := by
  unfold rpo at h
  split at h
  · cases h
  · rename_i ko hO
    split at h
    · cases h
    · rename_i saved last' hS
      split at h
      · cases h
      · rename_i c0 hC
        have z3 : d.f0.now.length ≤ 262144 := file_len hok 0
        have z4 : d.f1.now.length ≤ 262144 := file_len hok 1
        have z5 : d.f2.now.length ≤ 262144 := file_len hok 2
        obtain ⟨z1, z2⟩ := all_log d.f0.now
        obtain ⟨sl1, sl2⟩ := rrecs_le (N := 262144) (M := 262144) hS (fun k' e => (slots_le (by rw [hO, e]) (ckLast_le z4 z5)).2.1) (fun b hb => by have := mem_lens hb; omega) (by omega)
        have o1 := opened_ok hC (fun b hb => by have := sl2 b hb; omega) ⟨by simp [listed, fresh], by simp⟩
        have o2 := opened_view hC (by simp)
        have key : ∀ c' : Cs, c' = (if n = 1 then { c0 with agreed := c0.list.length } else c0) → listed c'.list = true ∧ c'.agreed ≤ c'.list.length ∧ c'.view ≤ 1099511627776 := by
          intro c' e
          rw [e]; split
          · exact ⟨o1.1, Nat.le_refl _, o2⟩
          · exact ⟨o1.1, o1.2, o2⟩
        obtain ⟨cc, hcc⟩ : ∃ cc : Cs, cc = (if n = 1 then { c0 with agreed := c0.list.length } else c0) := ⟨_, rfl⟩
        have key := key cc hcc
        simp only [← hcc] at h
        split at h
        · simp only [Option.some.injEq, Prod.mk.injEq] at h
          rw [← h.1]; exact key
        · split at h
          · cases h
          · split at h
            · cases h
            · simp only [Option.some.injEq, Prod.mk.injEq] at h
              rw [← h.1]; exact key
theorem open_at {me n k : Nat} {d : Dk} {c : Cs} {last base : Nat} {x : AV} {h : AHeap} (ho : OpenR me n k d x h) (hr : rpo me n d = some (c, last, base)) (hok : dkOk d) (hoff : d.off = false) (hf : d.fuse = 0) (hsm : d.f0.now.length ≤ 100000) :
    ∃ r ci pI O, x = .tuple [.ptr r 0, .int .i64 0] ∧ RpAt h O r ci k pI (coOf me n c) (lgD d) := by
  obtain ⟨o1, o2, o3⟩ := rpo_ok hr hok
  obtain ⟨li1, li2⟩ := listed_ok o1
  obtain ⟨y1, y2, y3, y4, y5, y6⟩ := lgD_ok hok hoff hf
  unfold OpenR at ho
  rw [hr] at ho
  simp only at ho
  obtain ⟨r, ci, g, m, q, pI, cap, opI, op, ov, dv, gl, lvl, N, rfl, h1, h2, h3, h4, h5, h6, h7⟩ := ho
  obtain ⟨lv, v1, v2, v3, v4, v5, v6⟩ := h2
  obtain ⟨z1, z2⟩ := all_log d.f0.now
  have hk3 := h3
  obtain ⟨cs, ⟨a0, a1, a2, a3, a4, a5, rfl, _⟩, hk⟩ := h3
  have ne : ∀ {i j : Nat} {a b : AObj}, h.get i = some a → h.get j = some b → a ≠ b → i ≠ j := fun {i j a b} ha hb hab e => by
    rw [e, hb] at ha; exact hab (Option.some.inj ha).symm
  have len : ∀ {a b : List AV}, a.length ≠ b.length → AObj.cells a ≠ AObj.cells b := fun {a b} hl e => hl (by cases e; rfl)
  refine ⟨r, ci, pI, fun j => j = ci ∨ j = g ∨ j = g + 1, rfl, ⟨?_, h5, ?_, hk3, ?_, ?_, ?_, ?_, ?_, ?_, y3, o2, li1, li2⟩⟩
  · rw [y5]
    simp only [rpV] at h1
    exact ⟨_, _, cap, opI, _, _, _, _, _, _, h1, by omega⟩
  · exact ⟨lv, g, g + 1, [], .nilsl, by simpa [coC, csC, coOf] using v1, v3, by simpa [heldC, coOf] using v4, v2, .nil, .inl ⟨rfl, by simp [coOf, entsC], rfl⟩, .inl rfl, .inr (.inl rfl), .inr (.inr rfl), by omega⟩
  · rintro (e | e | e)
    · exact ne h1 v1 (len (by simp [rpV, csC])) e
    · exact ne h1 v3 (by simp) e
    · exact ne h1 v4 (by simp) e
  · rintro (e | e | e)
    · exact ne hk v1 (len (by simp [dkV, csC])) e
    · exact ne hk v3 (by simp) e
    · exact ne hk v4 (by simp) e
  · rintro (e | e | e)
    · exact ne h5 v1 (len (by simp [csC])) e
    · exact ne h5 v3 (by simp) e
    · exact ne h5 v4 (by simp) e
  · exact ne h1 hk (len (by simp [rpV, dkV]))
  · exact ne h1 h5 (len (by simp [rpV]))
  · exact ne hk h5 (len (by simp [dkV]))
theorem RpAt.keep {H H' : AHeap} {O : Nat → Prop} {r ci k pI : Nat} {c : Co} {d : Dk} (h : RpAt H O r ci k pI c d) (hk : ∀ j y, H.get j = some y → H'.get j = some y) : RpAt H' O r ci k pI c d := by
  obtain ⟨⟨c2, c3, cap, op, c5, bytes, c7, c9, c10, c11, hr, hb⟩, h2, h3, h4, h5, h6, h7, h8, h9, h10, h11, h12, h13, h14⟩ := h
  refine ⟨⟨c2, c3, cap, op, c5, bytes, c7, c9, c10, c11, hk _ _ hr, hb⟩, hk _ _ h2, h3.keep fun j x _ => hk j x, ?_, h5, h6, h7, h8, h9, h10, h11, h12, h13, h14⟩
  obtain ⟨cs, z1, z2⟩ := h4
  exact ⟨cs, z1, hk _ _ z2⟩
end Go.Proofs.YtekbjlihciedjaaGreatDoor

namespace Go.Proofs.YtekbjlihciedjaaGreatDoor
open Go Go.Abs Go.Lex
variable {G : Nat → Option AV}
theorem hasPrefixL (s p : List UInt8) (H : AHeap) : Does Tryz.prog G 314 [.str s, .str p] H fun r H' => r = .bool (p.isPrefixOf s) ∧ H' = H := by
  refine does_f Tryz.call314 Tryz.func314 rfl (by simp [Tryz.f314]) ?_
  by_cases h : p.length ≤ s.length
  · have h1 : (p.length : Int) ≤ s.length := by omega
    simp [h, h1]
    rw [Bool.eq_iff_iff, List.isPrefixOf_iff_prefix, List.prefix_iff_eq_take]
    simp
    exact eq_comm
  · have h1 : ¬ (p.length : Int) ≤ s.length := by omega
    have h2 : p.isPrefixOf s = false := by
      rw [Bool.eq_false_iff]
      intro e
      exact h (List.isPrefixOf_iff_prefix.1 e).length_le
    simp [h, h1, h2]
theorem hasPrefix (s p : List UInt8) (H : AHeap) : Does Tryz.prog G 268 [.str s, .str p] H fun r H' => r = .bool (p.isPrefixOf s) ∧ H' = H := by
  refine does_f Tryz.call268 Tryz.func268 rfl (by simp [Tryz.f268]) ?_
  simp
  refine does_use (hasPrefixL s p H) ?_
  rintro _ _ ⟨rfl, rfl⟩
  simp
theorem asciiContains (H : AHeap) (i : Nat) (cs : List AV) (b : UInt8) (v : Bool) (h : H.get i = some (.cells cs)) (hl : cs.length = 256) (hv : cs[b.toNat]? = some (.bool v)) :
    Does Tryz.prog G 355 [.ptr i 0, .int .u8 b.toNat] H fun r H' => r = .bool v ∧ H' = H := by
  have hb := b.toNat_lt
  have h1 : (b.toNat : Int) < 256 := by omega
  have h2 : b.toNat ≤ 256 := by omega
  refine does_f Tryz.call355 Tryz.func355 rfl (by simp [Tryz.f355]) ?_
  simp [h, hl, hv, h1, h2]
def asciiCells (l : List UInt8) : List AV := (List.range 256).map fun k => .bool (l.any fun b => b.toNat == k)
@[simp] theorem asciiCells_length (l : List UInt8) : (asciiCells l).length = 256 := by simp [asciiCells]
theorem asciiCells_get (l : List UInt8) (b : UInt8) : (asciiCells l)[b.toNat]? = some (.bool (l.contains b)) := by
  have hb := b.toNat_lt
  simp only [asciiCells, List.getElem?_map]
  rw [List.getElem?_range hb]
  simp only [Option.map_some, Option.some.injEq, AV.bool.injEq]
  rw [Bool.eq_iff_iff]
  simp only [List.any_eq_true, beq_iff_eq, List.contains_iff_mem]
  constructor
  · rintro ⟨x, hx, e⟩
    rw [← UInt8.toNat_inj.1 e]; exact hx
  · intro h; exact ⟨b, h, rfl⟩
theorem asciiCells_set (l : List UInt8) (b : UInt8) : (asciiCells l).set b.toNat (.bool true) = asciiCells (l ++ [b]) := by
  apply List.ext_getElem?
  intro k
  rw [List.getElem?_set]
  simp only [asciiCells, List.getElem?_map, List.length_map, List.length_range]
  by_cases hk : k < 256
  · rw [List.getElem?_range hk]
    by_cases e : b.toNat = k
    · subst e; simp [hk]
    · rw [if_neg e]
      simp [e]
  · have : (List.range 256)[k]? = none := List.getElem?_eq_none (by simp; omega)
    rw [this]
    split <;> simp
    omega
end Go.Proofs.YtekbjlihciedjaaGreatDoor

namespace Go.Proofs.YtekbjlihciedjaaGreatDoor
open Go Go.Abs Go.Lex
variable {G : Nat → Option AV}
@[simp] theorem take_ascii (l : List UInt8) : List.take 256 (asciiCells l) = asciiCells l := by rw [List.take_of_length_le]; simp
@[simp] theorem zeroSet : azero Tryz.prog 459 = some (.agg (asciiCells [])) := by kernel_rfl
@[simp] theorem drop_ascii (l : List UInt8) : List.drop 256 (asciiCells l) = [] := by rw [List.drop_of_length_le]; simp
@[simp] theorem ascii_scalar (l : List UInt8) : (∀ x ∈ asciiCells l, x.scalar = true) = True := by
  simp only [eq_iff_iff, iff_true]
  intro x hx
  simp only [asciiCells, List.mem_map] at hx
  obtain ⟨k, _, rfl⟩ := hx
  rfl
theorem ascii_splice (l : List UInt8) (c : UInt8) : List.take c.toNat (asciiCells l) ++ AV.bool true :: List.drop (c.toNat + 1) (asciiCells l) = asciiCells (l ++ [c]) := by
  have hc := c.toNat_lt
  rw [← asciiCells_set, List.set_eq_take_append_cons_drop, if_pos (by rw [asciiCells_length]; omega)]
theorem makeSet (chars : List UInt8) (hc : ∀ b ∈ chars, b.toNat < 128) (hl : chars.length ≤ 1000000) (H : AHeap) : Does Tryz.prog G 340 [.str chars] H fun r H' => r = .tuple [.agg (asciiCells chars), .bool true] ∧ H' = H.push (.cells (asciiCells chars)) := by
  refine does_f Tryz.call340 Tryz.func340 rfl (by simp [Tryz.f340]) ?_
  simp
  refine aws_loop (fun m T' H' => ∃ a b, chars = a ++ b ∧ m = b.length ∧ T' 0 = .str chars ∧ T' 2 = .ptr H.next 0 ∧ T' 4 = .int .i64 a.length ∧ H' = H.push (.cells (asciiCells a))) chars.length ⟨[], chars, rfl, rfl, by simp⟩ ?_
  rintro m T H' ⟨a, b, rfl, rfl, h0, h2, h4, rfl⟩
  cases b with
  | nil => simp [h0, h2, h4]
  | cons c b =>
    have hlt : (a.length : Int) < a.length + (b.length + 1) := by omega
    have hc1 : c.toNat < 128 := hc c (by simp)
    have hc2 : ¬ (128 : Int) ≤ c.toNat := by omega
    have hc3 : (c.toNat : Int) < 256 := by omega
    have hc4 : c.toNat ≤ 255 := by omega
    have hw : IntKind.i64.wrap ((a.length : Int) + 1) = a.length + 1 := by
      simp only [List.length_append, List.length_cons] at hl
      exact IntWalk.i64_in _ (by omega)
    simp [h0, h2, h4, hlt, hc2, hc3, hc4, ascii_splice, hw]
    refine ⟨b.length, by omega, a ++ [c], b, by simp, rfl, ?_⟩
    simp
theorem trimASCII (s set : List UInt8) (p : UInt8 → Bool) (hp : ∀ b, set.contains b = p b) (i : Nat) (H : AHeap) (h : H.get i = some (.cells (asciiCells set))) : Does Tryz.prog G 341 [.str s, .ptr i 0] H fun r H' => r = .str (s.dropWhile p) ∧ H' = H := by
  refine does_f Tryz.call341 Tryz.func341 rfl (by simp [Tryz.f341]) ?_
  simp
  refine aws_loop (fun m T' H' => ∃ q : List UInt8, s.dropWhile p = q.dropWhile p ∧ m = q.length ∧ T' 0 = .str q ∧ T' 1 = .ptr i 0 ∧ H' = H) s.length ⟨s, rfl, rfl, by simp⟩ ?_
  rintro m T H' ⟨q, hq, rfl, h0, h1, rfl⟩
  rw [hq]
  cases q with
  | nil => simp [h0, h1]
  | cons b q =>
    have hl : (0 : Int) < q.length + 1 := by omega
    have hl2 : (1 : Int) ≤ q.length + 1 := by omega
    simp [h0, h1, hl]
    refine does_use (asciiContains H' i _ b _ h (by simp) (asciiCells_get set b)) ?_
    rintro _ _ ⟨rfl, rfl⟩
    rw [hp]
    cases hb : p b with
    | true =>
      simp [h0, h1, hb, hl, hl2]
    | false => simp [h0, h1, hb]
theorem trimLeft (s set : List UInt8) (p : UInt8 → Bool) (hp : ∀ b, set.contains b = p b) (hc : ∀ b ∈ set, b.toNat < 128) (hl : set.length ≤ 1000000) (h2 : 2 ≤ set.length) (H : AHeap) : Does Tryz.prog G 313 [.str s, .str set] H fun r H' => r = .str (s.dropWhile p) ∧ H' = H := by
  refine Does.forgot (R := fun r H' => r = .str (s.dropWhile p) ∧ ∀ j x, H.get j = some x → H'.get j = some x) ?_ ?_
  · refine Does.wf Tryz.call313 fun hw _ => ?_
    have old : ∀ j x, H.get j = some x → j ≠ H.next ∧ j ≠ H.next + 1 := fun j x hj => by have := next_lt hw hj; omega
    refine does_f Tryz.call313 Tryz.func313 rfl (by simp [Tryz.f313]) ?_
    have hne : set ≠ [] := fun e => by subst e; simp at h2
    have hn1 : ¬ (set.length : Int) = 1 := by omega
    cases hs : s with
    | nil => simp
    | cons b q =>
      rw [← hs]
      have hs1 : s.isEmpty = false := by rw [hs]; rfl
      have hs2 : set.isEmpty = false := by cases set <;> simp_all
      simp [hs1, hs2, hn1]
      refine does_use (makeSet set hc hl H) ?_
      rintro _ _ ⟨rfl, rfl⟩
      simp
      refine does_use (trimASCII s set p hp _ _ (by simp)) ?_
      rintro _ _ ⟨rfl, rfl⟩
      simp
      intro j x hj
      simp [hj, old j x hj]
  · rintro hw ha r H1 ⟨rfl, h⟩
    exact ⟨h, rfl, rfl, rfl⟩
theorem isIdx : IsIdx Tryz.prog 343 := ⟨⟨Tryz.f343, Tryz.func343, by kernel_rfl, by kernel_rfl, by kernel_rfl, by kernel_rfl⟩⟩
def idxB (s : List UInt8) (c : UInt8) : Int := match s.findIdx? (fun b => b == c) with
  | some i => i
  | none => -1
theorem idxB_eq (c : UInt8) : ∀ s : List UInt8, Go.Lib.indexByte s c = idxB s c
  | [] => rfl
  | b :: s => by
    rw [indexByte_cases, idxB_eq c s]
    unfold idxB
    rw [List.findIdx?_cons]
    by_cases h : b = c
    · subst h; simp
    · simp only [h, if_false, beq_iff_eq]
      cases hf : List.findIdx? (fun b => b == c) s with
      | none => simp
      | some i =>
        simp only [Option.map_some]
        rw [if_neg (by omega)]
        omega
theorem indexByteL (s : List UInt8) (c : UInt8) (H : AHeap) : Does Tryz.prog G 315 [.str s, .int .u8 c.toNat] H fun r H' => r = .int .i64 (idxB s c) ∧ H' = H := by
  refine does_f Tryz.call315 Tryz.func315 rfl (by simp [Tryz.f315]) ?_
  simp
  refine does_use (idx_does isIdx s c.toNat H) ?_
  rintro _ _ ⟨rfl, rfl⟩
  have e : ((c.toNat : Int).toNat).toUInt8 = c := by simp
  rw [e, idxB_eq]
  simp
theorem indexByte (s : List UInt8) (c : UInt8) (H : AHeap) : Does Tryz.prog G 269 [.str s, .int .u8 c.toNat] H fun r H' => r = .int .i64 (idxB s c) ∧ H' = H := by
  refine does_f Tryz.call269 Tryz.func269 rfl (by simp [Tryz.f269]) ?_
  simp
  refine does_use (indexByteL s c H) ?_
  rintro _ _ ⟨rfl, rfl⟩
  simp
theorem index1L (s : List UInt8) (c : UInt8) (H : AHeap) : Does Tryz.prog G 344 [.str s, .str [c]] H fun r H' => r = .int .i64 (idxB s c) ∧ H' = H := by
  refine does_f Tryz.call344 Tryz.func344 rfl (by simp [Tryz.f344]) ?_
  by_cases h : [c] = s
  · subst h
    simp [idxB]
  · have h1 : ([c] == s) = false := by simpa using h
    simp [h1]
    refine does_use (indexByteL s c H) ?_
    rintro _ _ ⟨rfl, rfl⟩
    simp
theorem contains1 (s : List UInt8) (c : UInt8) (H : AHeap) : Does Tryz.prog G 270 [.str s, .str [c]] H fun r H' => r = .bool (s.contains c) ∧ H' = H := by
  have hk : ∀ H : AHeap, Does Tryz.prog G 316 [.str s, .str [c]] H fun r H' => r = .int .i64 (idxB s c) ∧ H' = H := by
    intro H
    refine does_f Tryz.call316 Tryz.func316 rfl (by simp [Tryz.f316]) ?_
    simp
    refine does_use (index1L s c H) ?_
    rintro _ _ ⟨rfl, rfl⟩
    simp
  refine does_f Tryz.call270 Tryz.func270 rfl (by simp [Tryz.f270]) ?_
  simp
  refine does_use (hk H) ?_
  rintro _ _ ⟨rfl, rfl⟩
  simp
  unfold idxB
  cases hf : s.findIdx? (fun b => b == c) with
  | none =>
    rw [List.findIdx?_eq_none_iff] at hf
    have : c ∉ s := fun h => by have := hf c h; simp at this
    simp [this]
  | some i =>
    have h := List.findIdx?_eq_some_iff_getElem.1 hf
    obtain ⟨hi, h1, _⟩ := h
    have : c ∈ s := by
      have e : s[i] = c := by simpa using h1
      rw [← e]; exact List.getElem_mem hi
    simp [this]
end Go.Proofs.YtekbjlihciedjaaGreatDoor

namespace Go.Proofs.YtekbjlihciedjaaGreatDoor
open Go Go.Abs Go.Lex
variable {G : Nat → Option AV}
theorem sliceIndex (l : List Bs) (s : Bs) (i c : Nat) (op : Bool) (H : AHeap) (hi : H.get i = some (.cells (l.map .str))) (hl : l.length ≤ 1000000) :
    Does Tryz.prog G 330 [.sl i 0 1 l.length c op, .str s] H fun r H' => (if l.contains s then ∃ k : Nat, r = .int .i64 k else r = .int .i64 (-1)) ∧ H' = H := by
  refine does_f Tryz.call330 Tryz.func330 rfl (by simp [Tryz.f330]) ?_
  simp
  refine aws_loop (fun m T' H' => ∃ a b, l = a ++ b ∧ m = b.length ∧ s ∉ a ∧ T' 0 = .sl i 0 1 l.length c op ∧ T' 1 = .str s ∧ T' 7 = .int .i64 l.length ∧ T' 8 = .int .i64 a.length ∧ H' = H) l.length ⟨[], l, rfl, rfl, by simp, by simp⟩ ?_
  rintro m T H' ⟨a, b, rfl, rfl, hn, h0, h1, h7, h8, rfl⟩
  simp only [List.length_append] at hl h0 h7
  cases b with
  | nil => simp [h0, h1, h7, h8, hn]
  | cons t b =>
    simp only [List.length_cons] at hl
    have hlt : (a.length : Int) < a.length + (b.length + 1) := by omega
    have hle : a.length ≤ a.length + (b.length + 1) := by omega
    have hw : IntKind.i64.wrap ((a.length : Int) + 1) = a.length + 1 := IntWalk.i64_in _ (by omega)
    have hd : List.drop a.length (List.map AV.str a) = [] := by rw [List.drop_of_length_le]; simp
    by_cases e : s = t
    · subst e
      simp [h0, h1, h7, h8, hi, hlt, hle, hw, hd]
      exact ⟨a.length, rfl⟩
    · have e1 : (s == t) = false := by simpa using e
      simp [h0, h1, h7, h8, hi, hlt, hle, hw, hd, e1]
      exact ⟨b.length, by omega, a ++ [t], b, by simp, rfl, by simp [hn, e], by simp⟩
theorem sliceContains (l : List Bs) (s : Bs) (i c : Nat) (op : Bool) (H : AHeap) (hi : H.get i = some (.cells (l.map .str))) (hl : l.length ≤ 1000000) :
    Does Tryz.prog G 295 [.sl i 0 1 l.length c op, .str s] H fun r H' => r = .bool (l.contains s) ∧ H' = H := by
  refine does_f Tryz.call295 Tryz.func295 rfl (by simp [Tryz.f295]) ?_
  simp
  refine does_use (sliceIndex l s i c op H hi hl) ?_
  rintro r _ ⟨hr, rfl⟩
  cases hc : l.contains s with
  | true =>
    rw [hc, if_pos rfl] at hr
    obtain ⟨k, rfl⟩ := hr
    simp
  | false =>
    rw [hc] at hr
    simp only [Bool.false_eq_true, if_false] at hr
    subst hr
    simp
set_option maxRecDepth 100000 in
theorem kept_does (s : Bs) (H : AHeap) : Does Tryz.prog G 271 [.str s] H fun r H' => r = .bool (kept s) ∧ H' = H := by
  refine Does.forgot (R := fun r H' => r = .bool (kept s) ∧ ∀ j x, H.get j = some x → H'.get j = some x) ?_ ?_
  · refine Does.wf Tryz.call271 fun hw _ => ?_
    have old : ∀ j x, H.get j = some x → j ≠ H.next := fun j x hj => by have := next_lt hw hj; omega
    refine does_f Tryz.call271 Tryz.func271 rfl (by simp [Tryz.f271]) ?_
    simp
    refine does_use (sliceContains keptWords s H.next 21 false (H.push (.cells (keptWords.map .str))) (by simp) (by decide)) ?_
    rintro _ _ ⟨rfl, rfl⟩
    simp [kept]
    intro j x hj
    simp [hj, old j x hj]
  · rintro hw ha r H1 ⟨rfl, h⟩
    exact ⟨h, rfl, rfl, rfl⟩
theorem while_does (s set : Bs) (p : UInt8 → Bool) (hp : ∀ b, set.contains b = p b) (hc : ∀ b ∈ set, b.toNat < 128) (hl : set.length ≤ 1000000) (h2 : 2 ≤ set.length) (hs : s.length ≤ 1000000) (H : AHeap) :
    Does Tryz.prog G 267 [.str s, .str set] H fun r H' => r = .int .i64 (s.takeWhile p).length ∧ H' = H := by
  refine does_f Tryz.call267 Tryz.func267 rfl (by simp [Tryz.f267]) ?_
  simp
  refine does_use (trimLeft s set p hp hc hl h2 H) ?_
  rintro _ _ ⟨rfl, rfl⟩
  have e : s.length = (s.takeWhile p).length + (s.dropWhile p).length := by rw [← List.length_append, List.takeWhile_append_dropWhile]
  have hw : IntKind.i64.wrap ((s.length : Int) - (s.dropWhile p).length) = (s.takeWhile p).length := by
    rw [IntWalk.i64_in _ (by omega)]; omega
  simp [hw]
set_option maxRecDepth 100000 in
theorem sign_does (s : Bs) (H : AHeap) : Does Tryz.prog G 273 [.str s] H fun r H' => (match signOf s with | some t => r = .tuple [.agg [.int .i64 4, .str t, .int .i64 0, .int .i64 0], .bool true] | none => r = .tuple [.agg [.int .i64 0, .str [], .int .i64 0, .int .i64 0], .bool false]) ∧ H' = H := by
  refine Does.forgot (R := fun r H' => (match signOf s with | some t => r = .tuple [.agg [.int .i64 4, .str t, .int .i64 0, .int .i64 0], .bool true] | none => r = .tuple [.agg [.int .i64 0, .str [], .int .i64 0, .int .i64 0], .bool false]) ∧ ∀ j x, H.get j = some x → H'.get j = some x) ?_ ?_
  · refine Does.wf Tryz.call273 fun hw _ => ?_
    have old : ∀ j x, H.get j = some x → j ≠ H.next ∧ j ≠ H.next + 1 := fun j x hj => by have := next_lt hw hj; omega
    have hkeep : ∀ x y, ∀ j z, H.get j = some z → ((H.push x).push y).get j = some z := fun x y j z hj => by simp [hj, old j z hj]
    refine does_f Tryz.call273 Tryz.func273 rfl (by simp [Tryz.f273]) ?_
    simp
    refine aws_loop (fun m T' H' => ∃ a b, signs = a ++ b ∧ m = b.length ∧ a.find? (fun x => x.isPrefixOf s) = none ∧ T' 0 = .str s ∧ T' 2 = .ptr H.next 0 ∧ T' 6 = .sl (H.next + 1) 0 1 16 16 false ∧ T' 7 = .int .i64 16 ∧ T' 8 = .int .i64 a.length ∧ T' 3 = .bool false ∧
      H' = (H.push (.cells [.int .i64 0, .str [], .int .i64 0, .int .i64 0])).push (.cells (signs.map .str))) 16 ⟨[], signs, rfl, rfl, rfl, by simp [signs]⟩ ?_
    rintro m T H' ⟨a, b, hab, rfl, hn, h0, h2, h6, h7, h8, h3, rfl⟩
    have hlen : a.length + b.length = 16 := by rw [← List.length_append, ← hab]; rfl
    cases b with
    | nil =>
      have ha : a.length = 16 := by simpa using hlen
      have hs : signOf s = none := by
        unfold signOf
        rw [hab, List.append_nil]; exact hn
      simp [h0, h2, h6, h7, h8, ha, hs]
      intro j x hj
      simp [hj, old j x hj]
    | cons t b =>
      simp only [List.length_cons] at hlen
      have hlt : (a.length : Int) < 16 := by omega
      have hlt2 : a.length ≤ 16 := by omega
      have hlt3 : a.length < 16 := by omega
      have hw1 : IntKind.i64.wrap ((a.length : Int) + 1) = a.length + 1 := IntWalk.i64_in _ (by omega)
      have hd : List.drop a.length (List.map AV.str signs) = .str t :: b.map .str := by
        rw [hab, List.map_append, List.drop_left' (by simp)]; rfl
      have hsl : signs.length = 16 := rfl
      simp [h0, h2, h6, h7, h8, hlt, hlt2, hlt3, hd, hsl]
      refine does_use (hasPrefix s t _) ?_
      rintro _ _ ⟨rfl, rfl⟩
      cases hp : t.isPrefixOf s with
      | true =>
        have hs : signOf s = some t := by
          unfold signOf
          rw [hab, List.find?_append, hn]
          simp [hp]
        simp [h0, h2, h6, h7, h8, hs]
        intro j x hj
        simp [hj, old j x hj]
      | false =>
        simp [h0, h2, h6, h7, h8, hw1]
        refine ⟨b.length, by omega, a ++ [t], b, by simp [hab], rfl, ?_, ?_⟩
        · rw [List.find?_eq_none] at hn
          intro x hx
          simp only [List.mem_append, List.mem_singleton] at hx
          rcases hx with hx | rfl
          · have := hn x hx
            rw [← List.isPrefixOf_iff_prefix]; simpa using this
          · rw [← List.isPrefixOf_iff_prefix, hp]; simp
        · simp [h3]
  · rintro hw ha r H1 ⟨hr, h⟩
    refine ⟨h, ?_, hr, rfl⟩
    cases hs : signOf s <;> rw [hs] at hr <;> subst hr <;> rfl
end Go.Proofs.YtekbjlihciedjaaGreatDoor

namespace Go.Proofs.YtekbjlihciedjaaGreatDoor
open Go Go.Abs Go.Lex
variable {G : Nat → Option AV}
theorem drop_takeWhile (p : UInt8 → Bool) : ∀ s : Bs, s.drop (s.takeWhile p).length = s.dropWhile p
  | [] => rfl
  | b :: s => by
    rw [List.takeWhile_cons, List.dropWhile_cons]
    split
    · simpa using drop_takeWhile p s
    · rfl
theorem betw_line (s q : Bs) (h : s.dropWhile isBlank = 45 :: 45 :: q) : betw s = betw (q.dropWhile fun b => b != 10) := by
  rw [betw]
  split
  · rename_i q' h'
    rw [h] at h'
    simp only [List.cons.injEq, true_and] at h'
    rw [h']
  · rename_i h'
    exact absurd h (h' q)
theorem betw_word (s : Bs) (h : ([45, 45] : Bs).isPrefixOf (s.dropWhile isBlank) = false) : betw s = s.dropWhile isBlank := by
  rw [betw]
  split
  · rename_i q hq
    rw [hq] at h
    simp [List.isPrefixOf] at h
  · rfl
theorem betw_nil : betw [] = [] := betw_word [] rfl
@[simp] theorem take_drop_all {α : Type} (l : List α) (n : Nat) : List.take (l.length - n) (l.drop n) = l.drop n := by rw [List.take_of_length_le]; simp
theorem idxB_none {s : Bs} {c : UInt8} (h : s.findIdx? (fun b => b == c) = none) : s.dropWhile (fun b => b != c) = [] := by
  rw [List.findIdx?_eq_none_iff] at h
  induction s with
  | nil => rfl
  | cons b s ih =>
    rw [List.dropWhile_cons]
    have := h b (by simp)
    have e : (b != c) = true := by simp only [bne, this]; rfl
    rw [if_pos e]
    exact ih fun x hx => h x (by simp [hx])
theorem idxB_some {s : Bs} {c : UInt8} {i : Nat} (h : s.findIdx? (fun b => b == c) = some i) : s.dropWhile (fun b => b != c) = s.drop i ∧ i < s.length := by
  induction s generalizing i with
  | nil => simp at h
  | cons b s ih =>
    rw [List.findIdx?_cons] at h
    rw [List.dropWhile_cons]
    by_cases e : b = c
    · subst e
      simp at h
      subst h
      simp
    · have e1 : (b == c) = false := by simpa using e
      have e2 : (b != c) = true := by simp [bne, e1]
      rw [e1] at h
      simp only [Bool.false_eq_true, if_false, Option.map_eq_some_iff] at h
      obtain ⟨j, hj, rfl⟩ := h
      obtain ⟨h1, h2⟩ := ih hj
      rw [if_pos e2]
      exact ⟨by simpa using h1, by simp; omega⟩
theorem blankSet (b : UInt8) : ([32, 9, 10, 13] : Bs).contains b = isBlank b := by
  rw [Bool.eq_iff_iff]
  simp [isBlank, or_assoc]
theorem between_does (s : Bs) (hl : s.length ≤ 1000000) (H : AHeap) : Does Tryz.prog G 223 [.str s] H fun r H' => (∃ n : Nat, r = .int .i64 n ∧ n ≤ s.length ∧ s.drop n = betw s) ∧ H' = H := by
  refine does_f Tryz.call223 Tryz.func223 rfl (by simp [Tryz.f223]) ?_
  simp
  refine aws_loop (fun m T' H' => ∃ n : Nat, n ≤ s.length ∧ m = s.length - n ∧ betw (s.drop n) = betw s ∧ T' 0 = .str s ∧ T' 3 = .int .i64 n ∧ H' = H) s.length ⟨0, by omega, by omega, rfl, by simp⟩ ?_
  rintro m T H' ⟨n, hn, rfl, hb, h0, h3, rfl⟩
  have hn1 : (n : Int) ≤ s.length := by omega
  simp [h0, h3, hn, hn1]
  have hdl : (s.drop n).length = s.length - n := by simp
  refine does_use (while_does (s.drop n) _ isBlank blankSet (by decide) (by decide) (by decide) (by omega) _) ?_
  rintro _ _ ⟨rfl, rfl⟩
  have htl : ((s.drop n).takeWhile isBlank).length ≤ s.length - n := by
    rw [← hdl]; exact (List.takeWhile_prefix isBlank).length_le
  have hdd : s.drop (n + ((s.drop n).takeWhile isBlank).length) = (s.drop n).dropWhile isBlank := by
    rw [← List.drop_drop, drop_takeWhile]
  obtain ⟨k, hk⟩ : ∃ k, k = ((s.drop n).takeWhile isBlank).length := ⟨_, rfl⟩
  rw [← hk] at htl hdd ⊢
  obtain ⟨j, hj⟩ : ∃ j, j = n + k := ⟨_, rfl⟩
  have hw1 : IntKind.i64.wrap ((n : Int) + k) = (j : Int) := by rw [IntWalk.i64_in _ (by omega)]; omega
  have hk1 : (j : Int) ≤ s.length := by omega
  have hk2 : j ≤ s.length := by omega
  rw [← hj] at hdd
  simp [h0, h3, hw1, hk1, hk2]
  refine does_use (hasPrefix (s.drop j) [45, 45] _) ?_
  rintro _ _ ⟨rfl, rfl⟩
  cases hp : ([45, 45] : Bs).isPrefixOf (s.drop j) with
  | false =>
    simp [h0, h3]
    refine ⟨j, rfl, hk2, ?_⟩
    rw [← hb, betw_word _ (by rw [← hdd]; exact hp), hdd]
  | true =>
    simp [h0, h3, hk1, hk2]
    refine does_use (indexByte (s.drop j) 10 _) ?_
    rintro _ _ ⟨rfl, rfl⟩
    obtain ⟨q, hq⟩ : ∃ q, s.drop j = 45 :: 45 :: q := by
      rw [List.isPrefixOf_iff_prefix] at hp
      obtain ⟨t, ht⟩ := hp
      exact ⟨t, ht.symm⟩
    have hbq : betw s = betw ((s.drop j).dropWhile fun b => b != 10) := by
      rw [← hb, betw_line _ q (by rw [← hdd]; exact hq), hq]
      rfl
    unfold idxB
    cases hf : (s.drop j).findIdx? (fun b => b == 10) with
    | none =>
      simp [h0, h3]
      refine ⟨s.length, rfl, Nat.le_refl _, ?_⟩
      rw [hbq, idxB_none hf, betw_nil]; simp
    | some i =>
      obtain ⟨g1, g2⟩ := idxB_some hf
      have g3 : ¬ ((i : Int) < 0) := by omega
      have hi2 : 2 ≤ i := by
        rw [hq] at hf
        rw [List.findIdx?_cons, List.findIdx?_cons] at hf
        simp at hf
        omega
      simp only [List.length_drop] at g2
      have hw2 : IntKind.i64.wrap ((j : Int) + i) = ((j + i : Nat) : Int) := by rw [IntWalk.i64_in _ (by omega)]; omega
      simp [h0, h3, g3, hw2]
      refine ⟨s.length - (j + i), by omega, j + i, by omega, rfl, ?_, by omega⟩
      rw [hbq, g1, List.drop_drop]
end Go.Proofs.YtekbjlihciedjaaGreatDoor

namespace Go.Proofs.YtekbjlihciedjaaGreatDoor
open Go Go.Abs Go.Lex
variable {G : Nat → Option AV}
theorem numVal_snoc (s : Bs) (b : UInt8) : numVal (s ++ [b]) = 10 * numVal s + (b.toNat - 48) := by simp [numVal]
theorem numVal_ge (a : Bs) : ∀ b : Bs, numVal a ≤ numVal (a ++ b) := by
  intro b
  induction b generalizing a with
  | nil => simp
  | cons c b ih =>
    have := ih (a ++ [c])
    rw [numVal_snoc, List.append_assoc] at this
    simp only [List.singleton_append] at this
    omega
theorem strCs_append' (a b : Bs) : strCs (a ++ b) = strCs a ++ strCs b := by simp [strCs]
theorem wrap_u64 (n : Int) (h0 : 0 ≤ n) (h1 : n < 18446744073709551616) : IntKind.u64.wrap n = n := by
  unfold IntKind.wrap
  simp only [IntKind.signed, IntKind.bits, Bool.false_and, Bool.false_eq_true, if_false]
  exact Int.emod_eq_of_lt h0 (by omega)
theorem wrap_u64' (n : Int) (h0 : 18446744073709551616 ≤ n) (h1 : n < 36893488147419103232) : IntKind.u64.wrap n = n - 18446744073709551616 := by
  unfold IntKind.wrap
  simp only [IntKind.signed, IntKind.bits, Bool.false_and, Bool.false_eq_true, if_false]
  omega
theorem wrap_u8 (n : Int) (h0 : 0 ≤ n) (h1 : n < 256) : IntKind.u8.wrap n = n := by
  unfold IntKind.wrap
  simp only [IntKind.signed, IntKind.bits, Bool.false_and, Bool.false_eq_true, if_false]
  exact Int.emod_eq_of_lt h0 (by omega)
@[simp] theorem concErr : Tryz.prog.concrete 473 = true := by kernel_rfl
@[simp] theorem concNum : Tryz.prog.concrete 476 = true := by kernel_rfl
def uintOf (s : Bs) : AV := if numVal s < 18446744073709551616 then .tuple [.int .u64 (numVal s), .niliface] else .tuple [.int .u64 18446744073709551615, .iface 473 (.int .i64 1)]
set_option maxRecDepth 100000 in
theorem parseUint (s : Bs) (hd : ∀ b ∈ s, isDigit b = true) (hs : s ≠ []) (hl : s.length ≤ 1000000) (H : AHeap) :
    Does Tryz.prog G 361 [.str s, .int .i64 10, .int .i64 64] H fun r H' => r = uintOf s ∧ H' = H := by
  refine Does.forgot (R := fun r H' => r = uintOf s ∧ ∀ j x, H.get j = some x → H'.get j = some x) ?_ ?_
  · refine Does.wf Tryz.call361 fun hw _ => ?_
    have old : ∀ j x, H.get j = some x → j ≠ H.next := fun j x hj => by have := next_lt hw hj; omega
    refine does_f Tryz.call361 Tryz.func361 rfl (by simp [Tryz.f361]) ?_
    have hs1 : s.isEmpty = false := by cases s <;> simp_all
    have e1 : IntKind.u64.wrap 64 = 64 := by decide
    have e2 : IntKind.u64.wrap (2 ^ min 64 IntKind.u64.bits) = 0 := by decide
    have e3 : IntKind.u64.wrap (-1) = 18446744073709551615 := by decide
    simp [hs1, e1, e2, e3]
    refine aws_loop (fun m T' H' => ∃ a b, s = a ++ b ∧ m = b.length ∧ numVal a < 18446744073709551616 ∧ T' 1 = .int .i64 10 ∧ T' 8 = .bool false ∧ T' 10 = .int .u64 1844674407370955162 ∧ T' 11 = .int .u64 18446744073709551615 ∧ T' 12 = .bool false ∧ T' 13 = .int .u64 (numVal a) ∧
      T' 99 = .sl H.next 0 1 s.length s.length true ∧ T' 100 = .int .i64 s.length ∧ T' 101 = .int .i64 a.length ∧ H' = H.push (.cells (strCs s))) s.length ⟨[], s, rfl, rfl, by decide, by simp [numVal, strCs]⟩ ?_
    rintro m T H' ⟨a, b, rfl, rfl, hv, h1, h8, h10, h11, h12, h13, h99, h100, h101, rfl⟩
    simp only [List.length_append] at hl h99 h100
    cases b with
    | nil =>
      simp [h1, h8, h10, h11, h12, h13, h99, h100, h101]
      refine ⟨?_, ?_⟩
      · simp [uintOf, hv]
      · intro j x hj
        simp [hj, old j x hj]
    | cons c b =>
      simp only [List.length_cons] at hl
      have hc := hd c (by simp)
      simp only [isDigit, Bool.and_eq_true, decide_eq_true_eq] at hc
      obtain ⟨hc1, hc2⟩ := hc
      obtain ⟨d, hdd⟩ : ∃ d, d = c.toNat - 48 := ⟨_, rfl⟩
      have hlt : (a.length : Int) < a.length + (b.length + 1) := by omega
      have hle : a.length ≤ a.length + (b.length + 1) := by omega
      have hw1 : IntKind.i64.wrap ((a.length : Int) + 1) = a.length + 1 := IntWalk.i64_in _ (by omega)
      have hdr : List.drop a.length (strCs (a ++ c :: b)) = .int .u8 c.toNat :: strCs b := by
        rw [strCs_append', List.drop_left' (by simp [strCs])]; rfl
      have hsl : (strCs (a ++ c :: b)).length = a.length + (b.length + 1) := by simp [strCs]
      have n1 : ¬ (c.toNat : Int) = 95 := by omega
      have n2 : (48 : Int) ≤ c.toNat := by omega
      have n3 : (c.toNat : Int) ≤ 57 := by omega
      have n4 : IntKind.u8.wrap ((c.toNat : Int) - 48) = d := by rw [wrap_u8 _ (by omega) (by omega)]; omega
      have n5 : IntKind.u8.wrap 10 = 10 := by decide
      have n6 : ¬ (10 : Int) ≤ d := by omega
      have n7 : IntKind.u64.wrap 10 = 10 := by decide
      have n8 : IntKind.u64.wrap (d : Int) = d := wrap_u64 _ (by omega) (by omega)
      have hn : numVal (a ++ [c]) = 10 * numVal a + d := by rw [numVal_snoc]; omega
      have hge := numVal_ge (a ++ [c]) b
      rw [List.append_assoc, List.singleton_append] at hge
      obtain ⟨v, hvv⟩ : ∃ v, v = numVal a := ⟨_, rfl⟩
      rw [← hvv] at hv h13 hn
      by_cases g1 : 1844674407370955162 ≤ v
      · have g1' : (1844674407370955162 : Int) ≤ v := by omega
        have hbig : ¬ numVal (a ++ c :: b) < 18446744073709551616 := by omega
        simp [h1, h8, h10, h11, h12, h13, h99, h100, h101, hlt, hle, hdr, hsl, n1, n2, n3, n4, n5, n6, n7, n8, g1']
        refine ⟨?_, ?_⟩
        · unfold uintOf; rw [if_neg hbig]
        · intro j x hj
          simp [hj, old j x hj]
      · have g1' : ¬ (1844674407370955162 : Int) ≤ v := by omega
        have m1 : IntKind.u64.wrap ((v : Int) * 10) = v * 10 := wrap_u64 _ (by omega) (by omega)
        by_cases g2 : 10 * v + d < 18446744073709551616
        · have m2 : IntKind.u64.wrap ((v : Int) * 10 + d) = v * 10 + d := wrap_u64 _ (by omega) (by omega)
          have m3 : ¬ ((v : Int) * 10 + d < v * 10) := by omega
          have m4 : ¬ ((18446744073709551615 : Int) < v * 10 + d) := by omega
          simp [h1, h8, h10, h11, h12, h13, h99, h100, h101, hlt, hle, hdr, hsl, n1, n2, n3, n4, n5, n6, n7, n8, g1', m1, m2, m3, m4, hw1]
          refine ⟨b.length, by omega, a ++ [c], b, by simp, rfl, by omega, ?_⟩
          simp [hn]
          omega
        · have m2 : IntKind.u64.wrap ((v : Int) * 10 + d) = v * 10 + d - 18446744073709551616 := wrap_u64' _ (by omega) (by omega)
          have m3 : ((v : Int) * 10 + d - 18446744073709551616 < v * 10) := by omega
          have hbig : ¬ numVal (a ++ c :: b) < 18446744073709551616 := by omega
          simp [h1, h8, h10, h11, h12, h13, h99, h100, h101, hlt, hle, hdr, hsl, n1, n2, n3, n4, n5, n6, n7, n8, g1', m1, m2, m3]
          refine ⟨?_, ?_⟩
          · unfold uintOf; rw [if_neg hbig]
          · intro j x hj
            simp [hj, old j x hj]
  · rintro hw ha r H1 ⟨rfl, h⟩
    refine ⟨h, ?_, rfl, rfl⟩
    unfold uintOf; split <;> rfl
end Go.Proofs.YtekbjlihciedjaaGreatDoor

namespace Go.Proofs.YtekbjlihciedjaaGreatDoor
open Go Go.Abs Go.Lex
variable {G : Nat → Option AV}
theorem wrap_i64 (n : Int) (h0 : 0 ≤ n) (h1 : n < 9223372036854775808) : IntKind.i64.wrap n = n := IntWalk.i64_in _ (by omega)
def intOf (s : Bs) : AV := if numVal s < 9223372036854775808 then .tuple [.int .i64 (numVal s), .niliface] else .tuple [.int .i64 9223372036854775807, .iface 473 (.int .i64 1)]
set_option maxRecDepth 100000 in
theorem parseInt (s : Bs) (hd : ∀ b ∈ s, isDigit b = true) (hs : s ≠ []) (hl : s.length ≤ 1000000) (H : AHeap) :
    Does Tryz.prog G 345 [.str s, .int .i64 10, .int .i64 64] H fun r H' => r = intOf s ∧ H' = H := by
  refine does_f Tryz.call345 Tryz.func345 rfl (by simp [Tryz.f345]) ?_
  cases s with
  | nil => exact absurd rfl hs
  | cons c q =>
    have hc := hd c (by simp)
    simp only [isDigit, Bool.and_eq_true, decide_eq_true_eq] at hc
    have n1 : ¬ (c.toNat : Int) = 43 := by omega
    have n2 : ¬ (c.toNat : Int) = 45 := by omega
    have m1 : (0 : Int) < q.length + 1 := by omega
    simp [n1, n2, m1]
    refine does_use (parseUint (c :: q) hd hs hl H) ?_
    rintro _ _ ⟨rfl, rfl⟩
    have e1 : IntKind.u64.wrap 63 = 63 := by decide
    have e2 : IntKind.u64.wrap (2 ^ min 63 IntKind.u64.bits) = 9223372036854775808 := by decide
    have e3 : IntKind.u64.wrap 9223372036854775807 = 9223372036854775807 := by decide
    have e4 : IntKind.i64.wrap 9223372036854775807 = 9223372036854775807 := by decide
    have e5 : IntKind.i64.wrap 63 = 63 := by decide
    have e6 : Tryz.t473.comparable = true := by kernel_rfl
    obtain ⟨v, hv⟩ : ∃ v, v = numVal (c :: q) := ⟨_, rfl⟩
    unfold uintOf intOf
    rw [← hv]
    by_cases g1 : v < 9223372036854775808
    · have g2 : v < 18446744073709551616 := by omega
      have g3 : ¬ (9223372036854775808 : Int) ≤ v := by omega
      have g4 : IntKind.i64.wrap (v : Int) = v := wrap_i64 _ (by omega) (by omega)
      rw [if_pos g2, if_pos g1]
      simp [e1, e2, e3, e4, e5, e6, g3, g4]
    · rw [if_neg g1]
      by_cases g2 : v < 18446744073709551616
      · have g3 : (9223372036854775808 : Int) ≤ v := by omega
        rw [if_pos g2]
        simp [e1, e2, e3, e4, e5, e6, g3]
      · rw [if_neg g2]
        simp [e1, e2, e3, e4, e5, e6]
theorem mixedOrders : Tryz.prog.follows .mixedOrders = true := by kernel_rfl
def HasErr (G : Nat → Option AV) : Prop := ∃ t v, G 2 = some (.vptr [.iface t v])
set_option maxRecDepth 100000 in
theorem rangeError (s : Bs) (fn : Bs) (hl : s.length ≤ 1000000) (hG : HasErr G) (H : AHeap) : Does Tryz.prog G 363 [.str fn, .str s] H fun r H' => r = .ptr H.next 0 ∧ ∃ cs, H' = H.push (.cells cs) := by
  obtain ⟨et, ev, he⟩ := hG
  refine does_f Tryz.call363 Tryz.func363 rfl (by simp [Tryz.f363]) ?_
  simp
  refine aw_drawn [(3, 0), (3, 3)] ?_ ?_ ?_
  · exact mixedOrders
  · kernel_rfl
  intro es hes
  simp
  refine ⟨_, _, copy_does isCopy s (by omega) H, by simp, ?_⟩
  simp [he, rds, heapF]
  refine ⟨?_, _, rfl⟩
  subst hes
  exact ⟨by kernel_rfl, by kernel_rfl⟩
set_option maxRecDepth 100000 in
theorem toError (s : Bs) (fn : Bs) (hl : s.length ≤ 1000000) (hG : HasErr G) (H : AHeap) : Does Tryz.prog G 346 [.str fn, .str s, .int .i64 10, .int .i64 64, .iface 473 (.int .i64 1)] H fun r H' => r = .iface 476 (.ptr H.next 0) ∧ ∃ cs, H' = H.push (.cells cs) := by
  have e6 : Tryz.t473.comparable = true := by kernel_rfl
  refine does_f Tryz.call346 Tryz.func346 rfl (by simp [Tryz.f346]) ?_
  simp [e6]
  refine does_use (rangeError s fn hl hG H) ?_
  rintro _ _ ⟨rfl, cs, rfl⟩
  simp
  exact ⟨cs, rfl⟩
set_option maxRecDepth 100000 in
theorem parseInt' (s : Bs) (hd : ∀ b ∈ s, isDigit b = true) (hs : s ≠ []) (hl : s.length ≤ 1000000) (hG : HasErr G) (H : AHeap) :
    Does Tryz.prog G 317 [.str s, .int .i64 10, .int .i64 64] H fun r H' => (if numVal s < 9223372036854775808 then r = .tuple [.int .i64 (numVal s), .niliface] ∧ H' = H else r = .tuple [.int .i64 9223372036854775807, .iface 476 (.ptr H.next 0)] ∧ ∃ cs, H' = H.push (.cells cs)) := by
  refine does_f Tryz.call317 Tryz.func317 rfl (by simp [Tryz.f317]) ?_
  simp
  refine does_use (parseInt s hd hs hl H) ?_
  rintro _ _ ⟨rfl, rfl⟩
  unfold intOf
  by_cases h : numVal s < 9223372036854775808
  · rw [if_pos h]
    simp [h]
  · rw [if_neg h]
    simp [h]
    refine does_use (toError s _ hl hG _) ?_
    rintro _ _ ⟨rfl, cs, rfl⟩
    simp
    exact ⟨by omega, cs, rfl⟩
def numN (s : Bs) : Int := if numVal s < 9223372036854775808 then numVal s else 9223372036854775807
def numOk (s : Bs) : Bool := decide (numVal s < 9223372036854775808) && (decide (s.length = 1) || decide (s.head? ≠ some 48))
set_option maxRecDepth 100000 in
theorem number_does (s : Bs) (hd : ∀ b ∈ s, isDigit b = true) (hs : s ≠ []) (hl : s.length ≤ 1000000) (hG : HasErr G) (H : AHeap) :
    Does Tryz.prog G 272 [.str s] H fun r H' => r = .tuple [.agg [.int .i64 3, .str s, .int .i64 (numN s), .int .i64 0], .bool (numOk s)] ∧ H' = H := by
  refine Does.forgot (R := fun r H' => r = .tuple [.agg [.int .i64 3, .str s, .int .i64 (numN s), .int .i64 0], .bool (numOk s)] ∧ ∀ j x, H.get j = some x → H'.get j = some x) ?_ ?_
  · refine Does.wf Tryz.call272 fun hw _ => ?_
    have old : ∀ j x, H.get j = some x → j ≠ H.next ∧ j ≠ H.next + 1 := fun j x hj => by have := next_lt hw hj; omega
    refine does_f Tryz.call272 Tryz.func272 rfl (by simp [Tryz.f272]) ?_
    simp
    refine does_use (parseInt' s hd hs hl hG _) ?_
    rintro r H1 hr
    obtain ⟨c, q, rfl⟩ : ∃ c q, s = c :: q := by
      cases s with
      | nil => exact absurd rfl hs
      | cons c q => exact ⟨c, q, rfl⟩
    have h0 : (0 : Int) < q.length + 1 := by omega
    have hg : (if numVal (c :: q) < 9223372036854775808 then r = .tuple [.int .i64 (numVal (c :: q)), .niliface] else ∃ i, r = .tuple [.int .i64 9223372036854775807, .iface 476 (.ptr i 0)]) ∧ H1.get H.next = some (.cells [.int .i64 0, .str [], .int .i64 0, .int .i64 0]) ∧ ∀ j x, H.get j = some x → H1.get j = some x := by
      by_cases h : numVal (c :: q) < 9223372036854775808
      · rw [if_pos h] at hr ⊢
        obtain ⟨rfl, rfl⟩ := hr
        exact ⟨rfl, by simp, fun j x hj => by simp [hj, old j x hj]⟩
      · rw [if_neg h] at hr ⊢
        obtain ⟨rfl, cs, rfl⟩ := hr
        exact ⟨⟨_, rfl⟩, by simp, fun j x hj => by simp [hj, old j x hj]⟩
    clear hr
    obtain ⟨hr, hf, hk⟩ := hg
    have fin : ∀ j x, H.get j = some x → ∀ cs, (H1.set H.next (.cells cs)).get j = some x := fun j x hj cs => by
      simp only [AHeap.get_set]
      rw [if_neg (old j x hj).1]; exact hk j x hj
    by_cases h : numVal (c :: q) < 9223372036854775808
    · rw [if_pos h] at hr
      subst hr
      simp
      refine aw_drawn [] mixedOrders (by kernel_rfl) ?_
      intro es hes
      by_cases hq : q = []
      · subst hq
        simp [hf, rds]
        refine ⟨?_, ?_, fun j x hj => ?_⟩
        · subst hes
          exact ⟨by kernel_rfl, by kernel_rfl⟩
        · simp [numN, numOk, h]
        · simp [old j x hj, hk j x hj]
      · have hq0 : q.length ≠ 0 := by simpa using hq
        have hq1 : ¬ ((q.length : Int) + 1 = 1) := by omega
        have hq2 : ((c.toNat : Int) = 48) ↔ c = 48 := by
          constructor
          · intro e
            have e1 : c.toNat = (48 : UInt8).toNat := by simpa using (by omega : c.toNat = 48)
            exact UInt8.toNat_inj.1 e1
          · rintro rfl; rfl
        simp [hf, rds, hq, hq1, h0]
        refine ⟨?_, ?_, fun j x hj => ?_⟩
        · subst hes
          exact ⟨by kernel_rfl, by kernel_rfl⟩
        · have hq3 : ((c.toNat : Int) != 48) = !decide (c = 48) := by
            rw [Bool.eq_iff_iff]
            simp [hq2]
          simp [numN, numOk, h, hq, hq3]
        · simp [old j x hj, hk j x hj]
    · rw [if_neg h] at hr
      obtain ⟨i, rfl⟩ := hr
      simp
      refine aw_drawn [] mixedOrders (by kernel_rfl) ?_
      intro es hes
      simp [hf, rds]
      refine ⟨?_, ?_, fun j x hj => ?_⟩
      · subst hes
        exact ⟨by kernel_rfl, by kernel_rfl⟩
      · simp [numN, numOk, h]
      · simp [old j x hj, hk j x hj]
  · rintro hw ha r H1 ⟨rfl, h⟩
    exact ⟨h, rfl, rfl, rfl⟩
end Go.Proofs.YtekbjlihciedjaaGreatDoor

namespace Go.Proofs.YtekbjlihciedjaaGreatDoor
open Go Go.Abs Go.Lex
variable {G : Nat → Option AV}
def lettersL : Bs := [97,98,99,100,101,102,103,104,105,106,107,108,109,110,111,112,113,114,115,116,117,118,119,120,121,122]
def digitsL : Bs := [48,49,50,51,52,53,54,55,56,57]
def namesL : Bs := [97,98,99,100,101,102,103,104,105,106,107,108,109,110,111,112,113,114,115,116,117,118,119,120,121,122,48,49,50,51,52,53,54,55,56,57,95]
theorem byAll (p q : UInt8 → Bool) (h : ∀ n : Fin 256, p (UInt8.ofNat n.val) = q (UInt8.ofNat n.val)) (b : UInt8) : p b = q b := by
  have := h ⟨b.toNat, b.toNat_lt⟩
  simpa using this
theorem letters_eq (b : UInt8) : lettersL.contains b = isLetter b := byAll _ _ (by decide +kernel) b
theorem digits_eq (b : UInt8) : digitsL.contains b = isDigit b := byAll _ _ (by decide +kernel) b
theorem names_eq (b : UInt8) : namesL.contains b = isNamec b := byAll _ _ (by decide +kernel) b
theorem take_takeWhile (p : UInt8 → Bool) (s : Bs) : s.take (s.takeWhile p).length = s.takeWhile p := by
  have := List.takeWhile_prefix p (l := s)
  rw [List.prefix_iff_eq_take] at this
  exact this.symm
def wdCells (w : Wd) (i : Nat) : List AV := [.int .i64 w.kind, .str w.text, .int .i64 w.n, .int .i64 i]
def WordIs (s : Bs) (r : AV) : Prop := match wordS s with
  | some w => r = .tuple [.agg (wdCells w 0), .bool true]
  | none => ∃ k t n, r = .tuple [.agg [.int .i64 k, .str t, .int .i64 n, .int .i64 0], .bool false]
set_option maxRecDepth 100000 in
theorem word_does (c : UInt8) (q : Bs) (hl : (c :: q).length ≤ 1000000) (hG : HasErr G) (H : AHeap) : Does Tryz.prog G 224 [.str (c :: q)] H fun r H' => WordIs (c :: q) r ∧ H' = H := by
  refine Does.forgot (R := fun r H' => WordIs (c :: q) r ∧ ∀ j x, H.get j = some x → H'.get j = some x) ?_ ?_
  · refine Does.wf Tryz.call224 fun hw _ => ?_
    have old : ∀ j x, H.get j = some x → j ≠ H.next ∧ j ≠ H.next + 1 := fun j x hj => by have := next_lt hw hj; omega
    refine does_f Tryz.call224 Tryz.func224 rfl (by simp [Tryz.f224]) ?_
    have m1 : (1 : Int) ≤ q.length + 1 := by omega
    simp [m1]
    refine does_use (contains1 lettersL c _) ?_
    rintro _ _ ⟨rfl, rfl⟩
    rw [letters_eq]
    cases hL : isLetter c with
    | true =>
      simp
      refine does_use (while_does (c :: q) namesL isNamec names_eq (by decide) (by decide) (by decide) hl _) ?_
      rintro _ _ ⟨rfl, rfl⟩
      have ht := take_takeWhile isNamec (c :: q)
      have hle : ((c :: q).takeWhile isNamec).length ≤ (c :: q).length := (List.takeWhile_prefix isNamec).length_le
      obtain ⟨t, htt⟩ : ∃ t, t = (c :: q).takeWhile isNamec := ⟨_, rfl⟩
      rw [← htt] at ht hle ⊢
      simp only [List.length_cons] at hle
      have hle' : (t.length : Int) ≤ q.length + 1 := by omega
      simp [hle, hle', ht]
      refine does_use (kept_does t _) ?_
      rintro _ _ ⟨rfl, rfl⟩
      cases hk : kept t with
      | true =>
        simp
        refine ⟨?_, ?_⟩
        · simp [WordIs, wordS, hL, ← htt, hk, wdCells]
        · intro j x hj
          simp [hj, old j x hj]
      | false =>
        simp
        refine ⟨?_, ?_⟩
        · by_cases h24 : t.length ≤ 24
          · have : (t.length : Int) ≤ 24 := by omega
            simp [WordIs, wordS, hL, ← htt, hk, wdCells, h24, this]
          · have : ¬ (t.length : Int) ≤ 24 := by omega
            simp [WordIs, wordS, hL, ← htt, hk, wdCells, h24, this]
        · intro j x hj
          simp [hj, old j x hj]
    | false =>
      simp
      refine does_use (contains1 digitsL c _) ?_
      rintro _ _ ⟨rfl, rfl⟩
      rw [digits_eq]
      cases hD : isDigit c with
      | true =>
        simp
        refine does_use (while_does (c :: q) digitsL isDigit digits_eq (by decide) (by decide) (by decide) hl _) ?_
        rintro _ _ ⟨rfl, rfl⟩
        have ht := take_takeWhile isDigit (c :: q)
        have hle : ((c :: q).takeWhile isDigit).length ≤ (c :: q).length := (List.takeWhile_prefix isDigit).length_le
        have hall : ∀ b ∈ (c :: q).takeWhile isDigit, isDigit b = true := fun b hb => List.all_eq_true.1 (List.all_takeWhile) b hb
        have hcons : (c :: q).takeWhile isDigit = c :: q.takeWhile isDigit := by rw [List.takeWhile_cons, if_pos hD]
        obtain ⟨t, htt⟩ : ∃ t, t = (c :: q).takeWhile isDigit := ⟨_, rfl⟩
        rw [← htt] at ht hle hall hcons ⊢
        simp only [List.length_cons] at hle hl
        have hle' : (t.length : Int) ≤ q.length + 1 := by omega
        simp [hle, hle', ht]
        refine does_use (number_does t hall (by rw [hcons]; simp) (by omega) hG _) ?_
        rintro _ _ ⟨rfl, rfl⟩
        simp
        refine ⟨?_, ?_⟩
        · have hh : t.head? = some c := by rw [hcons]; rfl
          unfold WordIs wordS numOk numN
          simp only [hL, hD, ← htt, hh]
          by_cases g1 : numVal t < 9223372036854775808
          · by_cases g2 : t.length = 1 ∨ c ≠ 48
            · rcases g2 with g2 | g2 <;> simp [g1, g2, wdCells]
            · simp only [not_or] at g2
              simp [g1, g2.1, Decidable.not_not.1 g2.2]
          · simp [g1]
        · intro j x hj
          simp [hj, old j x hj]
      | false =>
        simp
        refine does_use (sign_does (c :: q) _) ?_
        rintro r _ ⟨hr, rfl⟩
        cases hs : signOf (c :: q) with
        | some t =>
          rw [hs] at hr
          simp only at hr
          subst hr
          simp
          refine ⟨?_, ?_⟩
          · simp [WordIs, wordS, hL, hD, hs, wdCells]
          · intro j x hj
            simp [hj, old j x hj]
        | none =>
          rw [hs] at hr
          simp only at hr
          subst hr
          simp
          refine ⟨?_, ?_⟩
          · simp [WordIs, wordS, hL, hD, hs, wdCells]
          · intro j x hj
            simp [hj, old j x hj]
  · rintro hw ha r H1 ⟨hr, h⟩
    refine ⟨h, ?_, hr, rfl⟩
    unfold WordIs at hr
    split at hr
    · subst hr; rfl
    · obtain ⟨k, t, n, rfl⟩ := hr; rfl
end Go.Proofs.YtekbjlihciedjaaGreatDoor

namespace Go.Proofs.YtekbjlihciedjaaGreatDoor
open Go Go.Abs Go.Lex
variable {G : Nat → Option AV}
def flatW : List (Nat × Wd) → List AV
  | [] => []
  | (i, w) :: l => wdCells w i ++ flatW l
theorem flatW_append (a b : List (Nat × Wd)) : flatW (a ++ b) = flatW a ++ flatW b := by
  induction a with
  | nil => rfl
  | cons x a ih => obtain ⟨i, w⟩ := x; simp [flatW, ih]
@[simp] theorem wdCells_length (w : Wd) (i : Nat) : (wdCells w i).length = 4 := rfl
@[simp] theorem flatW_length (l : List (Nat × Wd)) : (flatW l).length = l.length * 4 := by
  induction l with
  | nil => rfl
  | cons x l ih => obtain ⟨i, w⟩ := x; simp [flatW, ih]; omega
def cutAns (t : Bs) : AV := if 16384 < t.length then .tuple [.nilsl, .agg [.int .i64 2, .int .i64 t.length]] else match cutS t.length t with
  | .ok l => .tuple [.vsl (flatW l ++ [.int .i64 0, .str [], .int .i64 0, .int .i64 t.length]) (l.length + 1), .agg [.int .i64 0, .int .i64 0]]
  | .error e => .tuple [.nilsl, .agg [.int .i64 7, .int .i64 e]]
def Wrds (H : AHeap) (lo : Nat) (x : AV) (ws : List (Nat × Wd)) : Prop := (x = .nilsl ∧ ws = []) ∨ ∃ b, x = .sl b 0 4 ws.length ws.length true ∧ lo ≤ b ∧ H.get b = some (.cells (flatW ws))
def CutR (H : AHeap) (t : Bs) (r : AV) (H1 : AHeap) : Prop := (∀ j x, H.get j = some x → H1.get j = some x) ∧
  (if 16384 < t.length then r = .tuple [.nilsl, .agg [.int .i64 2, .int .i64 t.length]] else match cutS t.length t with
  | .ok l => ∃ b, H.next ≤ b ∧ r = .tuple [.sl b 0 4 (l.length + 1) (l.length + 1) true, .agg [.int .i64 0, .int .i64 0]] ∧ H1.get b = some (.cells (flatW l ++ [.int .i64 0, .str [], .int .i64 0, .int .i64 t.length]))
  | .error e => r = .tuple [.nilsl, .agg [.int .i64 7, .int .i64 e]])
theorem CutR.okEnd {H : AHeap} {t : Bs} {ws : List (Nat × Wd)} {H2 : AHeap} {b : Nat} (hL : ¬ 16384 < t.length) (hc : cutS t.length t = .ok ws) (hb : H.next ≤ b)
    (hg : H2.get b = some (.cells (flatW ws ++ [.int .i64 0, .str [], .int .i64 0, .int .i64 t.length]))) (hk : ∀ j x, H.get j = some x → H2.get j = some x) :
    CutR H t (.tuple [.sl b 0 4 (ws.length + 1) (ws.length + 1) true, .agg [.int .i64 0, .int .i64 0]]) H2 := by
  refine ⟨hk, ?_⟩
  rw [if_neg hL, hc]
  exact ⟨b, hb, rfl, hg⟩
theorem CutR.badEnd {H : AHeap} {t : Bs} {e : Nat} {H2 : AHeap} (hL : ¬ 16384 < t.length) (hc : cutS t.length t = .error e) (hk : ∀ j x, H.get j = some x → H2.get j = some x) :
    CutR H t (.tuple [.nilsl, .agg [.int .i64 7, .int .i64 e]]) H2 := by
  refine ⟨hk, ?_⟩
  rw [if_neg hL, hc]
set_option maxRecDepth 100000 in
theorem cut_live (t : Bs) (hG : HasErr G) (H : AHeap) (hbig : t.length < 9223372036854775808) : Does Tryz.prog G 172 [.str t] H (CutR H t) := by
  refine Does.wf Tryz.call172 fun hw _ => ?_
  have old : ∀ j x, H.get j = some x → j < H.next := fun j x hj => next_lt hw hj
  refine does_f Tryz.call172 Tryz.func172 rfl (by simp [Tryz.f172]) ?_
  by_cases hL : 16384 < t.length
  · have hL' : (16384 : Int) < t.length := by omega
    simp [hL']
    refine ⟨fun j x hj => ?_, by simp [hL]⟩
    have := old j x hj
    have h1 : j ≠ H.next := by omega
    simp [hj, h1]
  · have hL' : ¬ (16384 : Int) < t.length := by omega
    simp [hL']
    refine does_use (between_does t (by omega) _) ?_
    rintro _ _ ⟨⟨n, rfl, hn, hbn⟩, rfl⟩
    simp
    refine aws_loopw (fun m T' H' => ∃ (ws : List (Nat × Wd)) (rest : Bs) (n : Nat), cutS t.length t = aheadW ws (cutS t.length rest) ∧ n ≤ t.length ∧ t.drop n = betw rest ∧ m = t.length - n ∧ ws.length ≤ n ∧
      T' 0 = .str t ∧ T' 3 = .ptr H.next 0 ∧ T' 5 = .int .i64 n ∧ Wrds H' (H.next + 1) (T' 4) ws ∧ H'.get H.next = some (.cells [.int .i64 0, .int .i64 0]) ∧ (∀ j x, H.get j = some x → H'.get j = some x)) (t.length - n) ?_ ?_
    · refine ⟨[], t, n, ?_, hn, hbn, rfl, by simp, by simp, by simp, by simp, .inl ⟨by simp, rfl⟩, by simp, fun j x hj => ?_⟩
      · cases cutS t.length t <;> rfl
      · have := old j x hj
        have h1 : j ≠ H.next := by omega
        simp [hj, h1]
    rintro m T H1 ⟨ws, rest, n, hcut, hn, hbn, rfl, hws, h0, h3, h5, h4, hf, hkeep⟩ hw1 _
    have oldn : ∀ j x, H1.get j = some x → j < H1.next := fun j x hj => next_lt hw1 hj
    have hfn := oldn _ _ hf
    have hne : H.next ≠ H1.next := by omega
    have hne2 : H.next ≠ H1.next + 1 := by omega
    have hne3 : H.next ≠ H1.next + 1 + 1 := by omega
    have hgrow : ¬ (ws.length + 1 ≤ ws.length) := by omega
    have hws' : ws.length ≤ 16384 := by omega
    by_cases hend : n = t.length
    · subst hend
      have hnil : betw rest = [] := by rw [← hbn]; simp
      have hc : cutS t.length t = .ok ws := by rw [hcut, cutS_end hnil]; simp [aheadW]
      have hfin : ∀ j x, H.get j = some x → H1.get j = some x ∧ j ≠ H.next ∧ j ≠ H1.next ∧ j ≠ H1.next + 1 := fun j x hj => by
        have := old j x hj
        have := oldn j x (hkeep j x hj)
        exact ⟨hkeep j x hj, by omega, by omega, by omega⟩
      rcases h4 with ⟨h4, rfl⟩ | ⟨b, h4, hlo, hb⟩
      · simp [h0, h3, h4, h5, hf, hne, hne2, hne3]
        refine CutR.okEnd hL hc (by omega) (by simp [flatW, Ne.symm hne2]) fun j x hj => ?_
        obtain ⟨k1, k2, k3, k4⟩ := hfin j x hj
        simp [k1, k2, k3, k4]
      · have hbn' := oldn _ _ hb
        have hb1 : b ≠ H1.next := by omega
        have hb2 : H.next ≠ b := by omega
        have hl1 : (ws.length + 1) * 40 ≤ 140737488355328 := by omega
        have hl2 : ws.length ≤ 4611686018427387903 := by omega
        simp [h0, h3, h4, h5, hf, hne, hne2, hne3, hb, hb1, hb2, hgrow, hl1, hl2]
        have htk : List.take (ws.length * 4) (flatW ws) = flatW ws := by rw [List.take_of_length_le]; simp
        rw [htk]
        refine CutR.okEnd hL hc (by omega) (by simp [Ne.symm hne2]) fun j x hj => ?_
        obtain ⟨k1, k2, k3, k4⟩ := hfin j x hj
        have := old j x hj
        have k5 : j ≠ b := by omega
        simp [k1, k2, k3, k4, k5]
    · have hlt : (n : Int) < t.length := by omega
      have hn' : (n : Int) ≤ t.length := by omega
      obtain ⟨c, q, hcq⟩ : ∃ c q, t.drop n = c :: q := by
        cases h : t.drop n with
        | nil => rw [List.drop_eq_nil_iff] at h; omega
        | cons c q => exact ⟨c, q, rfl⟩
      have hlen : (c :: q).length = t.length - n := by rw [← hcq]; simp
      rw [hcq] at hbn
      have htk0 : List.take (t.length - n) (c :: q) = c :: q := by rw [List.take_of_length_le]; omega
      simp [h0, h3, h4, h5, hf, hlt, hn, hn', hcq, htk0]
      refine does_use (word_does c q (by omega) hG _) ?_
      rintro r H2 ⟨hr, e⟩
      subst e
      have hkeep2 : ∀ j x, H.get j = some x → H2.get j = some x ∧ j ≠ H.next ∧ j ≠ H2.next ∧ j ≠ H2.next + 1 ∧ j ≠ H2.next + 1 + 1 := fun j x hj => by
        have := old j x hj
        have := oldn j x (hkeep j x hj)
        exact ⟨hkeep j x hj, by omega, by omega, by omega, by omega⟩
      unfold WordIs at hr
      cases hwd : wordS (c :: q) with
      | none =>
        rw [hwd] at hr
        simp only at hr
        obtain ⟨k, tx, nn, rfl⟩ := hr
        have hc : cutS t.length t = .error n := by
          rw [hcut, cutS_bad hbn.symm hwd, hlen]
          simp only [aheadW]
          congr 1
          omega
        simp [h0, h3, h4, h5, hf, hne]
        refine CutR.badEnd hL hc fun j x hj => ?_
        obtain ⟨k1, k2, k3, k4, k5⟩ := hkeep2 j x hj
        simp [k1, k2, k3]
      | some w =>
        rw [hwd] at hr
        simp only at hr
        subst hr
        obtain ⟨hpre, htne⟩ := wordS_text hwd
        have hwl : w.text.length ≤ (c :: q).length := hpre.length_le
        have hwl0 : w.text.length ≠ 0 := by simpa using htne
        rw [hlen] at hwl
        have hw1 : IntKind.i64.wrap ((n : Int) + w.text.length) = ((n + w.text.length : Nat) : Int) := by rw [IntWalk.i64_in _ (by omega)]; omega
        have hn2 : ((n + w.text.length : Nat) : Int) ≤ t.length := by omega
        have hn3 : n + w.text.length ≤ t.length := by omega
        have hrest : t.drop (n + w.text.length) = (c :: q).drop w.text.length := by rw [← List.drop_drop, hcq]
        obtain ⟨n2, hn2'⟩ : ∃ n2, n2 = n + w.text.length := ⟨_, rfl⟩
        rw [← hn2'] at hw1 hn2 hn3 hrest
        have hcut2 : cutS t.length t = aheadW (ws ++ [(n, w)]) (cutS t.length (t.drop n2)) := by
          rw [hcut, cutS_word hbn.symm hwd, hrest, hlen]
          have e : t.length - (t.length - n) = n := by omega
          rw [e]
          cases cutS t.length ((c :: q).drop w.text.length) <;> simp [aheadW]
        rcases h4 with ⟨h4, rfl⟩ | ⟨b, h4, hlo, hb⟩
        · simp [h0, h3, h4, h5, hf, hne, hne2, hne3, wdCells, hw1, hn2, hn3]
          refine does_use (between_does (t.drop n2) (by simp; omega) _) ?_
          rintro _ _ ⟨⟨k, rfl, hk, hk2⟩, rfl⟩
          simp only [List.length_drop] at hk
          have hw2 : IntKind.i64.wrap ((n2 : Int) + k) = ((n2 + k : Nat) : Int) := by rw [IntWalk.i64_in _ (by omega)]; omega
          simp [h0, h3, h4, h5, hf, hne, hne2, hne3, hw2]
          refine ⟨t.length - (n2 + k), by omega, [(n, w)], t.drop n2, by simpa using hcut2, n2 + k, by omega, by rw [← List.drop_drop]; exact hk2, rfl, by simp; omega, by omega, .inr ⟨H2.next + 1 + 1, rfl, by omega, by simp [flatW, wdCells]⟩, fun j x hj => ?_⟩
          obtain ⟨k1, k2, k3, k4, k5⟩ := hkeep2 j x hj
          simp [k1, k3, k4, k5]
        · have hbn' := oldn _ _ hb
          have hb1 : b ≠ H2.next := by omega
          have hb2 : H.next ≠ b := by omega
          have hb3 : b ≠ H2.next + 1 := by omega
          have hl1 : (ws.length + 1) * 40 ≤ 140737488355328 := by omega
          have hl2 : ws.length ≤ 4611686018427387903 := by omega
          have hb4 : H2.next ≠ b := Ne.symm hb1
          have hb5 : H2.next ≠ H2.next + 1 + 1 := by omega
          have htk : List.take (ws.length * 4) (flatW ws) = flatW ws := by rw [List.take_of_length_le]; simp
          simp [h0, h3, h4, h5, hf, hne, hne2, hne3, wdCells, hw1, hn2, hn3, hb, hb1, hb2, hb3, hb4, hb5, hgrow, hl1, hl2, htk]
          refine does_use (between_does (t.drop n2) (by simp; omega) _) ?_
          rintro _ _ ⟨⟨k, rfl, hk, hk2⟩, rfl⟩
          simp only [List.length_drop] at hk
          have hw2 : IntKind.i64.wrap ((n2 : Int) + k) = ((n2 + k : Nat) : Int) := by rw [IntWalk.i64_in _ (by omega)]; omega
          simp [h0, h3, h4, h5, hf, hne, hne2, hne3, hw2]
          refine ⟨t.length - (n2 + k), by omega, ws ++ [(n, w)], t.drop n2, hcut2, n2 + k, by omega, by rw [← List.drop_drop]; exact hk2, rfl, by simp; omega, by omega, .inr ⟨H2.next + 1 + 1, by simp, by omega, by simp [flatW_append, flatW, wdCells]⟩, hb2, fun j x hj => ?_⟩
          obtain ⟨k1, k2, k3, k4, k5⟩ := hkeep2 j x hj
          have := old j x hj
          have k6 : j ≠ b := by omega
          simp [k1, k3, k4, k5, k6]
theorem flatW_lt (n : Nat) : ∀ l : List (Nat × Wd), AV.allLt n (flatW l) = true
  | [] => rfl
  | (i, w) :: l => by simp [flatW, wdCells, AV.allLt, AV.idLt, flatW_lt n l]
theorem allLt_app (n : Nat) (a b : List AV) : AV.allLt n (a ++ b) = (AV.allLt n a && AV.allLt n b) := AV.allLt_append a b
theorem cut_does (t : Bs) (hG : HasErr G) (H : AHeap) (hbig : t.length < 9223372036854775808) : Does Tryz.prog G 172 [.str t] H fun r H' => r = cutAns t ∧ H' = H := by
  by_cases hL : 16384 < t.length
  · refine Does.forgot (cut_live t hG H hbig) ?_
    rintro hw ha r H1 ⟨hk, hr⟩
    rw [if_pos hL] at hr
    subst hr
    exact ⟨hk, rfl, by simp [cutAns, hL], rfl⟩
  · cases hc : cutS t.length t with
    | error e =>
      refine Does.forgot (cut_live t hG H hbig) ?_
      rintro hw ha r H1 ⟨hk, hr⟩
      rw [if_neg hL, hc] at hr
      simp only at hr
      subst hr
      exact ⟨hk, rfl, by simp [cutAns, hL, hc], rfl⟩
    | ok l =>
      refine Does.frozen (cut_live t hG H hbig) ?_
      rintro hw ha r H1 ⟨hk, hr⟩
      rw [if_neg hL, hc] at hr
      obtain ⟨b, hb, rfl, hg⟩ := hr
      refine ⟨b, _, hb, hg, hk, ?_, ?_, rfl⟩
      · simp [AV.frz, AV.frzs, AV.idLt, AV.allLt]
        rw [List.take_of_length_le (by simp; omega)]
        simp [allLt_app, flatW_lt, AV.allLt, AV.idLt]
      · simp [AV.frz, AV.frzs, cutAns, hL, hc]
        rw [List.take_of_length_le (by simp; omega)]
end Go.Proofs.YtekbjlihciedjaaGreatDoor

namespace Go.Proofs.YtekbjlihciedjaaGreatDoor
open Go Go.Abs Go.Lex
def isErrCell : Option AV → Bool
  | some (.vptr [.iface _ _]) => true
  | _ => false
theorem errCell : isErrCell (Gof tab 2) = true := by kernel_rfl
theorem hasErr : HasErr (Gof tab) := by
  have h := errCell
  unfold isErrCell at h
  split at h
  · rename_i t v he; exact ⟨t, v, he⟩
  · simp at h
end Go.Proofs.YtekbjlihciedjaaGreatDoor

namespace Go.Proofs.YtekbjlihciedjaaGreatDoor
open Go Go.Abs Go.Lex
theorem flatW_cellsW (l : List (Nat × Wd)) : flatW l = cellsW l := by
  induction l with
  | nil => rfl
  | cons x l ih =>
    obtain ⟨i, w⟩ := x
    simp only [flatW, cellsW, ih, wdCells]
theorem cutAns_eq (t : Bs) : cutAns t = cutA t := by
  unfold cutAns cutA
  split
  · rfl
  · cases cutS t.length t with
    | ok l => simp only [flatW_cellsW]
    | error e => rfl
theorem cutOv_good (args : List AV) (H : FH) (k : AV → FH → Bool) (h : cutOv args H k = true) :
    ∃ v H', Does Tryz.prog (Gof tab) 172 args H.abs (fun r h => r = v ∧ h = FH.abs H') ∧ H.next ≤ H'.next ∧ k v H' = true := by
  obtain ⟨s, rfl, hl, hk⟩ := cutOv_inv h
  exact ⟨_, H, (cut_does s hasErr H.abs (by omega)).mono fun r h hr => ⟨hr.1.trans (cutAns_eq s), hr.2⟩, Nat.le_refl _, hk⟩
noncomputable def knownC : Ov := ovAdd 172 cutOv known
theorem knownC_good : OvGoodK Tryz.prog (Gof tab) knownC := ovAdd_good cutOv_good (known_good _)
end Go.Proofs.YtekbjlihciedjaaGreatDoor

namespace Go.Proofs.YtekbjlihciedjaaGreatDoor
open Go Go.Abs Go.RowKit
noncomputable def knownW : Ov := knownC
theorem knownW_good : OvGoodK Tryz.prog (Gof tab) knownW := knownC_good
end Go.Proofs.YtekbjlihciedjaaGreatDoor

namespace Go.Proofs.YtekbjlihciedjaaGreatDoor
open Go Go.Abs Go.RowKit
noncomputable def knownP : Ov := knownW
theorem knownP_good : OvGoodK Tryz.prog (Gof tab) knownP := knownW_good
end Go.Proofs.YtekbjlihciedjaaGreatDoor

namespace Go.Proofs.YtekbjlihciedjaaGreatDoor
open Go Go.Abs Go.Lex
set_option maxRecDepth 100000
theorem gof_low5 : ∀ (T : List (Nat × List AV)), (T.all fun p => (AV.vptr p.2).idLt 0) = true → ∀ g a, Gof T g = some a → a.idLt 0 = true
  | [], _, g, a, ha => by simp [Gof] at ha
  | (h, l) :: r, hT, g, a, ha => by
    simp only [List.all_cons, Bool.and_eq_true] at hT
    simp only [Gof] at ha
    split at ha
    · cases ha; exact hT.1
    · exact gof_low5 r hT.2 g a ha
theorem mixed5 : Tryz.prog.follows .mixedOrders = true := by kernel_rfl
theorem plain5 : plainFn Tryz.prog = true := by kernel_rfl
theorem gof_tab5 : ∀ g a, Gof tab g = some a → a.idLt 0 = true := gof_low5 tab (by kernel_rfl)
end Go.Proofs.YtekbjlihciedjaaGreatDoor
