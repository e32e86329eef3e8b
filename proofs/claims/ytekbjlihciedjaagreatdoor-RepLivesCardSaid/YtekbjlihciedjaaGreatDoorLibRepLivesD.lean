/-
  Own library of this claim, part 4: texts one behind the other.
-/
import Derived.Test.YtekbjlihciedjaaGreatDoorLibRepLivesC
set_option maxRecDepth 100000
set_option maxHeartbeats 8000000
set_option linter.unusedVariables false
set_option linter.unusedSimpArgs false
namespace Go.Proofs.YtekbjlihciedjaaGreatDoor
open Go Go.Abs Go.Rp
variable {G : Nat -> Option AV}
theorem rdU_does {H : AHeap} {k : Nat} {r : Rd} (hk : RdAt H k r) (hl : r.b.length <= 1000000000) : Does Tryz.prog G 62 [.ptr k 0] H fun x h => x = .int .u64 r.U.1 /\ RdTo H h k r.U.2 := by
 obtain ⟨v, hv, hk⟩ := hk
 obtain ⟨b, bad⟩ := r
 simp only at hv hk hl
 refine zad Tryz.call62 Tryz.func62 rfl (by simp [Tryz.f62]) ?_
 simp
 refine zaE (fun m T' H' => ∃ i a : Nat, i + m = 9 /\ H' = H /\ T' 0 = .ptr k 0 /\ T' 6 = .int .i64 i /\ T' 3 = .int .u64 a /\ a < 2 ^ (7 * i) /\ rdU b = rdGo i a (b.drop i)) 9 ?_ ?_
 · exact ⟨0, 0, rfl, rfl, by simp, by simp, by simp, by simp, rfl⟩
 rintro m T H1 ⟨i, a, him, rfl, t0, t6, t3, ha, hr⟩
 have i10 : (i : Int) < 10 := by omega
 by_cases hi : i < b.length
 · obtain ⟨ts, rfl⟩ : ∃ ts, v = .vsl (strCs b ++ ts) b.length := by
    rcases hv with ⟨_, h⟩ | h
    · rw [h] at hi; simp at hi
    · exact h
   have hi' : ¬ b.length <= i := by omega
   have hii : (i : Int) < b.length := by omega
   have he : b[i]? = some b[i] := List.getElem?_eq_getElem hi
   have hd : b.drop i = b[i] :: b.drop (i + 1) := List.drop_eq_getElem_cons hi
   generalize b[i] = x at he hd
   rw [hd, rdGo] at hr
   have hcs : (strCs b ++ ts)[i]? = some (.int .u8 x.toNat) := by
    rw [List.getElem?_append_left (by rw [zae]; exact hi)]
    simp [strCs, he]
   have hx := x.toNat_lt
   obtain ⟨s, hs⟩ : ∃ s, s = 7 * i := ⟨_, rfl⟩
   obtain ⟨p, hp⟩ : ∃ p, p = x.toNat % 128 := ⟨_, rfl⟩
   have w1 : IntKind.i64.wrap (7 * (i : Int)) = (s : Int) := by rw [IntWalk.i64_in _ (by omega)]; omega
   have w2 : ¬ (s : Int) < 0 := by omega
   have w3 := and127 hx
   rw [<- hp] at w3
   have w4 : IntKind.u64.wrap (p : Int) = (p : Int) := IntWalk.u64_in _ (by omega)
   by_cases hA : i = 9 /\ 1 < x.toNat
   · rw [if_pos hA] at hr
     have h9 : decide ((i : Int) = 9) = true := by simp; omega
     have hx1' : (1 : Int) < x.toNat := by omega
     simp [t0, t6, t3, hk, i10, hi', hii, hcs, hx1', h9]
     refine zab (spoil_does hk) ?_
     rintro r h rfl
     have e : Rd.U ⟨b, bad⟩ = (0, ⟨[], true⟩) := by simp [Rd.U, hr]
     simp [e]
     exact ⟨.nilsl, .nil, rfl⟩
   rw [if_neg hA] at hr
   have hsm := rd_small (i := i) (by omega) hx hA
   have w5 := rd_shl (i := i) (by omega) hsm
   obtain ⟨w6, w7⟩ := rd_or (i := i) (by omega) ha hsm
   rw [<- hp, <- hs] at hsm w5 w6 w7
   rw [<- hs] at hr ha
   generalize hq : p * 2 ^ s = q at hsm w5 w6 w7
   have hq' : (if 128 <= x.toNat then x.toNat - 128 else x.toNat) * 2 ^ s = q := by
    rw [<- hq]; congr 1; split <;> omega
   have wi : IntKind.i64.wrap ((i : Int) + 1) = ((i + 1 : Nat) : Int) := by rw [IntWalk.i64_in _ (by omega)]; omega
   by_cases hB : 128 <= x.toNat
   · rw [if_pos hB] at hr hq'
     rw [hq'] at hr
     have h9 : decide ((i : Int) = 9) = false := by simp; omega
     have w8 : (IntKind.u8.wrap ((x.toNat % 2 ^ IntKind.u8.bits &&& 128 % 2 ^ IntKind.u8.bits : Nat) : Int) != 0) = true := by rw [bne_iff_ne, ne_eq, and128 hx]; omega
     simp [t0, t6, t3, hk, i10, hi', hii, hcs, h9, w1, w2, w3, w4, w5, w6, w8, wi]
     have hp1 : p <= 127 := by omega
     have hlt : a + q < 2 ^ (7 * (i + 1)) := by
      rw [show 7 * (i + 1) = s + 7 by omega, Nat.pow_add, <- hq]
      have h1 : p * 2 ^ s <= 127 * 2 ^ s := Nat.mul_le_mul_right _ hp1
      omega
     exact ⟨m - 1, by omega, i + 1, by omega, by push_cast; rfl, a + q, by push_cast; rfl, hlt, hr⟩
   rw [if_neg hB] at hr hq'
   have w8 : (IntKind.u8.wrap ((x.toNat % 2 ^ IntKind.u8.bits &&& 128 % 2 ^ IntKind.u8.bits : Nat) : Int) = 0) := by rw [and128 hx]; omega
   by_cases hz : x.toNat = 0 /\ 0 < i
   · rw [if_pos hz] at hr
     have hz1 : decide (x.toNat = 0) = true := by simp; omega
     have hz2 := hz.2
     by_cases h9 : i = 9
     · skip
       have h9' : decide ((i : Int) = 9) = true := by simp; omega
       have hx1 : ¬ (1 : Int) < x.toNat := by omega
       simp [t0, t6, t3, hk, i10, hi', hii, hcs, h9', hx1, hz1, hz2, w1, w2, w3, w4, w5, w6, w8, wi]
       refine zab (spoil_does hk) ?_
       rintro r h rfl
       have e : Rd.U ⟨b, bad⟩ = (0, ⟨[], true⟩) := by simp [Rd.U, hr]
       simp [e]
       exact ⟨.nilsl, .nil, rfl⟩
     · skip
       have h9' : decide ((i : Int) = 9) = false := by simp; omega
       simp [t0, t6, t3, hk, i10, hi', hii, hcs, h9', hz1, hz2, w1, w2, w3, w4, w5, w6, w8, wi]
       refine zab (spoil_does hk) ?_
       rintro r h rfl
       have e : Rd.U ⟨b, bad⟩ = (0, ⟨[], true⟩) := by simp [Rd.U, hr]
       simp [e]
       exact ⟨.nilsl, .nil, rfl⟩
   rw [if_neg hz] at hr
   by_cases hz1 : x.toNat = 0
   · have hz2 : ¬ 0 < i := by omega
     have hz3 : decide (x.toNat = 0) = true := by simp; omega
     have h9 : ¬ i = 9 := by omega
     · skip
       have h9' : decide ((i : Int) = 9) = false := by simp; omega
       simp [t0, t6, t3, hk, i10, hi', hii, hcs, h9', hz3, hz2, w1, w2, w3, w4, w5, w6, w8, wi]
       rw [if_pos ⟨by omega, by omega⟩]
       rw [hq'] at hr
       have e : Rd.U ⟨b, bad⟩ = (a + q, ⟨b.drop (i + 1), bad⟩) := by simp [Rd.U, hr]
       by_cases hend : i + 1 < b.length
       · simp [hend, hk, e, t0]
         exact ⟨_, .inr ⟨ts, by rw [List.length_drop, <- drop_strCs (by omega)]⟩, rfl⟩
       · simp [hend, hk, e, t0]
         have e0 : b.drop (i + 1) = [] := List.drop_eq_nil_of_le (by omega)
         exact ⟨.vsl [] 0, .inr ⟨[], by rw [e0]; rfl⟩, rfl⟩
   · have hz3 : decide (x.toNat = 0) = false := by simp; omega
     by_cases h9 : i = 9
     · skip
       have h9' : decide ((i : Int) = 9) = true := by simp; omega
       have hx1 : ¬ (1 : Int) < x.toNat := by omega
       simp [t0, t6, t3, hk, i10, hi', hii, hcs, h9', hx1, hz3, w1, w2, w3, w4, w5, w6, w8, wi]
       rw [if_pos ⟨by omega, by omega⟩]
       rw [hq'] at hr
       have e : Rd.U ⟨b, bad⟩ = (a + q, ⟨b.drop (i + 1), bad⟩) := by simp [Rd.U, hr]
       by_cases hend : i + 1 < b.length
       · simp [hend, hk, e, t0]
         exact ⟨_, .inr ⟨ts, by rw [List.length_drop, <- drop_strCs (by omega)]⟩, rfl⟩
       · simp [hend, hk, e, t0]
         have e0 : b.drop (i + 1) = [] := List.drop_eq_nil_of_le (by omega)
         exact ⟨.vsl [] 0, .inr ⟨[], by rw [e0]; rfl⟩, rfl⟩
     · skip
       have h9' : decide ((i : Int) = 9) = false := by simp; omega
       simp [t0, t6, t3, hk, i10, hi', hii, hcs, h9', hz3, w1, w2, w3, w4, w5, w6, w8, wi]
       rw [if_pos ⟨by omega, by omega⟩]
       rw [hq'] at hr
       have e : Rd.U ⟨b, bad⟩ = (a + q, ⟨b.drop (i + 1), bad⟩) := by simp [Rd.U, hr]
       by_cases hend : i + 1 < b.length
       · simp [hend, hk, e, t0]
         exact ⟨_, .inr ⟨ts, by rw [List.length_drop, <- drop_strCs (by omega)]⟩, rfl⟩
       · simp [hend, hk, e, t0]
         have e0 : b.drop (i + 1) = [] := List.drop_eq_nil_of_le (by omega)
         exact ⟨.vsl [] 0, .inr ⟨[], by rw [e0]; rfl⟩, rfl⟩
 · have hi' : b.length <= i := by omega
   have hd : b.drop i = [] := List.drop_eq_nil_of_le hi'
   rw [hd, rdGo] at hr
   have hlv : alen Tryz.prog 22 v = some (.int .i64 b.length) := by
    rcases hv with ⟨rfl, rfl⟩ | ⟨ts, rfl⟩ <;> simp [alen]
   simp [t0, t6, t3, hk, i10, hi', hlv, -alen]
   refine zab (spoil_does hk) ?_
   rintro r h rfl
   have e : Rd.U ⟨b, bad⟩ = (0, ⟨[], true⟩) := by simp [Rd.U, hr]
   simp [e]
   exact ⟨.nilsl, .nil, rfl⟩
theorem rdI_does {H : AHeap} {k : Nat} {r : Rd} (hk : RdAt H k r) (hl : r.b.length <= 1000000000) : Does Tryz.prog G 70 [.ptr k 0] H fun x h => x = .int .i64 r.I.1 /\ RdTo H h k r.I.2 := by
 refine zad Tryz.call70 Tryz.func70 rfl (by simp [Tryz.f70]) ?_
 simp
 refine zab (rdU_does hk hl) ?_
 rintro x h ⟨rfl, ht⟩
 simp
 rw [unzig_bits (rdU_lt r).1]
 exact ⟨rfl, ht⟩
theorem rdS_does {H : AHeap} {k : Nat} {r : Rd} (hk : RdAt H k r) (hl : r.b.length <= 1000000000) : Does Tryz.prog G 63 [.ptr k 0] H fun x h => x = .str r.S.1 /\ RdTo H h k r.S.2 := by
 refine zad Tryz.call63 Tryz.func63 rfl (by simp [Tryz.f63]) ?_
 simp
 refine zab (rdU_does hk hl) ?_
 rintro x h ⟨rfl, v, hv, rfl⟩
 have hlu := rdU_lt r
 generalize hru : r.U = ru at hv hlu
 obtain ⟨u, b, bad⟩ := ru
 simp only at hv hlu
 have hS : r.S = if b.length < u then ([], ⟨[], true⟩) else (b.take u, ⟨b.drop u, bad⟩) := by simp [Rd.S, hru]
 have w1 : IntKind.u64.wrap (b.length : Int) = (b.length : Int) := IntWalk.u64_in _ (by omega)
 have w0 : IntKind.u64.wrap 0 = 0 := IntWalk.u64_in _ (by omega)
 by_cases hu : b.length < u
 · rw [if_pos hu] at hS
   have hu' : (b.length : Int) < u := by omega
   have hlv : alen Tryz.prog 22 v = some (.int .i64 b.length) := by
    rcases hv with ⟨rfl, rfl⟩ | ⟨ts, rfl⟩ <;> simp [alen]
   simp [hru, hlv, w1, hu, hu', -alen]
   refine zab (spoil_does (v := v) (b := bad) (by simp)) ?_
   rintro x h rfl
   simp [hS]
   exact ⟨.nilsl, .nil, rfl⟩
 · rw [if_neg hu] at hS
   have hu' : ¬ (b.length : Int) < u := by omega
   rcases hv with ⟨rfl, rfl⟩ | ⟨ts, rfl⟩
   · simp at hu
     subst hu
     simp [hru, hS, w0]
     exact ⟨.nilsl, .nil, by simp⟩
   · have hle : u <= b.length := by omega
     have hmin : min u b.length = u := by omega
     have hlt2 : u <= b.length + ts.length := by omega
     by_cases h0 : 0 < b.length
     · have ht : List.take u (strCs b ++ ts) = strCs (b.take u) := by
        rw [List.take_append_of_le_length (by rw [zae]; exact hle)]; simp [strCs, List.map_take]
       by_cases hlt : u < b.length
       · simp [hru, hS, w1, hu, hu', hle, h0, hlt, ht, hlt2, abytes_strCs, zae, -abytes]
         exact ⟨_, .inr ⟨ts, by rw [List.length_drop, <- drop_strCs hle]⟩, rfl⟩
       · simp [hru, hS, w1, hu, hu', hle, h0, hlt, ht, hlt2, abytes_strCs, zae, -abytes]
         have e0 : b.drop u = [] := List.drop_eq_nil_of_le (by omega)
         exact ⟨.vsl [] 0, .inr ⟨[], by rw [e0]; rfl⟩, rfl⟩
     · have hb0 : b = [] := List.length_eq_zero_iff.1 (by omega)
       subst hb0
       have hu0 : u = 0 := by simpa using hle
       subst hu0
       simp [hru, hS, w0]
       exact ⟨.vsl [] 0, .inr ⟨[], rfl⟩, by simp⟩
end Go.Proofs.YtekbjlihciedjaaGreatDoor
namespace Go.Rp
open Go Go.Abs
theorem unle_lt : ∀ b : Bs, unle b < 256 ^ b.length
 | [] => by simp [unle]
 | x :: r => by
   have h1 := unle_lt r
   have h2 : x.toNat < 256 := x.toNat_lt
   rw [unle, List.length_cons, Nat.pow_succ]
   omega
theorem unle_or {m x : Nat} (hm : m < 2 ^ 56) (hx : x < 256) :
  IntKind.u64.wrap ((((IntKind.u64.wrap ((m : Int) * 2 ^ min 8 IntKind.u64.bits) % 2 ^ IntKind.u64.bits).toNat ||| x % 2 ^ IntKind.u64.bits : Nat)) : Int) = ((x + 256 * m : Nat) : Int) := by
 have b1 : (2 : Int) ^ min 8 IntKind.u64.bits = 256 := rfl
 have b2 : (2 : Int) ^ IntKind.u64.bits = 18446744073709551616 := by rfl
 have b4 : x % 2 ^ IntKind.u64.bits = x := Nat.mod_eq_of_lt (Nat.lt_of_lt_of_le hx (by decide))
 rw [b1, b2, b4]
 simp only [wrap_u64]
 have e1 : ((m : Int) * 256 % 18446744073709551616 % 18446744073709551616).toNat = 2 ^ 8 * m := by omega
 have e2 := Nat.two_pow_add_eq_or_of_lt (i := 8) (show x < 2 ^ 8 from hx) m
 rw [e1, <- e2]
 omega
theorem drop_get {b : Bs} {i : Nat} {x : UInt8} (h : b[i]? = some x) : b.drop i = x :: b.drop (i + 1) := by
 have hl : i < b.length := by
  rcases Nat.lt_or_ge i b.length with q | q
  · exact q
  · rw [List.getElem?_eq_none q] at h; simp at h
 rw [List.getElem?_eq_getElem hl] at h
 rw [List.drop_eq_getElem_cons hl, Option.some.inj h]
theorem strCs_at {b : Bs} {ts : List AV} {i : Nat} {x : UInt8} (h : b[i]? = some x) : (strCs b ++ ts)[i]? = some (.int .u8 x.toNat) := by
 have hl : i < b.length := by
  rcases Nat.lt_or_ge i b.length with q | q
  · exact q
  · rw [List.getElem?_eq_none q] at h; simp at h
 rw [List.getElem?_append_left (by rw [zae]; exact hl)]
 simp [strCs, h]
theorem shr8 (u : Nat) : (u : Int).fdiv (2 ^ 8) = ((u / 256 : Nat) : Int) := by
 rw [Int.fdiv_eq_ediv_of_nonneg _ (by decide)]
 omega
def Buf (H0 H : AHeap) (i : Nat) (v : AV) (bs : Bs) : Prop := ∃ i' cap op junk, v = .sl i' 0 1 bs.length cap op /\ (i' = i \/ H0.next <= i') /\ H.get i' = some (.cells (strCs bs ++ junk)) /\ bs.length + junk.length = cap /\
 (∀ j x, j ≠ i -> H0.get j = some x -> H.get j = some x) /\ H0.next <= H.next
theorem crc_in (s : BitVec 32) (x : UInt8) : IntKind.u32.wrap ((s.toNat % 2 ^ IntKind.u32.bits ^^^ (IntKind.u32.wrap (x.toNat : Int) % 2 ^ IntKind.u32.bits).toNat : Nat) : Int) = ((s.toNat ^^^ x.toNat : Nat) : Int) := by
 have hs := s.isLt
 have hx : x.toNat < 256 := x.toNat_lt
 have b2 : (2 : Int) ^ IntKind.u32.bits = 4294967296 := by rfl
 have e1 : s.toNat % 2 ^ IntKind.u32.bits = s.toNat := Nat.mod_eq_of_lt hs
 have e2 : (IntKind.u32.wrap (x.toNat : Int) % 4294967296).toNat = x.toNat := by rw [IntKind.wrap_u32]; omega
 have h3 : s.toNat ^^^ x.toNat < 2 ^ 32 := Nat.xor_lt_two_pow hs (by omega)
 rw [b2, e1, e2, IntKind.wrap_u32]
 omega
theorem crc_bit (s : BitVec 32) : IntKind.u32.wrap (((((s.toNat : Int).fdiv (2 ^ min 1 IntKind.u32.bits) % 2 ^ IntKind.u32.bits).toNat ^^^
  (IntKind.u32.wrap ((3988292384 % 2 ^ IntKind.u32.bits &&& (IntKind.u32.wrap (-IntKind.u32.wrap ((s.toNat % 2 ^ IntKind.u32.bits &&& 1 % 2 ^ IntKind.u32.bits : Nat) : Int)) % 2 ^ IntKind.u32.bits).toNat : Nat) : Int) % 2 ^ IntKind.u32.bits).toNat : Nat)) : Int) = ((crcBit s).toNat : Int) := by
 have hs := s.isLt
 have b1 : (2 : Int) ^ min 1 IntKind.u32.bits = 2 := rfl
 have b2 : (2 : Int) ^ IntKind.u32.bits = 4294967296 := by rfl
 have b3 : 1 % 2 ^ IntKind.u32.bits = 1 := rfl
 have b5 : 3988292384 % 2 ^ IntKind.u32.bits = 3988292384 := rfl
 have e1 : s.toNat % 2 ^ IntKind.u32.bits = s.toNat := Nat.mod_eq_of_lt hs
 have e2 : ((s.toNat : Int).fdiv 2 % 4294967296).toNat = s.toNat / 2 := by rw [Int.fdiv_eq_ediv_of_nonneg _ (by decide)]; omega
 have e3 : IntKind.u32.wrap ((s.toNat % 2 : Nat) : Int) = ((s.toNat % 2 : Nat) : Int) := by rw [IntKind.wrap_u32]; omega
 have e4 : (IntKind.u32.wrap (-((s.toNat % 2 : Nat) : Int)) % 4294967296).toNat = (2 ^ 32 - s.toNat % 2) % 2 ^ 32 := by rw [IntKind.wrap_u32]; omega
 rw [b1, b2, b3, b5, e1, and1, e2, e3, e4]
 obtain ⟨q, hq⟩ : ∃ q, q = (3988292384 &&& (2 ^ 32 - s.toNat % 2) % 2 ^ 32) := ⟨_, rfl⟩
 have hq2 : q < 2 ^ 32 := by rw [hq]; exact Nat.and_lt_two_pow _ (Nat.mod_lt _ (by decide))
 have e5 : (IntKind.u32.wrap (q : Int) % 4294967296).toNat = q := by rw [IntKind.wrap_u32]; omega
 rw [<- hq, e5]
 have e6 : (crcBit s).toNat = s.toNat / 2 ^^^ q := by
  rw [hq, crcBit, BitVec.toNat_xor, BitVec.toNat_ushiftRight, BitVec.toNat_and, BitVec.toNat_neg, BitVec.toNat_and, Nat.shiftRight_eq_div_pow, Nat.pow_one]
  congr 2
  have : (1#32).toNat = 1 := rfl
  rw [this, and1]
 have h3 : s.toNat / 2 ^^^ q < 2 ^ 32 := Nat.xor_lt_two_pow (by omega) hq2
 rw [e6, IntKind.wrap_u32]
 omega
theorem crc_not (s : BitVec 32) : IntKind.u32.wrap ((((if IntKind.u32.signed = true then -1 else IntKind.u32.max) % 2 ^ IntKind.u32.bits).toNat ^^^ s.toNat % 2 ^ IntKind.u32.bits : Nat) : Int) = ((~~~ s).toNat : Int) := by
 have hs := s.isLt
 have e1 : s.toNat % 2 ^ IntKind.u32.bits = s.toNat := Nat.mod_eq_of_lt hs
 have e2 : ((if IntKind.u32.signed = true then -1 else IntKind.u32.max) % 2 ^ IntKind.u32.bits).toNat = 2 ^ 32 - 1 := by rfl
 have e3 : s.toNat ^^^ (2 ^ 32 - 1) = 2 ^ 32 - 1 - s.toNat := by
  have e : (s ^^^ BitVec.allOnes 32).toNat = s.toNat ^^^ (2 ^ 32 - 1) := by rw [BitVec.toNat_xor, BitVec.toNat_allOnes]
  rw [<- e, BitVec.xor_allOnes, BitVec.toNat_not]
 rw [e1, e2, Nat.xor_comm, e3, BitVec.toNat_not, IntKind.wrap_u32]
 omega
theorem optAll_ints {get : Nat -> Option AObj} {n : Nat} : ∀ b : Bs, zay ((strCs b).map (AV.res get (n + 1))) = some (strCs b)
 | [] => rfl
 | x :: b => by
   have := optAll_ints (get := get) (n := n) b
   have e : strCs (x :: b) = .int .u8 x.toNat :: strCs b := rfl
   rw [e, List.map_cons]
   have e2 : AV.res get (n + 1) (.int .u8 x.toNat) = some (.int .u8 x.toNat) := rfl
   rw [e2, zay, this]
   rfl
theorem res_buf {get : Nat -> Option AObj} {i o len cap : Nat} {op : Bool} {b : Bs} {junk : List AV} (hg : get i = some (.cells (strCs b ++ junk))) (hl : o + len <= b.length) :
  AV.res get 2 (.sl i o 1 len cap op) = some (bV ((b.drop o).take len)) := by
 have e : (((strCs b ++ junk).drop o).take (len * 1)) = strCs ((b.drop o).take len) := by
  rw [drop_strCs (by omega), Nat.mul_one, List.take_append_of_le_length (by rw [zae, List.length_drop]; omega)]
  unfold strCs
  rw [List.map_take]
 have e2 : ((b.drop o).take len).length = len := by rw [List.length_take, List.length_drop]; omega
 rw [show AV.res get 2 (.sl i o 1 len cap op) = (match get i with | some (.cells cs) => (zay (((cs.drop o).take (len * 1)).map (AV.res get 1))).map (.vsl · len) | _ => none) from rfl, hg]
 simp only [e]
 rw [optAll_ints (n := 0), Option.map_some, bV, e2]
theorem res_buf0 {get : Nat -> Option AObj} {i cap : Nat} {op : Bool} {b : Bs} {junk : List AV} (hg : get i = some (.cells (strCs b ++ junk))) : AV.res get 2 (.sl i 0 1 b.length cap op) = some (bV b) := by
 have := res_buf (cap := cap) (op := op) (o := 0) (len := b.length) hg (by omega)
 simpa using this
theorem BtA.len {bv : AV} {bs : Bs} (hb : BtA bv bs) : zaq bv = some bs.length := by rcases hb with ⟨rfl, rfl⟩ | ⟨ts, rfl⟩ <;> rfl
theorem BtA.first {bv : AV} {bs : Bs} (hb : BtA bv bs) (get : Nat -> Option AObj) : zal get 1 bs.length bv = some (strCs bs) := by
 rcases hb with ⟨rfl, rfl⟩ | ⟨ts, rfl⟩
 · rfl
 · simp [zal, zae]
theorem BtA.sc {bv : AV} {bs : Bs} (hb : BtA bv bs) : bv.scalar = true := by rcases hb with ⟨rfl, rfl⟩ | ⟨ts, rfl⟩ <;> rfl
theorem BtA.ni {bv : AV} {bs : Bs} (hb : BtA bv bs) : ∀ k n, bv ≠ .int k n := by
 intro k n
 rcases hb with ⟨rfl, rfl⟩ | ⟨ts, rfl⟩ <;> simp
theorem za4 (l : Bs) : (strCs l).all AV.scalar = true := by simp [strCs]
theorem BtA.first0 {bv : AV} {bs : Bs} (hb : BtA bv bs) (h0 : bs.length = 0) (get : Nat -> Option AObj) : zal get 1 0 bv = some [] := by
 have e : bs = [] := List.length_eq_zero_iff.1 h0
 subst e
 exact hb.first get
theorem take_strCs (bs : Bs) : List.take bs.length (strCs bs) = strCs bs := by rw [<- zae, List.take_length]
theorem BtA.cells {bv : AV} {bs : Bs} (hb : BtA bv bs) : bv.cells = [bv] := by rcases hb with ⟨rfl, rfl⟩ | ⟨ts, rfl⟩ <;> rfl
end Go.Rp
namespace Go.Proofs.YtekbjlihciedjaaGreatDoor
open Go Go.Abs Go.Rp
variable {G : Nat -> Option AV}
theorem sumNum_does {bv : AV} {b : Bs} (hb : BtA bv b) (hl : b.length <= 8) (H : AHeap) : Does Tryz.prog G 144 [bv] H fun r h => r = .int .u64 (unle b) /\ h = H := by
 refine zad Tryz.call144 Tryz.func144 rfl (by simp [Tryz.f144]) ?_
 have hlv : alen Tryz.prog 22 bv = some (.int .i64 b.length) := by
  rcases hb with ⟨rfl, rfl⟩ | ⟨ts, rfl⟩ <;> simp [alen]
 have w1 : IntKind.i64.wrap ((b.length : Int) - 1) = (b.length : Int) - 1 := IntWalk.i64_in _ (by omega)
 simp [hlv, w1, -alen]
 refine zaE (fun m T' H' => H' = H /\ m <= b.length /\ T' 0 = bv /\ T' 3 = .int .u64 (unle (b.drop m)) /\ T' 4 = .int .i64 ((m : Int) - 1)) b.length ?_ ?_
 · exact ⟨rfl, Nat.le_refl _, by simp, by simp [unle], by simp⟩
 rintro m T H1 ⟨rfl, hm, t0, t3, t4⟩
 cases m with
 | zero => simp [t0, t3, t4]
 | succ m =>
   obtain ⟨ts, rfl⟩ : ∃ ts, bv = .vsl (strCs b ++ ts) b.length := by
    rcases hb with ⟨_, h⟩ | h
    · rw [h] at hm; simp at hm
    · exact h
   have he : b[m]? = some b[m] := List.getElem?_eq_getElem (by omega)
   generalize b[m] = x at he
   have hat := strCs_at (ts := ts) he
   have hd := drop_get he
   have hx : x.toNat < 256 := x.toNat_lt
   have h1 := unle_lt (b.drop (m + 1))
   have h2 : unle (b.drop (m + 1)) < 2 ^ 56 := by
    refine Nat.lt_of_lt_of_le h1 ?_
    rw [show (2 : Nat) ^ 56 = 256 ^ 7 by decide]
    exact Nat.pow_le_pow_right (by omega) (by rw [List.length_drop]; omega)
   have h3 : unle (b.drop m) = x.toNat + 256 * unle (b.drop (m + 1)) := by rw [hd, unle]
   generalize unle (b.drop (m + 1)) = q at *
   have w2 := unle_or h2 hx
   have w3 : IntKind.u64.wrap (x.toNat : Int) = (x.toNat : Int) := IntWalk.u64_in _ (by omega)
   have w4 : IntKind.i64.wrap ((m : Int) - 1) = (m : Int) - 1 := IntWalk.i64_in _ (by omega)
   have c1 : ((m + 1 : Nat) : Int) - 1 = m := by omega
   rw [c1] at t4
   have c2 : (m : Int) < b.length := by omega
   simp [t0, t3, t4, hat, c2, w2, w3, w4]
   exact ⟨m, by omega, by omega, by rw [h3]; omega, rfl⟩
theorem put_run {H : AHeap} {i : Nat} {bv : AV} {bs : Bs} (hb : Buf H H i bv bs) (hl : bs.length <= 1000000000) {u : Nat} (hu : u < 2 ^ 64) {k : Nat} (hk : k <= 8) :
  Does Tryz.prog G 211 [bv, .int .u64 u, .int .i64 k] H fun r h => Buf H h i r (bs ++ le k u) := by
 refine Does.wf Tryz.call211 fun hw _ => ?_
 refine zad Tryz.call211 Tryz.func211 rfl (by simp [Tryz.f211]) ?_
 simp
 refine zam (fun m T' H' => ∃ so u', m <= k /\ u' < 2 ^ 64 /\ le k u = so ++ le m u' /\ so.length + m = k /\ Buf H H' i (T' 0) (bs ++ so) /\ T' 1 = .int .u64 u' /\ T' 7 = .int .i64 k /\ T' 8 = .int .i64 ((k - m : Nat) : Int)) k ?_ ?_
 · exact ⟨[], u, Nat.le_refl _, hu, rfl, by simp, by simpa using hb, by simp, by simp, by simp⟩
 rintro m T H1 ⟨so, u', hm, hu', he, hsm, ⟨i', cap, op, junk, t0, hi, hg, hj, hs, hn⟩, t1, t7, t8⟩ hw1 _
 cases m with
 | zero =>
   have c1 : ¬ ((k - 0 : Nat) : Int) < k := by omega
   have e0 : le k u = so := by simpa [le] using he
   simp [t0, t1, t7, t8]
   exact ⟨i', cap, op, junk, by rw [e0]; simp, hi, by rw [e0]; exact hg, by rw [e0]; exact hj, hs, hn⟩
 | succ m =>
   have n1 : i' ≠ H1.next := by have := zaa hw1 hg; omega
   have c1 : ((k - (m + 1) : Nat) : Int) < k := by omega
   obtain ⟨q, hq⟩ : ∃ q, q = k - (m + 1) := ⟨_, rfl⟩
   rw [<- hq] at t8 c1
   have w1 : IntKind.i64.wrap ((q : Int) + 1) = ((k - m : Nat) : Int) := by rw [IntWalk.i64_in _ (by omega)]; omega
   have tk : List.take (bs.length + so.length) (strCs (bs ++ so) ++ junk) = strCs (bs ++ so) := take_cs (by simp)
   have dk : List.drop (bs.length + so.length + 1) (strCs (bs ++ so) ++ junk) = junk.drop 1 := drop_cs (by simp)
   have hsh := shr8 u'
   simp at hj
   have hle : le (m + 1) u' = UInt8.ofNat (u' % 256) :: le m (u' / 256) := rfl
   rw [hle] at he
   have w3 : (AV.int .u8 (IntKind.u8.wrap (u' : Int))) = .int .u8 (UInt8.ofNat (u' % 256)).toNat := by rw [IntKind.wrap_u8]; simp
   have hfin : ∀ {H2 : AHeap} {j' cap' : Nat} {op' : Bool} {junk' : List AV}, (j' = i \/ H.next <= j') -> H2.get j' = some (.cells (strCs (bs ++ so) ++ AV.int .u8 (IntKind.u8.wrap (u' : Int)) :: junk')) -> bs.length + so.length + 1 + junk'.length = cap' ->
     (∀ j x, j ≠ i -> H.get j = some x -> H2.get j = some x) -> H.next <= H2.next ->
     ∃ m_1, m_1 < m + 1 /\ m_1 <= k /\ ∃ so_1 u_1, u_1 < 18446744073709551616 /\ le k u = so_1 ++ le m_1 u_1 /\ so_1.length + m_1 = k /\ Buf H H2 i (.sl j' 0 1 (bs.length + so.length + 1) cap' op') (bs ++ so_1) /\ (u' : Int).fdiv (2 ^ min 8 IntKind.u64.bits) = u_1 /\ ((k - m : Nat) : Int) = ((k - m_1 : Nat) : Int) := by
    intro H2 j' cap' op' junk' h1 h2 h3 h4 h5
    refine ⟨m, by omega, by omega, so ++ [UInt8.ofNat (u' % 256)], u' / 256, by omega, by rw [he]; simp, by simp; omega, ⟨j', cap', op', junk', by simp; omega, h1, ?_, by simp; omega, h4, h5⟩, hsh, rfl⟩
    rw [h2, w3]
    simp [strCs]
   have hold : ∀ j x, j ≠ i -> H.get j = some x -> j ≠ i' /\ j < H1.next /\ H1.get j = some x := by
    intro j x h1 h2
    have h3 := hs j x h1 h2
    have h4 := zaa hw1 h3
    have h5 := zaa hw h2
    exact ⟨by rcases hi with h | h <;> omega, h4, h3⟩
   by_cases hc : bs.length + so.length + 1 <= cap
   · have hc2 : bs.length + so.length + 1 <= bs.length + so.length + junk.length := by omega
     simp [t0, t1, t7, t8, c1, w1, hg, n1, hc, hc2, tk, dk, zae]
     refine hfin (junk' := junk.tail) hi (by simp) (by simp; omega) (fun j x h1 h2 => ?_) (by simp; omega)
     obtain ⟨h3, h4, h5⟩ := hold j x h1 h2
     have h6 : j ≠ H1.next := by omega
     simp [h3, h5, h6]
   · have hc2 : bs.length + so.length + 1 <= 140737488355328 := by omega
     have hc3 : bs.length + so.length + 1 <= 4611686018427387904 := by omega
     cases op
     · simp [t0, t1, t7, t8, c1, w1, hg, n1, hc, hc2, hc3, tk, dk, zae]
       refine hfin (.inr (by omega)) (by simp; rfl) (by simp) (fun j x h1 h2 => ?_) (by simp; omega)
       obtain ⟨h3, h4, h5⟩ := hold j x h1 h2
       have h6 : j ≠ H1.next := by omega
       have h7 : j ≠ H1.next + 1 := by omega
       simp [h3, h5, h6, h7]
     · simp [t0, t1, t7, t8, c1, w1, hg, n1, hc, hc2, hc3, tk, dk, zae]
       refine hfin (.inr (by omega)) (by simp; rfl) (by simp) (fun j x h1 h2 => ?_) (by simp; omega)
       obtain ⟨h3, h4, h5⟩ := hold j x h1 h2
       have h6 : j ≠ H1.next := by omega
       have h7 : j ≠ H1.next + 1 := by omega
       simp [h3, h5, h6, h7]
theorem crcS_does {bv : AV} {b : Bs} (hb : BtA bv b) (hl : b.length <= 1000000000) (H : AHeap) : Does Tryz.prog G 212 [bv] H fun r h => r = .int .u32 (crc b).toNat /\ h = H := by
 refine zad Tryz.call212 Tryz.func212 rfl (by simp [Tryz.f212]) ?_
 have hlv : alen Tryz.prog 22 bv = some (.int .i64 b.length) := by
  rcases hb with ⟨rfl, rfl⟩ | ⟨ts, rfl⟩ <;> simp [alen]
 simp [hlv, -alen]
 refine zaE (fun m T' H' => ∃ (i : Nat) (s : BitVec 32), i + m = b.length /\ H' = H /\ T' 6 = bv /\ T' 7 = .int .i64 b.length /\ T' 8 = .int .i64 i /\ T' 3 = .int .u32 s.toNat /\ b.foldl crcByte (~~~ 0#32) = (b.drop i).foldl crcByte s) b.length ?_ ?_
 · exact ⟨0, ~~~ 0#32, by simp, rfl, by simp, by simp, by simp, by simp, by simp⟩
 rintro m T H1 ⟨i, s, him, rfl, t6, t7, t8, t3, hf⟩
 by_cases hi : i < b.length
 · obtain ⟨ts, rfl⟩ : ∃ ts, bv = .vsl (strCs b ++ ts) b.length := by
    rcases hb with ⟨_, h⟩ | h
    · rw [h] at hi; simp at hi
    · exact h
   have he : b[i]? = some b[i] := List.getElem?_eq_getElem hi
   generalize b[i] = x at he
   have hat := strCs_at (ts := ts) he
   have hd := drop_get he
   rw [hd, List.foldl_cons] at hf
   have c2 : (i : Int) < b.length := by omega
   simp [t6, t7, t8, t3, hat, c2, hi]
   refine zaE (fun m' T' H' => ∃ (j : Nat) (s' : BitVec 32), j + m' = 8 /\ H' = H1 /\ T' 6 = .vsl (strCs b ++ ts) b.length /\ T' 7 = .int .i64 b.length /\ T' 8 = .int .i64 i /\ T' 16 = .int .i64 j /\ T' 3 = .int .u32 s'.toNat /\ crcByte s x = crcBits m' s') 8 ?_ ?_
   · refine ⟨0, s ^^^ BitVec.ofNat 32 x.toNat, rfl, rfl, by simp [t6], by simp [t7], by simp [t8], by simp, ?_, rfl⟩
     simp [t3]
     exact crc_in s x
   · rintro m' T H1 ⟨j, s', hj, rfl, t6, t7, t8, t16, t3, hc⟩
     by_cases hj8 : j < 8
     · obtain ⟨m', rfl⟩ : ∃ q, m' = q + 1 := ⟨m' - 1, by omega⟩
       rw [crcBits] at hc
       have c3 : (j : Int) < 8 := by omega
       simp [t6, t7, t8, t3, t16, c3]
       refine ⟨m', by omega, j + 1, by omega, ?_, crcBit s', crc_bit s', hc⟩
       rw [IntWalk.i64_in _ (by omega)]; push_cast; rfl
     · have hj0 : m' = 0 := by omega
       subst hj0
       have c3 : ¬ (j : Int) < 8 := by omega
       have w1 : IntKind.i64.wrap ((i : Int) + 1) = ((i + 1 : Nat) : Int) := by rw [IntWalk.i64_in _ (by omega)]; omega
       simp [t6, t7, t8, t3, t16, c3, w1]
       rw [crcBits] at hc
       rw [hc] at hf
       exact ⟨m - 1, by omega, i + 1, by omega, by push_cast; rfl, s', rfl, hf⟩
 · have hi' : ¬ (i : Int) < b.length := by omega
   have hd : b.drop i = [] := List.drop_eq_nil_of_le (by omega)
   rw [hd] at hf
   simp [t6, t7, t8, t3, hi, hi']
   rw [crc_not, crc]
   rw [hf]; rfl
theorem crcS_live {H : AHeap} {i cap : Nat} {op : Bool} {b : Bs} {junk : List AV} (hg : H.get i = some (.cells (strCs b ++ junk))) (hl : b.length <= 1000000000) :
  Does Tryz.prog G 212 [.sl i 0 1 b.length cap op] H fun r h => r = .int .u32 (crc b).toNat /\ h = H :=
 (Does.borrow (n := 2) (.res (res_buf0 hg) .nil) (crcS_does (.bV b) hl _) (by rintro r _ ⟨rfl, _⟩; rfl)).mono fun r h ⟨⟨_, h1, _⟩, h2⟩ => ⟨h1, h2⟩
theorem crc2_does {hv tv : AV} {hd tx : Bs} (hh : BtA hv hd) (ht : BtA tv tx) (hl : hd.length + tx.length <= 1000000000) (H : AHeap) :
  Does Tryz.prog G 145 [hv, tv] H fun r h => r = .int .u64 (crc (hd ++ tx)).toNat /\ h = H := by
 refine Does.forgot (R := fun r h => r = .int .u64 (crc (hd ++ tx)).toNat /\ ∀ j x, H.get j = some x -> h.get j = some x) ?_ (fun hw ha r H1 ⟨h1, h2⟩ => ⟨h2, by rw [h1]; rfl, h1, rfl⟩)
 refine Does.wf Tryz.call145 fun hw _ => ?_
 refine zad Tryz.call145 Tryz.func145 rfl (by simp [Tryz.f145]) ?_
 have h1 := hh.len
 have h2 := hh.first
 have h3 := hh.sc
 have h4 := hh.ni
 have t1 := ht.len
 have t2 := ht.first
 have t3 := ht.sc
 have t4 := ht.ni
 have c1 : hd.length <= 140737488355328 := by omega
 have c2 : hd.length <= 4611686018427387904 := by omega
 have c3 : tx.length <= 140737488355328 := by omega
 have c4 : tx.length <= 4611686018427387904 := by omega
 have c5 : hd.length + tx.length <= 140737488355328 := by omega
 have c6 : hd.length + tx.length <= 4611686018427387904 := by omega
 have hc : ∀ (H2 : AHeap) (i cap : Nat) (op : Bool) (b : Bs) (junk : List AV), b = hd ++ tx -> H2.get i = some (.cells (strCs b ++ junk)) ->
  Does Tryz.prog G 212 [.sl i 0 1 b.length cap op] H2 fun r h => r = .int .u32 (crc (hd ++ tx)).toNat /\ h = H2 := by
  rintro H2 i cap op b junk rfl hg
  exact crcS_live hg (by simpa using hl)
 have hfin : ∀ (H2 : AHeap) (i n cap : Nat) (op : Bool) (b : Bs) (junk : List AV) {R' : Hid (AV -> AHeap -> Prop)}, n = b.length -> b = hd ++ tx -> H2.get i = some (.cells (strCs b ++ junk)) -> (R'.v (.int .u32 (crc (hd ++ tx)).toNat) H2) ->
  @DoesH Tryz.prog G 212 [.sl i 0 1 n cap op] H2 R' := by
  rintro H2 i n cap op b junk R' rfl hb hg hr
  refine zab (hc H2 i cap op b junk hb hg) ?_
  rintro r h ⟨rfl, rfl⟩
  exact hr
 have w1 : IntKind.u64.wrap (((crc (hd ++ tx)).toNat : Nat) : Int) = ((crc (hd ++ tx)).toNat : Nat) := IntWalk.u64_in _ (by have := (crc (hd ++ tx)).isLt; omega)
 have hold : ∀ j x, H.get j = some x -> j ≠ H.next /\ j ≠ H.next + 1 /\ j ≠ H.next + 1 + 1 := fun j x hj => by have l := zaa hw hj; omega
 by_cases hd0 : hd.length = 0
 · have hde : hd = [] := List.length_eq_zero_iff.1 hd0
   have h2 := hh.first0 hd0
   by_cases tx0 : tx.length = 0
   · have txe : tx = [] := List.length_eq_zero_iff.1 tx0
     have t2 := ht.first0 tx0
     simp [h1, h2, h3, t1, t2, t3, hd0, tx0, za4, zae, -zal, -zaq]
     refine hfin _ _ _ _ _ [] [] rfl (by rw [hde, txe]; rfl) (by simp [strCs]) ?_
     simp [w1]
     intro j x hj
     obtain ⟨e0, e1, e2⟩ := hold j x hj
     simp [e0, e1, e2, hj]
   · have tx1 : ¬ tx.length <= 0 := by omega
     simp [h1, h2, h3, t1, t2, t3, hd0, tx0, tx1, c3, c4, za4, zae, -zal, -zaq]
     refine hfin _ _ _ _ _ tx [] rfl (by rw [hde]; rfl) (by simp) ?_
     simp [w1]
     intro j x hj
     obtain ⟨e0, e1, e2⟩ := hold j x hj
     simp [e0, e1, e2, hj]
 · have hd1 : ¬ hd.length <= 0 := by omega
   by_cases tx0 : tx.length = 0
   · have txe : tx = [] := List.length_eq_zero_iff.1 tx0
     have t2 := ht.first0 tx0
     simp [h1, h2, h3, t1, t2, t3, hd0, hd1, tx0, c1, c2, za4, zae, take_strCs, -zal, -zaq]
     refine hfin _ _ _ _ _ hd [] rfl (by rw [txe]; simp) (by simp [take_strCs, zae]) ?_
     simp [w1]
     intro j x hj
     obtain ⟨e0, e1, e2⟩ := hold j x hj
     simp [e0, e1, e2, hj]
   · have tx1 : ¬ hd.length + tx.length <= hd.length := by omega
     simp [h1, h2, h3, t1, t2, t3, hd0, hd1, tx0, tx1, c1, c2, c5, c6, za4, zae, take_strCs, -zal, -zaq]
     refine hfin _ _ _ _ _ (hd ++ tx) [] (by simp) rfl (by simp [strCs]) ?_
     simp [w1]
     intro j x hj
     obtain ⟨e0, e1, e2⟩ := hold j x hj
     simp [e0, e1, e2, hj]
theorem crc2_live {H : AHeap} {i cap : Nat} {op : Bool} {b : Bs} {junk : List AV} {tv : AV} {tx : Bs} (hg : H.get i = some (.cells (strCs b ++ junk))) (hb : 1 <= b.length) (ht : BtA tv tx) (hl : b.length + tx.length <= 1000000000) :
  Does Tryz.prog G 145 [.sl i 1 1 (b.length - 1) cap op, tv] H fun r h => r = .int .u64 (crc (b.drop 1 ++ tx)).toNat /\ h = H := by
 have e : (b.drop 1).take (b.length - 1) = b.drop 1 := by rw [List.take_of_length_le (by simp)]
 have hr := res_buf (cap := cap) (op := op) (o := 1) (len := b.length - 1) hg (by omega)
 rw [e] at hr
 exact (Does.borrow (n := 2) (.res hr (.keep _ .nil)) (crc2_does (.bV (b.drop 1)) ht (by simp; omega) _) (by rintro r _ ⟨rfl, _⟩; rfl)).mono fun r h ⟨⟨_, h1, _⟩, h2⟩ => ⟨h1, h2⟩
theorem bufNext {H0 H : AHeap} {i : Nat} {v : AV} {bs : Bs} (h : Buf H0 H i v bs) : ∃ i' cap op junk, v = .sl i' 0 1 bs.length cap op /\ (i' = i \/ H0.next <= i') /\ H.get i' = some (.cells (strCs bs ++ junk)) /\ bs.length + junk.length = cap /\ Buf H H i' v bs /\ (∀ j x, j ≠ i -> H0.get j = some x -> H.get j = some x) /\ H0.next <= H.next := by
 obtain ⟨i', cap, op, junk, h1, h2, h3, h4, h5, h6⟩ := h
 exact ⟨i', cap, op, junk, h1, h2, h3, h4, ⟨i', cap, op, junk, h1, .inl rfl, h3, h4, fun _ _ _ h => h, Nat.le_refl _⟩, h5, h6⟩
theorem frame_run {n : Nat} (hn : n < 2 ^ 64) {bv : AV} {b : Bs} (hb : BtA bv b) (hl : b.length <= 60000) (H : AHeap) :
  Does Tryz.prog G 141 [.int .u64 n, bv] H fun r H1 => ∃ i cap op junk, r = .sl i 0 1 (frame n b).length cap op /\ H.next <= i /\ H1.get i = some (.cells (strCs (frame n b) ++ junk)) /\ ∀ j x, H.get j = some x -> H1.get j = some x := by
 refine Does.wf Tryz.call141 fun hw _ => ?_
 have h1 := hb.len
 have h2 := hb.first
 have h3 := hb.sc
 have h4 := hb.ni
 have h5 : alen Tryz.prog 22 bv = some (.int .i64 b.length) := by
  rcases hb with ⟨rfl, rfl⟩ | ⟨ts, rfl⟩ <;> simp [alen]
 have c1 : ¬ (60000 : Int) < b.length := by omega
 have w1 : IntKind.u64.wrap (b.length : Int) = (b.length : Int) := IntWalk.u64_in _ (by omega)
 have hold : ∀ j x, H.get j = some x -> j < H.next := fun j x hj => zaa hw hj
 refine zad Tryz.call141 Tryz.func141 rfl (by simp [Tryz.f141]) ?_
 simp [h5, c1, w1, -alen]
 refine zac (put_run (i := H.next) (bs := [90]) (u := b.length) (k := 4) ⟨H.next, 1, false, [], rfl, .inl rfl, by simp [strCs], rfl, fun _ _ _ h => h, Nat.le_refl _⟩ (by simp) (by omega) (by omega)) ?_
 intro r1 G1 hb1 hw1 _
 obtain ⟨i1, cap1, op1, junk1, rfl, hi1, hg1, hj1, hB1, hs1, hn1⟩ := bufNext hb1
 simp
 refine zac (put_run (u := n) (k := 8) hB1 (by simp [le_len]) hn (by omega)) ?_
 intro r2 G2 hb2 hw2 _
 obtain ⟨i2, cap2, op2, junk2, rfl, hi2, hg2, hj2, hB2, hs2, hn2⟩ := bufNext hb2
 have hl2 : ([90] ++ le 4 b.length ++ le 8 n).length = 13 := by simp [le_len]
 have hd2 : ([90] ++ le 4 b.length ++ le 8 n).drop 1 = head n b.length := rfl
 have hf2 : ∀ t : Bs, ([90] ++ le 4 b.length ++ le 8 n) ++ t = 90 :: (head n b.length ++ t) := fun t => by simp [head]
 generalize ([90] ++ le 4 b.length ++ le 8 n) = X at *
 have c2 : 1 < cap2 := by omega
 have c3 : 1 <= cap2 := by omega
 have e12 : X.length - 1 = 12 := by omega
 have hcr := crc2_live (G := G) (cap := cap2 - 1) (op := op2) hg2 (by omega) hb (by omega)
 rw [e12, hd2] at hcr
 rw [hl2]
 simp [c2, c3]
 refine zab hcr ?_
 rintro r G3 ⟨rfl, rfl⟩
 generalize hc : crc (head n b.length ++ b) = c
 have hclt := c.isLt
 simp
 have hp := put_run (G := G) (u := c.toNat) (k := 4) hB2 (by omega) (by omega) (by omega)
 rw [hl2] at hp
 refine zac hp ?_
 intro r3 G4 hb3 hw3 _
 obtain ⟨i3, cap3, op3, junk3, rfl, hi3, hg3, hj3, hB3, hs3, hn3⟩ := bufNext hb3
 have hl3 : (X ++ le 4 c.toNat).length = 17 := by simp [le_len, hl2]
 have hfr : frame n b = (X ++ le 4 c.toNat) ++ b := by rw [List.append_assoc, hf2, frame, hc]
 generalize X ++ le 4 c.toNat = Y at *
 have hkeep : ∀ j x, H.get j = some x -> j ≠ i3 /\ G4.get j = some x /\ j < G4.next := by
  intro j x hj
  have k0 := hold j x hj
  have k1 : (H.push (AObj.cells [AV.int .u8 90])).get j = some x := by
   show (if j = H.next then _ else H.get j) = some x
   rw [if_neg (by omega)]; exact hj
  have hn1' : H.next + 1 <= G1.next := hn1
  have hi1' : i1 = H.next \/ H.next + 1 <= i1 := hi1
  have k2 := hs1 j x (by omega) k1
  have k3 := zaa hw1 k2
  have k4 := hs2 j x (by omega) k2
  have k5 := zaa hw2 k4
  have k6 := hs3 j x (by omega) k4
  exact ⟨by omega, k6, zaa hw3 k6⟩
 have hi3' : H.next <= i3 := by
  have hn1' : H.next + 1 <= G1.next := hn1
  have hi1' : i1 = H.next \/ H.next + 1 <= i1 := hi1
  omega
 have n3 := zaa hw3 hg3
 have tk : List.take 17 (strCs Y ++ junk3) = strCs Y := take_cs (by omega)
 have dk : List.drop (17 + b.length) (strCs Y ++ junk3) = junk3.drop b.length := drop_cs (by omega)
 have hlf : (frame n b).length = 17 + b.length := frame_len n b
 by_cases hcap : 17 + b.length <= cap3
 · have hc2 : b.length <= junk3.length := by omega
   simp [h1, h2, h3, hg3, hl3, hcap, hc2, tk, dk, za4, zae, -zal, -zaq]
   refine ⟨i3, ⟨rfl, hlf.symm⟩, hi3', ⟨junk3.drop b.length, by rw [if_pos rfl, hfr, strCs_app, List.append_assoc]⟩, fun j x hj => ?_⟩
   obtain ⟨k1, k2, _⟩ := hkeep j x hj
   rw [if_neg k1]; exact k2
 · have hc3 : 17 + b.length <= 140737488355328 := by omega
   have hc4 : 17 + b.length <= 4611686018427387904 := by omega
   cases op3
   · simp [h1, h2, h3, hg3, hl3, hcap, hc3, hc4, tk, dk, za4, zae, -zal, -zaq]
     refine ⟨G4.next, ⟨rfl, hlf.symm⟩, by omega, ⟨[], by rw [if_pos rfl, hfr, strCs_app, List.append_nil]⟩, fun j x hj => ?_⟩
     obtain ⟨k1, k2, k3⟩ := hkeep j x hj
     rw [if_neg (by omega)]; exact k2
   · simp [h1, h2, h3, hg3, hl3, hcap, hc3, hc4, tk, dk, za4, zae, -zal, -zaq]
     refine ⟨G4.next, ⟨rfl, hlf.symm⟩, by omega, ⟨[], by simp [hfr, strCs_app]⟩, fun j x hj => ?_⟩
     obtain ⟨k1, k2, k3⟩ := hkeep j x hj
     have k4 : j ≠ G4.next := by omega
     simp [k1, k2, k4]
theorem frame_does {n : Nat} (hn : n < 2 ^ 64) {bv : AV} {b : Bs} (hb : BtA bv b) (hl : b.length <= 60000) (H : AHeap) :
  Does Tryz.prog G 141 [.int .u64 n, bv] H fun r h => r = bV (frame n b) /\ h = H := fresh_bytes (frame_run hn hb hl H)
theorem zah : Tryz.prog.follows .mixedOrders = true := by kernel_rfl
theorem cutBt {b : Bs} {ts : List AV} {l h : Nat} (h1 : l <= h) (h2 : h <= b.length) : BtA (.vsl (List.drop l (strCs b ++ ts)) (h - l)) ((b.drop l).take (h - l)) := by
 refine .inr ⟨strCs ((b.drop l).drop (h - l)) ++ ts, ?_⟩
 rw [drop_strCs (by omega), <- List.append_assoc, <- strCs_app, List.take_append_drop]
 rw [List.length_take, List.length_drop, Nat.min_eq_left (by omega)]
theorem take_run {bv : AV} {b : Bs} (hb : BtA bv b) (hl : b.length <= 1000000000) (H : AHeap) :
  Does Tryz.prog G 95 [bv] H fun r H1 => ∃ tv, r = .tuple [.int .u64 (take b).1, tv, .int .i64 (take b).2.2] /\ (∀ j x, H.get j = some x -> H1.get j = some x) /\
   ((tv = .nilsl /\ (take b).2.1 = []) \/ ∃ i cap op, tv = .sl i 0 1 (take b).2.1.length cap op /\ H.next <= i /\ H1.get i = some (.cells (strCs (take b).2.1))) := by
 refine Does.wf Tryz.call95 fun hw _ => ?_
 have hlv : alen Tryz.prog 22 bv = some (.int .i64 b.length) := by
  rcases hb with ⟨rfl, rfl⟩ | ⟨ts, rfl⟩ <;> simp [alen]
 refine zad Tryz.call95 Tryz.func95 rfl (by simp [Tryz.f95]) ?_
 by_cases hA : b.length < 17
 · have e : take b = (0, [], 0) := by unfold take; rw [if_pos (.inl hA)]
   have c1 : (b.length : Int) < 17 := by omega
   simp [hlv, c1, e, -alen]
 obtain ⟨ts, rfl⟩ : ∃ ts, bv = .vsl (strCs b ++ ts) b.length := by
  rcases hb with ⟨_, h⟩ | h
  · rw [h] at hA; simp at hA
  · exact h
 have c1 : ¬ (b.length : Int) < 17 := by omega
 have h0 : b[0]? = some b[0] := List.getElem?_eq_getElem (by omega)
 generalize b[0] = x0 at h0
 have hat := strCs_at (ts := ts) h0
 have c2 : 0 < b.length := by omega
 by_cases hB : x0 = 90
 case neg =>
  have e : take b = (0, [], 0) := by
   unfold take
   rw [if_pos]
   right; rw [h0]; simpa using hB
  have hx : ((x0.toNat : Int) != 90) = true := by
   rw [bne_iff_ne]
   intro h
   apply hB
   apply UInt8.toNat.inj
   have : x0.toNat = 90 := by omega
   rw [this]; rfl
  simp [c1, c2, hat, hx, e]
 subst hB
 have hx : (((90 : UInt8).toNat : Int) != 90) = false := by decide
 have e0 : ¬ (b.length < 17 \/ b[0]? ≠ some 90) := by rw [h0]; simp; omega
 have w1 : IntKind.i64.wrap ((b.length : Int) - 17) = ((b.length - 17 : Nat) : Int) := by rw [IntWalk.i64_in _ (by omega)]; omega
 have hn1 := fun H' => sumNum_does (G := G) (cutBt (b := b) (ts := ts) (l := 1) (h := 5) (by omega) (by omega)) (by simp; omega) H'
 have hn2 := fun H' => sumNum_does (G := G) (cutBt (b := b) (ts := ts) (l := 13) (h := 17) (by omega) (by omega)) (by simp; omega) H'
 have hn3 := fun H' => sumNum_does (G := G) (cutBt (b := b) (ts := ts) (l := 5) (h := 13) (by omega) (by omega)) (by simp; omega) H'
 have hcut := cutBt (b := b) (ts := ts) (l := 1) (h := 13) (by omega) (by omega)
 have c5 : (5 : Int) <= b.length := by omega
 have c13 : (13 : Int) <= b.length := by omega
 have c17 : (17 : Int) <= b.length := by omega
 have d1 : 1 < b.length := by omega
 have d5 : 5 < b.length := by omega
 have d13 : 13 < b.length := by omega
 obtain ⟨m, hm⟩ : ∃ m, m = unle ((b.drop 1).take 4) := ⟨_, rfl⟩
 have hm32 : m < 2 ^ 32 := by
  have := unle_lt ((b.drop 1).take 4)
  have e4 : ((b.drop 1).take 4).length = 4 := by rw [List.length_take, List.length_drop]; omega
  rw [e4] at this
  rw [hm]; simpa using this
 simp [c1, c2, hat, hx, c5, d1, -List.drop_one]
 refine zab (hn1 H) ?_
 rintro r H1 ⟨rfl, rfl⟩
 have hmm : unle (List.take (5 - 1) (List.drop 1 b)) = m := hm.symm
 rw [hmm]
 have w2 : IntKind.u64.wrap ((b.length - 17 : Nat) : Int) = ((b.length - 17 : Nat) : Int) := IntWalk.u64_in _ (by omega)
 by_cases hC : 60000 < m \/ b.length - 17 < m
 · have e : take b = (0, [], 0) := by
    unfold take
    rw [if_neg e0]
    simp only
    rw [<- hm, if_pos hC]
   by_cases hC1 : 60000 < m
   · have hC1' : (60000 : Int) < m := by omega
     simp [c1, c2, hat, hx, c5, d1, hC1, hC1', e, -List.drop_one]
   · have hC1' : ¬ (60000 : Int) < m := by omega
     have hC2' : ((b.length - 17 : Nat) : Int) < m := by omega
     have hC2 : b.length - 17 < m := by omega
     simp [c1, c2, hat, hx, c5, d1, hC1, hC1', hC2, hC2', w1, w2, e, -List.drop_one]
 have hC1 : ¬ 60000 < m := by omega
 have hC1' : ¬ (60000 : Int) < m := by omega
 have hC2' : ¬ ((b.length - 17 : Nat) : Int) < m := by omega
 have hC2 : ¬ b.length - 17 < m := by omega
 have w3 : IntKind.i64.wrap (m : Int) = (m : Int) := IntWalk.i64_in _ (by omega)
 have w4 : IntKind.i64.wrap (17 + (m : Int)) = ((17 + m : Nat) : Int) := by rw [IntWalk.i64_in _ (by omega)]; omega
 obtain ⟨z, hz⟩ : ∃ z, z = 17 + m := ⟨_, rfl⟩
 rw [<- hz] at w4
 have hzl : z <= b.length := by omega
 have hz17 : (17 : Int) <= z := by omega
 have hzl' : (z : Int) <= b.length := by omega
 have htx := cutBt (b := b) (ts := ts) (l := 17) (h := z) (by omega) (by omega)
 simp [c1, c2, hat, hx, c5, d1, hC1, hC1', hC2, hC2', w1, w2, w3, w4, c17, hzl, hz17, hzl', -List.drop_one]
 obtain ⟨tx, htx0⟩ : ∃ tx, tx = (b.drop 17).take m := ⟨_, rfl⟩
 have hzm : z - 17 = m := by omega
 have htl : tx.length = m := by rw [htx0, List.length_take, List.length_drop]; omega
 rw [hzm] at htx
 rw [<- htx0] at htx
 have htv : ∃ tv, (if 17 < b.length then some (AV.vsl (List.drop 17 (strCs b ++ ts)) (z - 17)) else some (AV.vsl [] 0)) = some tv /\ BtA tv tx := by
  by_cases h : 17 < b.length
  · exact ⟨_, if_pos h, by rw [hzm]; exact htx⟩
  · have : tx = [] := List.length_eq_zero_iff.1 (by omega)
    exact ⟨_, if_neg h, by rw [this]; exact .inr ⟨[], rfl⟩⟩
 obtain ⟨tv, e1, htv⟩ := htv
 rw [e1]
 have g1 := htv.len
 have g2 := htv.first
 have g3 := htv.sc
 have g4 := htv.ni
 rw [htl] at g1 g2
 have k1 : m <= 140737488355328 := by omega
 have k2 : m <= 4611686018427387904 := by omega
 have htk : take b = if unle ((b.drop 13).take 4) ≠ (crc ((b.drop 1).take 12 ++ tx)).toNat then (0, [], 0) else (unle ((b.drop 5).take 8), tx, 17 + m) := by
  unfold take
  rw [if_neg e0]
  simp only
  rw [<- hm, if_neg hC, <- htx0]
 have hold : ∀ j x, H1.get j = some x -> j ≠ H1.next /\ j ≠ H1.next + 1 := fun j x hj => by have l := zaa hw hj; omega
 have hcrl : ((b.drop 1).take 12).length = 12 := by rw [List.length_take, List.length_drop]; omega
 have hlive : ∀ (H2 : AHeap) (i cap : Nat) (op : Bool) (junk : List AV), H2.get i = some (.cells (strCs tx ++ junk)) ->
   Does Tryz.prog G 145 [.vsl (List.drop 1 (strCs b ++ ts)) 12, .sl i 0 1 m cap op] H2 fun r h => r = .int .u64 (crc ((b.drop 1).take 12 ++ tx)).toNat /\ h = H2 := by
  intro H2 i cap op junk hg
  have hr := res_buf0 (cap := cap) (op := op) hg
  rw [htl] at hr
  exact (Does.borrow (n := 2) (.keep _ (.res hr .nil)) (crc2_does hcut (.bV tx) (by rw [hcrl]; omega) _) (by rintro r _ ⟨rfl, _⟩; rfl)).mono fun r h ⟨⟨_, h1, _⟩, h2⟩ => ⟨h1, h2⟩
 generalize hcc : (crc ((b.drop 1).take 12 ++ tx)).toNat = cc at htk hlive
 generalize hu4 : unle ((b.drop 13).take 4) = u4 at htk
 have hn2' : ∀ H', Does Tryz.prog G 144 [AV.vsl (List.drop 13 (strCs b ++ ts)) 4] H' fun r h => r = .int .u64 u4 /\ h = H' := fun H' => (hn2 H').mono fun r h ⟨h1, h2⟩ => ⟨by rw [h1, <- hu4], h2⟩
 by_cases hm0 : m = 0
 · have txe : tx = [] := List.length_eq_zero_iff.1 (by omega)
   have g2' := htv.first0 (by omega)
   subst hm0
   simp [g1, g2', g3, za4, zae, -zal, -zaq]
   refine aw_still zah (by kernel_rfl) ?_
   intro es hes
   simp [c13, c17, d13, d1, -List.drop_one]
   refine ⟨_, hn2' _, as_cont ?_⟩
   simp [c13, c17, d13, d1, -List.drop_one]
   refine ⟨_, hlive _ _ _ _ [] (by simp [txe, strCs]), as_cont ?_⟩
   simp [c13, c17, d13, d1, -List.drop_one]
   subst hes
   refine ⟨by kernel_rfl, ?_⟩
   by_cases hq : u4 = cc
   · have hq' : ((u4 : Int) != (cc : Int)) = false := by simp [hq]
     rw [if_neg (by simpa using hq)] at htk
     simp [hq', c5, c13, d5, -List.drop_one]
     refine zab (hn3 _) ?_
     rintro r H2 ⟨rfl, rfl⟩
     simp [htk]
     refine ⟨_, ⟨rfl, by omega⟩, fun j x hj => ?_, .inr ⟨H1.next, ⟨0, .inl (by rw [htl])⟩, Nat.le_refl _, by simp [txe, strCs]⟩⟩
     obtain ⟨q1, q2⟩ := hold j x hj
     simp [q1, q2, hj]
   · have hq' : ((u4 : Int) != (cc : Int)) = true := by rw [bne_iff_ne]; omega
     rw [if_pos hq] at htk
     simp [hq', htk]
     intro j x hj
     obtain ⟨q1, q2⟩ := hold j x hj
     simp [q1, q2, hj]
 · have hm1 : ¬ m <= 0 := by omega
   simp [g1, g2, g3, hm0, hm1, k1, k2, za4, zae, htl, -zal, -zaq]
   refine aw_still zah (by kernel_rfl) ?_
   intro es hes
   simp [c13, c17, d13, d1, -List.drop_one]
   refine ⟨_, hn2' _, as_cont ?_⟩
   simp [c13, c17, d13, d1, -List.drop_one]
   refine ⟨_, hlive _ _ _ _ [] (by simp), as_cont ?_⟩
   simp [c13, c17, d13, d1, -List.drop_one]
   subst hes
   refine ⟨by kernel_rfl, ?_⟩
   by_cases hq : u4 = cc
   · have hq' : ((u4 : Int) != (cc : Int)) = false := by simp [hq]
     rw [if_neg (by simpa using hq)] at htk
     simp [hq', c5, c13, d5, -List.drop_one]
     refine zab (hn3 _) ?_
     rintro r H2 ⟨rfl, rfl⟩
     simp [htk]
     refine ⟨_, ⟨rfl, by omega⟩, fun j x hj => ?_, .inr ⟨H1.next + 1, ⟨m, .inr (by rw [htl])⟩, by omega, by simp⟩⟩
     obtain ⟨q1, q2⟩ := hold j x hj
     simp [q1, q2, hj]
   · have hq' : ((u4 : Int) != (cc : Int)) = true := by rw [bne_iff_ne]; omega
     rw [if_pos hq] at htk
     simp [hq', htk]
     intro j x hj
     obtain ⟨q1, q2⟩ := hold j x hj
     simp [q1, q2, hj]
theorem take_does' {bv : AV} {b : Bs} (hb : BtA bv b) (hl : b.length <= 1000000000) (H : AHeap) :
  Does Tryz.prog G 95 [bv] H fun r h => ∃ tv, (BtA tv (take b).2.1 /\ ∀ n, AV.idLt n tv = true) /\ r = .tuple [.int .u64 (take b).1, tv, .int .i64 (take b).2.2] /\ h = H := by
 refine Does.wfs fun hw ha => (take_run hb hl H).ghost fun r H1 ⟨tv, hr, hs, ht⟩ => ?_
 rcases ht with ⟨rfl, e⟩ | ⟨i, cap, op, rfl, hi, hg⟩
 · exact ⟨r, H, Ghost.back hw (by rw [hr]; rfl) hs, .nilsl, ⟨by rw [e]; exact .nil, fun _ => rfl⟩, hr, rfl⟩
 · have e1 : r.frz i (strCs (take b).2.1) = .tuple [.int .u64 (take b).1, bV (take b).2.1, .int .i64 (take b).2.2] := by
    rw [hr]
    simp [AV.frz, AV.frzs, take_strCs, bV]
   refine ⟨r.frz i (strCs (take b).2.1), H, (Ghost.frz hg).trans (Ghost.back hw ?_ (AHeap.frz_old hw hi hs)), bV _, ⟨.bV _, fun n => by simp [AV.idLt, bV, strCs_lt]⟩, e1, rfl⟩
   rw [e1]
   simp [AV.idLt, AV.allLt, bV, strCs_lt]
theorem take_does {bv : AV} {b : Bs} (hb : BtA bv b) (hl : b.length <= 1000000000) (H : AHeap) :
  Does Tryz.prog G 95 [bv] H fun r h => ∃ tv, BtA tv (take b).2.1 /\ r = .tuple [.int .u64 (take b).1, tv, .int .i64 (take b).2.2] /\ h = H :=
 (take_does' hb hl H).mono fun r h ⟨tv, h1, h2, h3⟩ => ⟨tv, h1.1, h2, h3⟩
inductive Bts : List AV -> List Bs -> Prop
 | nil : Bts [] []
 | cons {v : AV} {b : Bs} {vs : List AV} {l : List Bs} (h : BtA v b) (t : Bts vs l) : Bts (v :: vs) (b :: l)
theorem Bts.len {vs : List AV} {l : List Bs} (h : Bts vs l) : vs.length = l.length := by
 induction h with
 | nil => rfl
 | cons h t ih => simp [ih]
theorem Bts.snoc {vs : List AV} {l : List Bs} (h : Bts vs l) {v : AV} {b : Bs} (hv : BtA v b) : Bts (vs ++ [v]) (l ++ [b]) := by
 induction h with
 | nil => exact .cons hv .nil
 | cons h t ih => exact .cons h ih
def LsA (H0 H : AHeap) (v : AV) (l : List Bs) : Prop := (v = .nilsl /\ l = []) \/ ∃ i op vs, v = .sl i 0 1 l.length l.length op /\ H0.next <= i /\ H.get i = some (.cells vs) /\ Bts vs l
theorem LsA.new {H0 H : AHeap} {i n : Nat} {vs : List AV} {v : AV} {l : List Bs} {b : Bs} (hi : H0.next <= i) (hn : n = l.length + 1) (hg : H.get i = some (.cells (vs ++ [v]))) (hv : Bts vs l) (hb : BtA v b) : LsA H0 H (.sl i 0 1 n n true) (l ++ [b]) :=
 .inr ⟨i, true, vs ++ [v], by rw [hn]; simp, hi, hg, hv.snoc hb⟩
theorem all_run {bv : AV} {b : Bs} (hb : BtA bv b) (hl : b.length <= 1000000000) (H : AHeap) :
  Does Tryz.prog G 58 [bv, .int .u64 0] H fun r H1 => ∃ lv, r = .tuple [lv, .int .i64 (all (b.length + 1) 0 b).2] /\ LsA H H1 lv (all (b.length + 1) 0 b).1 /\ ∀ j x, H.get j = some x -> H1.get j = some x := by
 refine Does.wf Tryz.call58 fun hw _ => ?_
 refine zad Tryz.call58 Tryz.func58 rfl (by simp [Tryz.f58]) ?_
 simp
 refine zam (fun n T' H' => ∃ (pre : List Bs) (size next : Nat), size <= b.length /\ pre.length <= size /\ b.length - size < n + 1 /\ next < 18446744073709551616 /\ T' 0 = bv /\ T' 5 = .int .i64 size /\ T' 6 = .int .u64 next /\ LsA H H' (T' 4) pre /\
  (all (b.length + 1) 0 b).1 = pre ++ (all (n + 1) next (b.drop size)).1 /\ (all (b.length + 1) 0 b).2 = size + (all (n + 1) next (b.drop size)).2 /\ (∀ j x, H.get j = some x -> H'.get j = some x) /\ H.next <= H'.next) b.length ?_ ?_
 · exact ⟨[], 0, 0, by omega, by simp, by omega, by omega, by simp, by simp, by simp, .inl ⟨by simp, rfl⟩, by simp, by simp, fun j x hj => hj, Nat.le_refl _⟩
 rintro n T H1 ⟨pre, size, next, hsz, hpl, hn, hnx, t0, t5, t6, hL, hA1, hA2, hs, hHn⟩ hw1 _
 have hcut : ∃ tv, aslice Tryz.prog 22 bv (some (.int .i64 size)) none none = some tv /\ BtA tv (b.drop size) := by
  rcases hb with ⟨rfl, rfl⟩ | ⟨ts, rfl⟩
  · have : size = 0 := by simpa using hsz
    subst this
    exact ⟨.nilsl, by simp, .nil⟩
  · have h1 : (size : Int) <= b.length := by omega
    by_cases h : size < b.length
    · refine ⟨.vsl (List.drop size (strCs b ++ ts)) (b.length - size), by simp [hsz, h], ?_⟩
      have := cutBt (b := b) (ts := ts) (l := size) (h := b.length) (by omega) (by omega)
      rwa [List.take_of_length_le (by simp)] at this
    · refine ⟨.vsl [] 0, by simp [hsz, h], ?_⟩
      rw [List.drop_eq_nil_of_le (by omega)]
      exact .inr ⟨[], rfl⟩
 obtain ⟨tv, e1, htv⟩ := hcut
 simp [t0, t5, t6, e1, -aslice]
 refine zac (take_does htv (by simp; omega) H1) ?_
 rintro r H2 ⟨xv, hxv, rfl, rfl⟩ _ _
 have hts := take_size (b.drop size)
 have hal : all (n + 1) next (b.drop size) = if (take (b.drop size)).2.2 = 0 \/ (take (b.drop size)).1 ≠ next then ([], 0)
   else if next = 18446744073709551615 then ([(take (b.drop size)).2.1], (take (b.drop size)).2.2)
   else ((take (b.drop size)).2.1 :: (all n (next + 1) ((b.drop size).drop (take (b.drop size)).2.2)).1, (take (b.drop size)).2.2 + (all n (next + 1) ((b.drop size).drop (take (b.drop size)).2.2)).2) := rfl
 generalize take (b.drop size) = x at *
 obtain ⟨xn, xt, xk⟩ := x
 simp only at hxv hts hal
 rw [List.length_drop] at hts
 by_cases hk0 : xk = 0
 · rw [if_pos (.inl hk0)] at hal
   rw [hal] at hA1 hA2
   simp at hA1 hA2
   simp [hk0, t0, t5, t6]
   exact ⟨_, ⟨rfl, by rw [hA2]⟩, by rw [hA1]; exact hL, hs⟩
 by_cases hne : xn = next
 case neg =>
  rw [if_pos (.inr hne)] at hal
  rw [hal] at hA1 hA2
  simp at hA1 hA2
  have hne' : ((xn : Int) != (next : Int)) = true := by rw [bne_iff_ne]; omega
  simp [hk0, hne', t0, t5, t6]
  exact ⟨_, ⟨rfl, by rw [hA2]⟩, by rw [hA1]; exact hL, hs⟩
 rw [if_neg (by simp [hk0, hne])] at hal
 have w1 : IntKind.i64.wrap ((size : Int) + xk) = ((size + xk : Nat) : Int) := by rw [IntWalk.i64_in _ (by omega)]; omega
 have hxc := hxv.cells
 have hxs := hxv.sc
 have hxl := htv.len
 subst hne
 have k1 : (pre.length + 1) * 24 <= 140737488355328 := by omega
 have k2 : pre.length + 1 <= 4611686018427387904 := by omega
 have k3 : ¬ pre.length + 1 <= pre.length := by omega
 have w2 : xn ≠ 18446744073709551615 -> IntKind.u64.wrap ((xn : Int) + 1) = ((xn + 1 : Nat) : Int) := fun h => by rw [IntWalk.u64_in _ (by omega)]; omega
 -- what is behind the append
 have hfin : ∀ {H3 : AHeap} {lv : AV}, LsA H H3 lv (pre ++ [xt]) -> (∀ j x, H.get j = some x -> H3.get j = some x) -> H.next <= H3.next -> xn ≠ 18446744073709551615 ->
   ∃ m, m < n /\ ∃ (pre' : List Bs) (size' : Nat), size' <= b.length /\ pre'.length <= size' /\ b.length - size' < m + 1 /\ ∃ next' : Nat, next' < 18446744073709551616 /\ (size : Int) + xk = size' /\ (xn : Int) + 1 = next' /\ LsA H H3 lv pre' /\
     (all (b.length + 1) 0 b).1 = pre' ++ (all (m + 1) next' (b.drop size')).1 /\ (all (b.length + 1) 0 b).2 = size' + (all (m + 1) next' (b.drop size')).2 /\ (∀ j x, H.get j = some x -> H3.get j = some x) /\ H.next <= H3.next := by
  intro H3 lv h1 h2 h4 h3
  rw [if_neg h3] at hal
  rw [hal, List.drop_drop] at hA1 hA2
  have hn1 : n = (n - 1) + 1 := by omega
  refine ⟨n - 1, by omega, pre ++ [xt], size + xk, by omega, by simp; omega, by omega, xn + 1, by omega, by push_cast; rfl, by push_cast; rfl, h1, ?_, ?_, h2, h4⟩
  · rw [hA1, <- hn1]; simp
  · rw [hA2, <- hn1]; simp only; omega
 have hend2 : xn = 18446744073709551615 -> (all (b.length + 1) 0 b).1 = pre ++ [xt] /\ (all (b.length + 1) 0 b).2 = size + xk := by
  intro h
  rw [if_pos h] at hal
  rw [hal] at hA1 hA2
  exact ⟨hA1, hA2⟩
 have hend3 : ¬ xn = 18446744073709551615 -> ¬ (xn : Int) = 18446744073709551615 := fun h => by omega
 have hold : ∀ j x, H.get j = some x -> H2.get j = some x /\ j < H2.next /\ j < H.next := fun j x hj => ⟨hs j x hj, zaa hw1 (hs j x hj), zaa hw hj⟩
 rcases hL with ⟨t4, hp0⟩ | ⟨i, op, vs, t4, hi, hg, hvs⟩
 · subst hp0
   by_cases hend : xn = 18446744073709551615
   · skip
     simp [hk0, t0, t4, t5, t6, hxc, hxs, w1, hend]
     obtain ⟨a1, a2⟩ := hend2 hend
     rw [a1, a2]
     refine ⟨_, ⟨rfl, by push_cast; rfl⟩, ?_, fun j x hj => ?_⟩
     · exact LsA.new (vs := []) (by omega) rfl (by simp) .nil hxv
     obtain ⟨q1, q2, q3⟩ := hold j x hj
     have q4 : j ≠ H2.next := by omega
     have q5 : j ≠ H2.next + 1 := by omega
     simp [q1, q4, q5]
   · skip
     simp [hk0, t0, t4, t5, t6, hxc, hxs, w1, w2 hend, hend3 hend, hend]
     refine hfin ?_ (fun j x hj => ?_) ?_ hend
     · exact LsA.new (vs := []) (by omega) rfl (by simp) .nil hxv
     rotate_left
     · simp; omega
     obtain ⟨q1, q2, q3⟩ := hold j x hj
     have q4 : j ≠ H2.next := by omega
     have q5 : j ≠ H2.next + 1 := by omega
     simp [q1, q4, q5]
 · have n1 : i ≠ H2.next := by have := zaa hw1 hg; omega
   have hvl := hvs.len
   have tkv : List.take pre.length vs = vs := by rw [<- hvl, List.take_length]
   cases op
   · by_cases hend : xn = 18446744073709551615
     · skip
       simp [hk0, t0, t4, t5, t6, hxc, hxs, w1, hg, n1, hvl, k1, k2, k3, hend]
       obtain ⟨a1, a2⟩ := hend2 hend
       rw [a1, a2]
       refine ⟨_, ⟨rfl, by push_cast; rfl⟩, ?_, fun j x hj => ?_⟩
       · exact LsA.new (vs := vs) (by omega) rfl (by simp [tkv]) hvs hxv
       obtain ⟨q1, q2, q3⟩ := hold j x hj
       have q4 : j ≠ H2.next := by omega
       have q5 : j ≠ H2.next + 1 := by omega
       have q6 : j ≠ i := by omega
       simp [q1, q4, q5, q6]
     · skip
       simp [hk0, t0, t4, t5, t6, hxc, hxs, w1, w2 hend, hend3 hend, hg, n1, hvl, k1, k2, k3, hend]
       refine hfin ?_ (fun j x hj => ?_) ?_ hend
       · exact LsA.new (vs := vs) (by omega) rfl (by simp [tkv]) hvs hxv
       rotate_left
       · simp; omega
       obtain ⟨q1, q2, q3⟩ := hold j x hj
       have q4 : j ≠ H2.next := by omega
       have q5 : j ≠ H2.next + 1 := by omega
       have q6 : j ≠ i := by omega
       simp [q1, q4, q5, q6]
   · by_cases hend : xn = 18446744073709551615
     · skip
       simp [hk0, t0, t4, t5, t6, hxc, hxs, w1, hg, n1, hvl, k1, k2, k3, hend]
       obtain ⟨a1, a2⟩ := hend2 hend
       rw [a1, a2]
       refine ⟨_, ⟨rfl, by push_cast; rfl⟩, ?_, fun j x hj => ?_⟩
       · exact LsA.new (vs := vs) (by omega) rfl (by simp [tkv]) hvs hxv
       obtain ⟨q1, q2, q3⟩ := hold j x hj
       have q4 : j ≠ H2.next := by omega
       have q5 : j ≠ H2.next + 1 := by omega
       have q6 : j ≠ i := by omega
       simp [q1, q4, q5, q6]
     · skip
       simp [hk0, t0, t4, t5, t6, hxc, hxs, w1, w2 hend, hend3 hend, hg, n1, hvl, k1, k2, k3, hend]
       refine hfin ?_ (fun j x hj => ?_) ?_ hend
       · exact LsA.new (vs := vs) (by omega) rfl (by simp [tkv]) hvs hxv
       rotate_left
       · simp; omega
       obtain ⟨q1, q2, q3⟩ := hold j x hj
       have q4 : j ≠ H2.next := by omega
       have q5 : j ≠ H2.next + 1 := by omega
       have q6 : j ≠ i := by omega
       simp [q1, q4, q5, q6]
theorem cloneB_run {b : Bs} {ts : List AV} (hl : b.length <= 1000000000) (H : AHeap) : Does Tryz.prog G 26 [.vsl (strCs b ++ ts) b.length] H fun r H1 =>
  ∃ i cap op junk, r = .sl i 0 1 b.length cap op /\ H.next <= i /\ H1.get i = some (.cells (strCs b ++ junk)) /\ ∀ j x, H.get j = some x -> H1.get j = some x := by
 refine Does.wf Tryz.call26 fun hw _ => ?_
 have k1 : b.length <= 140737488355328 := by omega
 have k2 : b.length <= 4611686018427387904 := by omega
 have hold : ∀ j x, H.get j = some x -> j ≠ H.next /\ j ≠ H.next + 1 := fun j x hj => by have l := zaa hw hj; omega
 refine zad Tryz.call26 Tryz.func26 rfl (by simp [Tryz.f26]) ?_
 by_cases h0 : b.length = 0
 · have hb : b = [] := List.length_eq_zero_iff.1 h0
   subst hb
   simp [strCs]
   intro j x hj
   obtain ⟨e0, e1⟩ := hold j x hj
   simp [e0, hj]
 · have h1 : ¬ b.length <= 0 := by omega
   simp [h0, h1, k1, k2, za4, zae]
   intro j x hj
   obtain ⟨e0, e1⟩ := hold j x hj
   simp [e0, e1, hj]
theorem cloneB_does {bv : AV} {b : Bs} (hb : BtA bv b) (hl : b.length <= 1000000000) (H : AHeap) : Does Tryz.prog G 26 [bv] H fun r h => BtA r b /\ h = H := by
 rcases hb with ⟨rfl, rfl⟩ | ⟨ts, rfl⟩
 · refine zad Tryz.call26 Tryz.func26 rfl (by simp [Tryz.f26]) ?_
   simp
   exact .nil
 · exact (fresh_bytes (cloneB_run hl H)).mono fun r h ⟨h1, h2⟩ => ⟨by rw [h1]; exact .bV b, h2⟩
theorem growB_does {n : Nat} (hl : n <= 2000000000) (H : AHeap) : Does Tryz.prog G 306 [.nilsl, .int .i64 n] H fun r h =>
  (n = 0 /\ r = .nilsl /\ h = H) \/ (0 < n /\ r = .sl H.next 0 1 0 n true /\ h = H.push (.cells (arep [.int .u8 0] n))) := by
 refine zad Tryz.call306 Tryz.func306 rfl (by simp [Tryz.f306]) ?_
 have c1 : ¬ (n : Int) < 0 := by omega
 have w0 : IntKind.i64.wrap 0 = 0 := by decide
 have w1 : IntKind.i64.wrap (n : Int) = n := IntWalk.i64_in _ (by omega)
 by_cases h0 : n = 0
 · subst h0
   simp [w0]
 · have c2 : (0 : Int) < n := by omega
   have c3 : 0 < n := by omega
   have c4 : n <= 140737488355328 := by omega
   have c5 : (n : Int) <= 4611686018427387904 := by omega
   simp [azeros, c1, c2, c3, c4, c5, w0, w1, h0, -arep]
theorem concatB_run {H : AHeap} {q : Nat} {av bv : AV} {a b : Bs} (ha : BtA av a) (hb : BtA bv b) (hq : H.get q = some (.cells [av, bv])) (hl : a.length + b.length <= 1000000000) :
  Does Tryz.prog G 252 [.sl q 0 1 2 2 false] H fun r H1 => (∀ j x, H.get j = some x -> H1.get j = some x) /\ ((r = .nilsl /\ a ++ b = []) \/
  ∃ i cap op junk, r = .sl i 0 1 (a ++ b).length cap op /\ H.next <= i /\ H1.get i = some (.cells (strCs (a ++ b) ++ junk)) /\ 0 < a.length + b.length) := by
 refine Does.wf Tryz.call252 fun hw _ => ?_
 refine zad Tryz.call252 Tryz.func252 rfl (by simp [Tryz.f252]) ?_
 have hal : ∀ {v : AV} {l : Bs}, BtA v l -> alen Tryz.prog 22 v = some (.int .i64 l.length) := by
  intro v l h
  rcases h with ⟨rfl, rfl⟩ | ⟨ts, rfl⟩ <;> simp [alen]
 have ha1 := hal ha
 have hb1 := hal hb
 have w1 : IntKind.i64.wrap (a.length : Int) = a.length := IntWalk.i64_in _ (by omega)
 obtain ⟨N, hN⟩ : ∃ N, N = a.length + b.length := ⟨_, rfl⟩
 have w2 : IntKind.i64.wrap ((a.length : Int) + b.length) = (N : Int) := by rw [IntWalk.i64_in _ (by omega)]; omega
 have w3 : IntKind.i64.wrap 1 = 1 := by decide
 have w4 : IntKind.i64.wrap 2 = 2 := by decide
 have c1 : ¬ (a.length : Int) < 0 := by omega
 have c2 : ¬ (N : Int) < 0 := by omega
 simp [hq]
 refine zaE (fun m T' H' => H' = H /\ T' 0 = .sl q 0 1 2 2 false /\ T' 9 = .sl q 0 1 2 2 false /\ T' 10 = .int .i64 2 /\ (m = 2 /\ T' 11 = .int .i64 0 /\ T' 3 = .int .i64 0 \/ m = 1 /\ T' 11 = .int .i64 1 /\ T' 3 = .int .i64 a.length \/ m = 0 /\ T' 11 = .int .i64 2 /\ T' 3 = .int .i64 (N : Int))) 2 ?_ ?_
 · exact ⟨rfl, by simp, by simp, by simp, .inl ⟨rfl, by simp, by simp⟩⟩
 rintro m T H1 ⟨rfl, t0, t9, t10, ⟨rfl, t11, t3⟩ | ⟨rfl, t11, t3⟩ | ⟨rfl, t11, t3⟩⟩
 · simp [t0, t9, t10, t11, t3, hq, ha1, w1, w3, c1, -alen]
 · simp [t0, t9, t10, t11, t3, hq, hb1, w2, w4, c2, -alen]
 simp [t0, t9, t10, t11, t3, hq, -alen]
 refine zac (growB_does (n := N) (by omega) H1) ?_
 have hold : ∀ j x, H1.get j = some x -> j ≠ H1.next := fun j x hj => by have l := zaa hw hj; omega
 have a1 := ha.len
 have a2 := ha.first
 have a3 := ha.sc
 have a4 := ha.ni
 have b1 := hb.len
 have b2 := hb.first
 have b3 := hb.sc
 have b4 := hb.ni
 rintro r H2 (⟨hN0, rfl, rfl⟩ | ⟨hN0, rfl, rfl⟩) hw2 _
 · have hal0 : a.length = 0 := by omega
   have hbl0 : b.length = 0 := by omega
   have a2' := ha.first0 hal0
   have b2' := hb.first0 hbl0
   rw [hal0] at a1
   rw [hbl0] at b1
   simp [t0]
   refine zaE (fun m T' H' => H' = H2 /\ T' 25 = .sl q 0 1 2 2 false /\ T' 26 = .int .i64 2 /\ T' 6 = .nilsl /\ (m = 2 /\ T' 27 = .int .i64 0 \/ m = 1 /\ T' 27 = .int .i64 1 \/ m = 0 /\ T' 27 = .int .i64 2)) 2 ?_ ?_
   · exact ⟨rfl, by simp, by simp, by simp, .inl ⟨rfl, by simp⟩⟩
   rintro m T H1 ⟨rfl, t25, t26, t6, ⟨rfl, t27⟩ | ⟨rfl, t27⟩ | ⟨rfl, t27⟩⟩
   · simp [t25, t26, t27, t6, hq, w3, a1, a2', a3, -zal, -zaq]
   · simp [t25, t26, t27, t6, hq, w4, b1, b2', b3, -zal, -zaq]
   · simp [t25, t26, t27, t6]
     exact ⟨List.length_eq_zero_iff.1 hal0, List.length_eq_zero_iff.1 hbl0⟩
 · simp [t0, -arep]
   have hq2 := hold _ _ hq
   refine zaE (fun m T' H' => T' 25 = .sl q 0 1 2 2 false /\ T' 26 = .int .i64 2 /\ (∀ j x, H1.get j = some x -> H'.get j = some x) /\
    (m = 2 /\ T' 27 = .int .i64 0 /\ T' 6 = .sl H1.next 0 1 0 N true /\ H'.get H1.next = some (.cells (strCs [] ++ arep [.int .u8 0] N)) \/
     m = 1 /\ T' 27 = .int .i64 1 /\ T' 6 = .sl H1.next 0 1 a.length N true /\ H'.get H1.next = some (.cells (strCs a ++ (arep [.int .u8 0] N).drop a.length)) \/
     m = 0 /\ T' 27 = .int .i64 2 /\ T' 6 = .sl H1.next 0 1 N N true /\ ∃ junk, H'.get H1.next = some (.cells (strCs (a ++ b) ++ junk)))) 2 ?_ ?_
   · refine ⟨by simp, by simp, fun j x hj => ?_, .inl ⟨rfl, by simp, by simp, by simp [strCs, -arep]⟩⟩
     simp [hold j x hj, hj]
   rintro m T H3 ⟨t25, t26, hs, ⟨rfl, t27, t6, hg⟩ | ⟨rfl, t27, t6, hg⟩ | ⟨rfl, t27, t6, junk, hg⟩⟩
   · have hq3 := hs _ _ hq
     have k1 : a.length <= N := by omega
     simp [t25, t26, t27, t6, hq3, hg, w3, a1, a2, a3, k1, arep_len, za4, zae, strCs, -arep, -zal, -zaq]
     intro j x hj
     simp [hold j x hj]
     exact hs j x hj
   · have hq3 := hs _ _ hq
     have k1 : a.length + b.length <= N := by omega
     have k2 : b.length <= N - a.length := by omega
     simp [t25, t26, t27, t6, hq3, hg, w4, b1, b2, b3, k1, k2, arep_len, za4, zae, -arep, -zal, -zaq]
     refine ⟨fun j x hj => ?_, hN.symm, _, by rw [strCs_app, List.append_assoc]⟩
     simp [hold j x hj]
     exact hs j x hj
   · simp [t25, t26, t27, t6]
     exact ⟨hs, H1.next, ⟨rfl, hN⟩, Nat.le_refl _, ⟨junk, hg⟩, by omega⟩
def FlAt (n s : AV) (f : Fl) : Prop := BtA n f.now /\ BtA s f.synced
def dkV (n0 s0 n1 s1 n2 s2 : AV) (d : Dk) : List AV := [n0, s0, .bool d.f0.other, n1, s1, .bool d.f1.other, n2, s2, .bool d.f2.other, .bool d.off, .bool d.crashed, .int .i64 d.fuse, .int .i64 d.lives]
def DkC (cs : List AV) (d : Dk) : Prop := ∃ n0 s0 n1 s1 n2 s2, cs = dkV n0 s0 n1 s1 n2 s2 d /\ FlAt n0 s0 d.f0 /\ FlAt n1 s1 d.f1 /\ FlAt n2 s2 d.f2
def DkAt (H : AHeap) (k : Nat) (d : Dk) : Prop := ∃ cs, DkC cs d /\ H.get k = some (.cells cs)
def DkTo (H h : AHeap) (k : Nat) (d : Dk) : Prop := ∃ cs, DkC cs d /\ h = H.set k (.cells cs)
theorem DkTo.at {H h : AHeap} {k : Nat} {d : Dk} (t : DkTo H h k d) : DkAt h k d := by
 obtain ⟨cs, h1, rfl⟩ := t
 exact ⟨cs, h1, by simp⟩
theorem DkTo.off {H h : AHeap} {k : Nat} {d : Dk} (t : DkTo H h k d) {j : Nat} (hj : j ≠ k) : h.get j = H.get j := by
 obtain ⟨cs, h1, rfl⟩ := t
 simp [hj]
def dkOk (d : Dk) : Prop := 0 <= d.fuse /\ d.fuse <= 9223372036854775807 /\ 0 <= d.lives /\ d.lives <= 1000000000 /\ d.f0.now.length <= 262144 /\ d.f1.now.length <= 262144 /\ d.f2.now.length <= 262144 /\ d.f0.synced.length <= 262144 /\ d.f1.synced.length <= 262144 /\ d.f2.synced.length <= 262144
theorem set_self {H : AHeap} {k : Nat} {x : AObj} (h : H.get k = some x) : H.set k x = H := by
 refine AHeap.ext' rfl fun i => ?_
 simp only [AHeap.get_set]
 split
 · rename_i e; rw [e, h]
 · rfl
theorem may_does {H : AHeap} {k : Nat} {d : Dk} (hk : DkAt H k d) {n : Nat} (hn : n < 3) : Does Tryz.prog G 24 [.ptr k 0, .int .i64 n] H fun r h => r = .int .i64 (if d.off = true then 4 else 0) /\ h = H := by
 obtain ⟨cs, ⟨n0, s0, n1, s1, n2, s2, rfl, _⟩, hk⟩ := hk
 refine zad Tryz.call24 Tryz.func24 rfl (by simp [Tryz.f24]) ?_
 have c1 : ¬ (n : Int) < 0 := by omega
 have c2 : ¬ (3 : Int) <= n := by omega
 obtain ⟨f0, f1, f2, off, crashed, fuse, lives⟩ := d
 cases off <;> simp [c1, c2, hk, dkV]
theorem blown_does {H : AHeap} {k : Nat} {d : Dk} (hk : DkAt H k d) (hd : dkOk d) : Does Tryz.prog G 27 [.ptr k 0] H fun r h => r = .bool d.blown.1 /\ DkTo H h k d.blown.2 := by
 obtain ⟨cs, ⟨n0, s0, n1, s1, n2, s2, rfl, hf⟩, hk⟩ := hk
 obtain ⟨d1, d2, d3, d4, _⟩ := hd
 refine zad Tryz.call27 Tryz.func27 rfl (by simp [Tryz.f27]) ?_
 obtain ⟨f0, f1, f2, off, crashed, fuse, lives⟩ := d
 simp only at d1 d2 d3 d4 hf
 have w1 : IntKind.i64.wrap (fuse - 1) = fuse - 1 := IntWalk.i64_in _ (by omega)
 by_cases h0 : fuse = 0
 · subst h0
   simp [hk, dkV, Dk.blown]
   exact ⟨_, ⟨n0, s0, n1, s1, n2, s2, rfl, hf⟩, (set_self hk).symm⟩
 · by_cases h1 : 0 < fuse - 1
   · have h1' : 1 < fuse := by omega
     simp [hk, dkV, Dk.blown, h0, h1, h1', w1]
     exact ⟨_, ⟨n0, s0, n1, s1, n2, s2, rfl, hf⟩, rfl⟩
   · have h1' : ¬ 1 < fuse := by omega
     simp [hk, dkV, Dk.blown, h0, h1, h1', w1]
     exact ⟨_, ⟨n0, s0, n1, s1, n2, s2, rfl, hf⟩, rfl⟩
theorem dkOk_blown {d : Dk} (h : dkOk d) : dkOk d.blown.2 := by
 obtain ⟨h1, h2, h3, h4, h5⟩ := h
 unfold Dk.blown
 split
 · exact ⟨h1, h2, h3, h4, h5⟩
 · split
   · exact ⟨by simp only; omega, by simp only; omega, h3, h4, h5⟩
   · exact ⟨by simp only; omega, by simp only; omega, h3, h4, h5⟩
theorem change_does {H : AHeap} {k : Nat} {d : Dk} (hk : DkAt H k d) (hd : dkOk d) {n : Nat} (hn : n < 3) {bv : AV} {b : Bs} (hb : BtA bv b) (hl : b.length <= 1000000000) (o : Bool) :
  Does Tryz.prog G 25 [.ptr k 0, .int .i64 n, bv, .bool o] H fun r h => r = .int .i64 (d.change n b o).1 /\ DkTo H h k (d.change n b o).2 := by
 refine zad Tryz.call25 Tryz.func25 rfl (by simp [Tryz.f25]) ?_
 have hlv : alen Tryz.prog 22 bv = some (.int .i64 b.length) := by
  rcases hb with ⟨rfl, rfl⟩ | ⟨ts, rfl⟩ <;> simp [alen]
 by_cases hA : 262144 < b.length
 · have hA' : (262144 : Int) < b.length := by omega
   have e : d.change n b o = (6, d) := by simp [Dk.change, hA]
   obtain ⟨cs, hc, hg⟩ := hk
   simp [hlv, hA', e, -alen]
   exact ⟨cs, hc, (set_self hg).symm⟩
 have hA' : ¬ (262144 : Int) < b.length := by omega
 simp [hlv, hA', -alen]
 refine zab (blown_does hk hd) ?_
 rintro r h ⟨rfl, ht⟩
 have hx : d.change n b o = if d.blown.1 = true then (4, d.blown.2) else (0, d.blown.2.setF n { d.blown.2.file n with now := b, other := (d.blown.2.file n).other || o }) := by simp [Dk.change, hA]
 obtain ⟨cs, ⟨n0, s0, n1, s1, n2, s2, rfl, h0, h1, h2⟩, rfl⟩ := ht
 generalize d.blown = y at *
 obtain ⟨y1, y2⟩ := y
 simp only at *
 cases y1
 case true =>
  simp [hx]
  exact ⟨_, ⟨n0, s0, n1, s1, n2, s2, rfl, h0, h1, h2⟩, rfl⟩
 have hbs := hb.sc
 have hbc := hb.cells
 obtain ⟨f0, f1, f2, off, crashed, fuse, lives⟩ := y2
 obtain ⟨fn0, fs0, fo0⟩ := f0
 obtain ⟨fn1, fs1, fo1⟩ := f1
 obtain ⟨fn2, fs2, fo2⟩ := f2
 simp only at *
 match n, hn with
 | 0, _ =>
   cases fo0 <;> simp [dkV, hbs, hbc] <;> refine zaj [(8, 0)] zah (by kernel_rfl) ?_ <;> intro es hes <;> simp [rds, heapF] <;> refine ⟨by subst hes; exact ⟨by kernel_rfl, by kernel_rfl⟩, ?_⟩ <;> rw [hx]
   · exact ⟨by simp, _, ⟨bv, s0, n1, s1, n2, s2, rfl, ⟨hb, h0.2⟩, h1, h2⟩, by simp [dkV, Dk.setF, Dk.file]⟩
   · exact ⟨by simp, _, ⟨bv, s0, n1, s1, n2, s2, rfl, ⟨hb, h0.2⟩, h1, h2⟩, by simp [dkV, Dk.setF, Dk.file]⟩
 | 1, _ =>
   cases fo1 <;> simp [dkV, hbs, hbc] <;> refine zaj [(8, 0)] zah (by kernel_rfl) ?_ <;> intro es hes <;> simp [rds, heapF] <;> refine ⟨by subst hes; exact ⟨by kernel_rfl, by kernel_rfl⟩, ?_⟩ <;> rw [hx]
   · exact ⟨by simp, _, ⟨n0, s0, bv, s1, n2, s2, rfl, h0, ⟨hb, h1.2⟩, h2⟩, by simp [dkV, Dk.setF, Dk.file]⟩
   · exact ⟨by simp, _, ⟨n0, s0, bv, s1, n2, s2, rfl, h0, ⟨hb, h1.2⟩, h2⟩, by simp [dkV, Dk.setF, Dk.file]⟩
 | 2, _ =>
   cases fo2 <;> simp [dkV, hbs, hbc] <;> refine zaj [(8, 0)] zah (by kernel_rfl) ?_ <;> intro es hes <;> simp [rds, heapF] <;> refine ⟨by subst hes; exact ⟨by kernel_rfl, by kernel_rfl⟩, ?_⟩ <;> rw [hx]
   · exact ⟨by simp, _, ⟨n0, s0, n1, s1, bv, s2, rfl, h0, h1, ⟨hb, h2.2⟩⟩, by simp [dkV, Dk.setF, Dk.file]⟩
   · exact ⟨by simp, _, ⟨n0, s0, n1, s1, bv, s2, rfl, h0, h1, ⟨hb, h2.2⟩⟩, by simp [dkV, Dk.setF, Dk.file]⟩
theorem za7 {d : Dk} (hd : dkOk d) (n : Nat) : (d.file n).now.length <= 262144 := by
 obtain ⟨_, _, _, _, h0, h1, h2, _⟩ := hd
 unfold Dk.file
 split
 · exact h0
 · split
   · exact h1
   · exact h2
theorem nowAt {H : AHeap} {k : Nat} {d : Dk} (hk : DkAt H k d) {n : Nat} (hn : n < 3) : ∃ cs v, H.get k = some (.cells cs) /\ cs.length = 13 /\ cs[3 * n]? = some v /\ BtA v (d.file n).now /\ DkC cs d := by
 obtain ⟨cs, hc, hg⟩ := hk
 have hc' := hc
 obtain ⟨n0, s0, n1, s1, n2, s2, rfl, h0, h1, h2⟩ := hc
 match n, hn with
 | 0, _ => exact ⟨_, n0, hg, rfl, rfl, h0.1, hc'⟩
 | 1, _ => exact ⟨_, n1, hg, rfl, rfl, h1.1, hc'⟩
 | 2, _ => exact ⟨_, n2, hg, rfl, rfl, h2.1, hc'⟩
theorem read_does {H : AHeap} {k : Nat} {d : Dk} (hk : DkAt H k d) (hd : dkOk d) {n : Nat} (hn : n < 3) :
  Does Tryz.prog G 57 [.ptr k 0, .int .i64 n] H fun r h => (if d.off = true then r = .tuple [.nilsl, .int .i64 4] else ∃ v, BtA v (d.file n).now /\ r = .tuple [v, .int .i64 0]) /\ h = H := by
 refine zad Tryz.call57 Tryz.func57 rfl (by simp [Tryz.f57]) ?_
 simp
 refine zab (may_does hk hn) ?_
 rintro r h ⟨rfl, rfl⟩
 by_cases hoff : d.off = true
 · simp [hoff]
 obtain ⟨cs, v, hg, hcl, hv, hb, _⟩ := nowAt hk hn
 have hl := za7 hd n
 have c1 : (n : Int) < 3 := by omega
 have c2 : n * 3 <= cs.length := by omega
 have hv' : cs[n * 3]? = some v := by rw [Nat.mul_comm]; exact hv
 simp [hoff, hg, c1, c2, hn, hv']
 refine zab (cloneB_does hb (by omega) _) ?_
 rintro r h2 ⟨hr, rfl⟩
 simp
 exact ⟨by simpa using hoff, hr⟩
theorem settle_does {H : AHeap} {k : Nat} {d : Dk} (hk : DkAt H k d) (hd : dkOk d) {n : Nat} (hn : n < 3) :
  Does Tryz.prog G 28 [.ptr k (n * 3)] H fun r h => DkTo H h k (d.setF n (d.file n).settle) := by
 have hfl := za7 hd n
 obtain ⟨cs, ⟨n0, s0, n1, s1, n2, s2, rfl, h0, h1, h2⟩, hg⟩ := hk
 refine zad Tryz.call28 Tryz.func28 rfl (by simp [Tryz.f28]) ?_
 obtain ⟨f0, f1, f2, off, crashed, fuse, lives⟩ := d
 match n, hn with
 | 0, _ =>
   simp [hg, dkV]
   refine zab (cloneB_does h0.1 (by simp [Dk.file] at hfl; simp only; omega) _) ?_
   rintro r h ⟨hr, rfl⟩
   simp [hg, dkV, hr.cells, hr.sc]
   exact ⟨_, ⟨n0, r, n1, s1, n2, s2, rfl, ⟨h0.1, hr⟩, h1, h2⟩, by simp [dkV, Dk.setF, Dk.file, Fl.settle]⟩
 | 1, _ =>
   simp [hg, dkV]
   refine zab (cloneB_does h1.1 (by simp [Dk.file] at hfl; simp only; omega) _) ?_
   rintro r h ⟨hr, rfl⟩
   simp [hg, dkV, hr.cells, hr.sc]
   exact ⟨_, ⟨n0, s0, n1, r, n2, s2, rfl, h0, ⟨h1.1, hr⟩, h2⟩, by simp [dkV, Dk.setF, Dk.file, Fl.settle]⟩
 | 2, _ =>
   simp [hg, dkV]
   refine zab (cloneB_does h2.1 (by simp [Dk.file] at hfl; simp only; omega) _) ?_
   rintro r h ⟨hr, rfl⟩
   simp [hg, dkV, hr.cells, hr.sc]
   exact ⟨_, ⟨n0, s0, n1, s1, n2, r, rfl, h0, h1, ⟨h2.1, hr⟩⟩, by simp [dkV, Dk.setF, Dk.file, Fl.settle]⟩
theorem sync_does {H : AHeap} {k : Nat} {d : Dk} (hk : DkAt H k d) (hd : dkOk d) {n : Nat} (hn : n < 3) :
  Does Tryz.prog G 9 [.ptr k 0, .int .i64 n] H fun r h => r = .int .i64 (d.sync n).1 /\ DkTo H h k (d.sync n).2 := by
 refine zad Tryz.call9 Tryz.func9 rfl (by simp [Tryz.f9]) ?_
 simp
 refine zab (may_does hk hn) ?_
 rintro r h ⟨rfl, rfl⟩
 by_cases hoff : d.off = true
 · have e : d.sync n = (4, d) := by simp [Dk.sync, hoff]
   simp [hoff, e]
   obtain ⟨cs, hc, hg⟩ := hk
   exact ⟨cs, hc, (set_self hg).symm⟩
 simp [hoff]
 refine zab (blown_does hk hd) ?_
 rintro r h2 ⟨rfl, ht⟩
 have hx : d.sync n = if d.blown.1 = true then (4, d.blown.2) else (0, d.blown.2.setF n (d.blown.2.file n).settle) := by simp [Dk.sync, hoff]
 have hd2 := dkOk_blown hd
 generalize d.blown = y at *
 obtain ⟨y1, y2⟩ := y
 simp only at *
 cases y1
 case true =>
  simp [hx]
  exact ht
 have hat := ht.at
 obtain ⟨cs, v, hg, hcl, hv, hbv, hC⟩ := nowAt hat hn
 have c1 : (n : Int) < 3 := by omega
 have c2 : n * 3 <= cs.length := by omega
 simp [hg, c1, c2, hn]
 refine zab (settle_does hat hd2 hn) ?_
 rintro r h3 ht3
 simp [hx]
 obtain ⟨cs', hc', rfl⟩ := ht3
 obtain ⟨cs'', hc'', rfl⟩ := ht
 exact ⟨cs', hc', by simp⟩
theorem dkOk_setF {d : Dk} (h : dkOk d) (n : Nat) {f : Fl} (h1 : f.now.length <= 262144) (h2 : f.synced.length <= 262144) : dkOk (d.setF n f) := by
 obtain ⟨k1, k2, k3, k4, k5, k6, k7, k8, k9, k10⟩ := h
 unfold Dk.setF
 split
 · exact ⟨k1, k2, k3, k4, h1, k6, k7, h2, k9, k10⟩
 · split
   · exact ⟨k1, k2, k3, k4, k5, h1, k7, k8, h2, k10⟩
   · exact ⟨k1, k2, k3, k4, k5, k6, h1, k8, k9, h2⟩
theorem synced_len {d : Dk} (hd : dkOk d) (n : Nat) : (d.file n).synced.length <= 262144 := by
 obtain ⟨_, _, _, _, _, _, _, h0, h1, h2⟩ := hd
 unfold Dk.file
 split
 · exact h0
 · split
   · exact h1
   · exact h2
theorem crash1_does {H : AHeap} {k : Nat} {d : Dk} (hk : DkAt H k d) (hd : dkOk d) {n : Nat} (hn : n < 3) :
  Does Tryz.prog G 47 [.ptr k (n * 3), .int .i64 0] H fun r h => DkTo H h k (d.setF n (d.file n).crash) := by
 have hd2 : dkOk (d.setF n { d.file n with now := (d.file n).synced }) := dkOk_setF hd n (synced_len hd n) (synced_len hd n)
 obtain ⟨cs, ⟨n0, s0, n1, s1, n2, s2, rfl, h0, h1, h2⟩, hg⟩ := hk
 refine zad Tryz.call47 Tryz.func47 rfl (by simp [Tryz.f47]) ?_
 obtain ⟨f0, f1, f2, off, crashed, fuse, lives⟩ := d
 match n, hn with
 | 0, _ =>
   simp [hg, dkV, h0.2.cells, h0.2.sc]
   refine zab (settle_does (d := Dk.mk ⟨f0.synced, f0.synced, f0.other⟩ f1 f2 off crashed fuse lives) (n := 0) ⟨_, ⟨s0, s0, n1, s1, n2, s2, rfl, ⟨h0.2, h0.2⟩, h1, h2⟩, by simp [dkV]⟩ (by simpa [Dk.setF, Dk.file] using hd2) (by omega)) ?_
   rintro r h ⟨cs', hc', rfl⟩
   simp
   refine ⟨cs', ?_, by simp⟩
   simpa [Dk.setF, Dk.file, Fl.settle, Fl.crash] using hc'
 | 1, _ =>
   simp [hg, dkV, h1.2.cells, h1.2.sc]
   refine zab (settle_does (d := Dk.mk f0 ⟨f1.synced, f1.synced, f1.other⟩ f2 off crashed fuse lives) (n := 1) ⟨_, ⟨n0, s0, s1, s1, n2, s2, rfl, h0, ⟨h1.2, h1.2⟩, h2⟩, by simp [dkV]⟩ (by simpa [Dk.setF, Dk.file] using hd2) (by omega)) ?_
   rintro r h ⟨cs', hc', rfl⟩
   simp
   refine ⟨cs', ?_, by simp⟩
   simpa [Dk.setF, Dk.file, Fl.settle, Fl.crash] using hc'
 | 2, _ =>
   simp [hg, dkV, h2.2.cells, h2.2.sc]
   refine zab (settle_does (d := Dk.mk f0 f1 ⟨f2.synced, f2.synced, f2.other⟩ off crashed fuse lives) (n := 2) ⟨_, ⟨n0, s0, n1, s1, s2, s2, rfl, h0, h1, ⟨h2.2, h2.2⟩⟩, by simp [dkV]⟩ (by simpa [Dk.setF, Dk.file] using hd2) (by omega)) ?_
   rintro r h ⟨cs', hc', rfl⟩
   simp
   refine ⟨cs', ?_, by simp⟩
   simpa [Dk.setF, Dk.file, Fl.settle, Fl.crash] using hc'
theorem crash_does {H : AHeap} {k : Nat} {d : Dk} (hk : DkAt H k d) (hd : dkOk d) :
  Does Tryz.prog G 16 [.ptr k 0, .nilsl] H fun r h => DkTo H h k d.crash := by
 refine zad Tryz.call16 Tryz.func16 rfl (by simp [Tryz.f16]) ?_
 simp
 have w1 : IntKind.i64.wrap 1 = 1 := by decide
 have w2 : IntKind.i64.wrap 2 = 2 := by decide
 have w3 : IntKind.i64.wrap 3 = 3 := by decide
 have o1 : dkOk (d.setF 0 (d.file 0).crash) := dkOk_setF hd 0 (synced_len hd 0) (synced_len hd 0)
 have o2 : dkOk ((d.setF 0 (d.file 0).crash).setF 1 ((d.setF 0 (d.file 0).crash).file 1).crash) := dkOk_setF o1 1 (synced_len o1 1) (synced_len o1 1)
 refine zaE (fun m T' H' => T' 0 = .ptr k 0 /\ T' 1 = .nilsl /\ (m = 3 /\ T' 6 = .int .i64 0 /\ H' = H \/ m = 2 /\ T' 6 = .int .i64 1 /\ DkTo H H' k (d.setF 0 (d.file 0).crash) \/
  m = 1 /\ T' 6 = .int .i64 2 /\ DkTo H H' k ((d.setF 0 (d.file 0).crash).setF 1 ((d.setF 0 (d.file 0).crash).file 1).crash) \/ m = 0 /\ T' 6 = .int .i64 3 /\ DkTo H H' k { d with f0 := d.f0.crash, f1 := d.f1.crash, f2 := d.f2.crash })) 3 ?_ ?_
 · exact ⟨by simp, by simp, .inl ⟨rfl, by simp, rfl⟩⟩
 rintro m T H1 ⟨t0, t1, ⟨rfl, t6, rfl⟩ | ⟨rfl, t6, ht⟩ | ⟨rfl, t6, ht⟩ | ⟨rfl, t6, ht⟩⟩
 · simp [t0, t1, t6]
   refine zab (crash1_does (n := 0) hk hd (by omega)) ?_
   rintro r h ht
   simp [t0, t1, t6, w1]
   exact ⟨2, by omega, rfl, ht⟩
 · simp [t0, t1, t6]
   refine zab (crash1_does (n := 1) ht.at o1 (by omega)) ?_
   rintro r h ht2
   simp [t0, t1, t6, w2]
   refine ⟨1, by omega, rfl, ?_⟩
   obtain ⟨c1, k1, rfl⟩ := ht
   obtain ⟨c2, k2, rfl⟩ := ht2
   exact ⟨c2, k2, by simp⟩
 · simp [t0, t1, t6]
   refine zab (crash1_does (n := 2) ht.at o2 (by omega)) ?_
   rintro r h ht2
   simp [t0, t1, t6, w3]
   obtain ⟨c1, k1, rfl⟩ := ht
   obtain ⟨c2, k2, rfl⟩ := ht2
   exact ⟨c2, k2, by simp⟩
 · obtain ⟨cs, ⟨n0, s0, n1, s1, n2, s2, rfl, hf⟩, rfl⟩ := ht
   simp [t0, t1, t6, dkV]
   exact ⟨_, ⟨n0, s0, n1, s1, n2, s2, rfl, hf⟩, by simp [dkV, Dk.crash]⟩
theorem power_does {H : AHeap} {k : Nat} {d : Dk} (hk : DkAt H k d) : Does Tryz.prog G 79 [.ptr k 0] H fun r h => r = .bool (!d.off) /\ h = H := by
 obtain ⟨cs, ⟨n0, s0, n1, s1, n2, s2, rfl, h0, h1, h2⟩, hg⟩ := hk
 refine zad Tryz.call79 Tryz.func79 rfl (by simp [Tryz.f79]) ?_
 simp [hg, dkV]
theorem lives_does {H : AHeap} {k : Nat} {d : Dk} (hk : DkAt H k d) : Does Tryz.prog G 33 [.ptr k 0] H fun r h => r = .int .i64 d.lives /\ h = H := by
 obtain ⟨cs, ⟨n0, s0, n1, s1, n2, s2, rfl, h0, h1, h2⟩, hg⟩ := hk
 refine zad Tryz.call33 Tryz.func33 rfl (by simp [Tryz.f33]) ?_
 simp [hg, dkV]
theorem dkCut_does {H : AHeap} {k : Nat} {d : Dk} (hk : DkAt H k d) (hd : dkOk d) {n : Nat} (hn : n < 3) {m : Nat} (hm : m <= 1000000000) :
  Does Tryz.prog G 59 [.ptr k 0, .int .i64 n, .int .i64 m] H fun r h => r = .int .i64 (d.cut n m).1 /\ DkTo H h k (d.cut n m).2 := by
 refine zad Tryz.call59 Tryz.func59 rfl (by simp [Tryz.f59]) ?_
 simp
 refine zab (may_does hk hn) ?_
 rintro r h ⟨rfl, rfl⟩
 obtain ⟨cs0, hc0, hg0⟩ := hk
 by_cases hoff : d.off = true
 · have e : d.cut n m = (4, d) := by simp [Dk.cut, hoff]
   simp [hoff, e]
   exact ⟨cs0, hc0, (set_self hg0).symm⟩
 obtain ⟨cs, v, hg, hcl, hv, hbv, hC⟩ := nowAt (H := h) ⟨cs0, hc0, hg0⟩ hn
 have hfl := za7 hd n
 have c1 : (n : Int) < 3 := by omega
 have c2 : n * 3 <= cs.length := by omega
 have hv' : cs[n * 3]? = some v := by rw [Nat.mul_comm]; exact hv
 have c0 : ¬ (m : Int) < 0 := by omega
 have hlv : alen Tryz.prog 22 v = some (.int .i64 (d.file n).now.length) := by
  rcases hbv with ⟨rfl, e⟩ | ⟨ts, rfl⟩
  · simp [alen, e]
  · simp [alen]
 by_cases hA : (d.file n).now.length < m
 · have e : d.cut n m = (1, d) := by simp [Dk.cut, hoff, hA]
   have hA' : ((d.file n).now.length : Int) < m := by omega
   simp [hoff, hg, c0, c1, c2, hn, hv', hlv, hA', e, -alen]
   exact ⟨cs0, hc0, (set_self hg0).symm⟩
 have hA' : ¬ ((d.file n).now.length : Int) < m := by omega
 have e : d.cut n m = d.change n ((d.file n).now.take m) true := by simp [Dk.cut, hoff, hA]
 have hcut : ∃ tv, aslice Tryz.prog 22 v none (some (.int .i64 m)) none = some tv /\ BtA tv ((d.file n).now.take m) := by
  rcases hbv with ⟨rfl, e⟩ | ⟨ts, rfl⟩
  · rw [e] at hA ⊢
    have : m = 0 := by simpa using hA
    subst this
    exact ⟨.nilsl, by simp, .nil⟩
  · have h1 : m <= (d.file n).now.length := by omega
    by_cases h : 0 < (d.file n).now.length
    · refine ⟨.vsl (strCs (d.file n).now ++ ts) m, by simp [h1, h], ?_⟩
      have := cutBt (b := (d.file n).now) (ts := ts) (l := 0) (h := m) (by omega) h1
      simpa using this
    · have e0 : (d.file n).now = [] := List.length_eq_zero_iff.1 (by omega)
      have : m = 0 := by omega
      subst this
      refine ⟨.vsl [] 0, by simp [h1, h], ?_⟩
      rw [List.take_zero]
      exact .inr ⟨[], rfl⟩
 obtain ⟨tv, e1, htv⟩ := hcut
 simp [hoff, hg, c0, c1, c2, hn, hv', hlv, hA', e1, -alen, -aslice]
 refine zab (cloneB_does htv (by simp; omega) _) ?_
 rintro r h2 ⟨hr, rfl⟩
 simp
 refine zab (change_does ⟨cs0, hc0, hg0⟩ hd hn hr (by simp; omega) true) ?_
 rintro r h3 ⟨rfl, ht⟩
 simp [e]
 exact ht
def LsL (H : AHeap) (v : AV) (l : List Bs) : Prop := (v = .nilsl /\ l = []) \/ ∃ i op vs, v = .sl i 0 1 l.length l.length op /\ H.get i = some (.cells vs) /\ Bts vs l
theorem LsL.len {H : AHeap} {v : AV} {l : List Bs} (h : LsL H v l) : alen Tryz.prog 87 v = some (.int .i64 l.length) := by
 rcases h with ⟨rfl, rfl⟩ | ⟨i, op, vs, rfl, _⟩ <;> simp [alen]
theorem LsL.keep {H H' : AHeap} {v : AV} {l : List Bs} (h : LsL H v l) (hk : ∀ i op, v = .sl i 0 1 l.length l.length op -> H'.get i = H.get i) : LsL H' v l := by
 rcases h with h | ⟨i, op, vs, rfl, hg, hv⟩
 · exact .inl h
 · exact .inr ⟨i, op, vs, rfl, by rw [hk i op rfl]; exact hg, hv⟩
structure Lg where
 l : List Bs
 synced : Int
 lives : Int
 done : Bool
def lgV (k : Nat) (lv : AV) (L : Lg) : List AV := [.ptr k 0, lv, .int .i64 L.synced, .int .i64 L.lives, .bool L.done]
def LgAt (H : AHeap) (g k : Nat) (lv : AV) (L : Lg) : Prop := H.get g = some (.cells (lgV k lv L)) /\ LsL H lv L.l
theorem Lg.ne_g {H : AHeap} {g k : Nat} {lv : AV} {L : Lg} (h : LgAt H g k lv L) {i : Nat} {op : Bool} (e : lv = .sl i 0 1 L.l.length L.l.length op) : i ≠ g := by
 obtain ⟨h1, h2⟩ := h
 rintro rfl
 rcases h2 with ⟨rfl, _⟩ | ⟨j, op', vs, e2, hg, hv⟩
 · cases e
 · rw [e] at e2; cases e2
   rw [h1] at hg
   simp only [Option.some.injEq, AObj.cells.injEq] at hg
   rw [<- hg] at hv
   unfold lgV at hv
   generalize L.l = ll at hv
   cases hv with | cons h t => rcases h with ⟨h, _⟩ | ⟨ts, h⟩ <;> cases h
theorem Lg.ne_k {H : AHeap} {k : Nat} {d : Dk} (hk : DkAt H k d) {v : AV} {l : List Bs} (h2 : LsL H v l) {i : Nat} {op : Bool} (e : v = .sl i 0 1 l.length l.length op) : i ≠ k := by
 obtain ⟨cs, ⟨n0, s0, n1, s1, n2, s2, rfl, _⟩, hg⟩ := hk
 rintro rfl
 rcases h2 with ⟨rfl, _⟩ | ⟨j, op', vs, e2, hg', hv⟩
 · cases e
 · rw [e] at e2; cases e2
   rw [hg] at hg'
   simp only [Option.some.injEq, AObj.cells.injEq] at hg'
   rw [<- hg'] at hv
   unfold dkV at hv
   cases hv with | cons h t => cases t with | cons h t => cases t with | cons h t => rcases h with ⟨h, _⟩ | ⟨ts, h⟩ <;> cases h
theorem lgOff_does {H : AHeap} {g k : Nat} {lv : AV} {L : Lg} {d : Dk} (hg : LgAt H g k lv L) (hk : DkAt H k d) (hd : L.done = false) (ho : d.off = false) :
  Does Tryz.prog G 142 [.ptr g 0] H fun r h => r = .bool (d.lives != L.lives) /\ h = H.set g (.cells (lgV k lv { L with done := d.lives != L.lives })) := by
 have hpw := fun H' (h : DkAt H' k d) => power_does (G := G) h
 have hlv := fun H' (h : DkAt H' k d) => lives_does (G := G) h
 refine zad Tryz.call142 Tryz.func142 rfl (by simp [Tryz.f142]) ?_
 obtain ⟨l, synced, lives, done⟩ := L
 simp only at hd
 subst hd
 simp
 refine zaj [(4, 0), (9, 0), (17, 11), (22, 11), (22, 19)] zah (by kernel_rfl) ?_
 intro es hes
 simp [hg.1, lgV]
 refine ⟨_, _, (hpw H hk), Nat.le_refl _, ?_⟩
 simp [hg.1, lgV, ho]
 refine ⟨_, _, (hlv H hk), Nat.le_refl _, ?_⟩
 simp [hg.1, lgV, ho]
 refine ⟨by subst hes; exact ⟨by kernel_rfl, by kernel_rfl⟩, ?_⟩
 simp [rds, heapF, hg.1, lgV]
theorem lgTell_does {H : AHeap} {g k : Nat} {lv : AV} {L : Lg} (hg : LgAt H g k lv L) (e : Int) :
  Does Tryz.prog G 143 [.ptr g 0, .int .i64 e] H fun r h => r = .int .i64 e /\ h = H.set g (.cells (lgV k lv { L with done := L.done || decide (e = 4) })) := by
 refine zad Tryz.call143 Tryz.func143 rfl (by simp [Tryz.f143]) ?_
 obtain ⟨l, synced, lives, done⟩ := L
 cases done <;> simp [hg.1, lgV]
theorem lgLen_does {H : AHeap} {g k : Nat} {lv : AV} {L : Lg} (hg : LgAt H g k lv L) : Does Tryz.prog G 66 [.ptr g 0] H fun r h => r = .int .i64 L.l.length /\ h = H := by
 have hl := hg.2.len
 refine zad Tryz.call66 Tryz.func66 rfl (by simp [Tryz.f66]) ?_
 simp [hg.1, lgV, hl, -alen]
theorem lgSync_does {H : AHeap} {g k : Nat} {lv : AV} {L : Lg} {d : Dk} (hg : LgAt H g k lv L) (hk : DkAt H k d) (hd : L.done = false) (ho : d.off = false) (hok : dkOk d) (hfu : d.fuse = 0) (hgk : g ≠ k) (hlv : d.lives = L.lives) :
  Does Tryz.prog G 133 [.ptr g 0] H fun r h => r = .int .i64 0 /\ LgAt h g k lv { L with synced := L.l.length } /\ DkAt h k (d.sync 0).2 /\ h.next = H.next /\ ∀ j, j ≠ g -> j ≠ k -> h.get j = H.get j := by
 have hne : (d.lives != L.lives) = false := by simp [hlv]
 have hs0 : (d.sync 0).1 = 0 := by simp [Dk.sync, ho, Dk.blown, hfu]
 refine zad Tryz.call133 Tryz.func133 rfl (by simp [Tryz.f133]) ?_
 simp
 refine zab (lgOff_does hg hk hd ho) ?_
 rintro r h ⟨rfl, rfl⟩
 have e1 : H.set g (.cells (lgV k lv { L with done := d.lives != L.lives })) = H := by
  refine set_self ?_
  rw [hg.1, hne]
  obtain ⟨l, synced, lives, done⟩ := L
  simp only at hd; subst hd; rfl
 rw [e1]
 simp [hne, hg.1, lgV]
 refine zab (sync_does (n := 0) hk hok (by decide)) ?_
 rintro r h ⟨rfl, ht⟩
 have hk2 := ht.at
 have hoff := fun {j : Nat} (hj : j ≠ k) => ht.off hj
 have hg2 : LgAt h g k lv L := by
  refine ⟨by rw [hoff hgk]; exact hg.1, hg.2.keep fun i op e => hoff ?_⟩
  exact Lg.ne_k hk hg.2 e
 simp
 refine zab (lgTell_does hg2 _) ?_
 rintro r h2 ⟨rfl, rfl⟩
 have hll := hg.2.len
 simp [hs0, lgV, hll, -alen]
 refine ⟨⟨by simp [lgV], hg2.2.keep fun i op e => ?_⟩, ?_, ?_, fun j h1 h2 => ?_⟩
 · have := Lg.ne_g hg e
   simp [this]
 · obtain ⟨cs, hc, hcg⟩ := hk2
   exact ⟨cs, hc, by simp [Ne.symm hgk, hcg]⟩
 · obtain ⟨cs, hc, rfl⟩ := ht
   rfl
 · rw [if_neg h1]; exact hoff h2
def catV (a b : Bs) : AV := if a.length + b.length = 0 then .nilsl else bV (a ++ b)
theorem BtA.cat (a b : Bs) : BtA (catV a b) (a ++ b) := by
 unfold catV
 split
 · rename_i h
   have e1 : a = [] := List.length_eq_zero_iff.1 (by omega)
   have e2 : b = [] := List.length_eq_zero_iff.1 (by omega)
   rw [e1, e2]; exact .nil
 · exact .bV _
theorem concatB_x {H : AHeap} {q : Nat} {av bv : AV} {a b : Bs} (ha : BtA av a) (hb : BtA bv b) (hq : H.get q = some (.cells [av, bv])) (hl : a.length + b.length <= 1000000000) :
  Does Tryz.prog G 252 [.sl q 0 1 2 2 false] H fun r h => r = catV a b /\ h = H := by
 refine Does.wfs fun hw _ => (concatB_run ha hb hq hl).ghost fun r H1 ⟨hs, ht⟩ => ?_
 rcases ht with ⟨rfl, e⟩ | ⟨i, cap, op, junk, rfl, hi, hg, h0⟩
 · have e1 : a.length + b.length = 0 := by rw [<- List.length_append, e]; rfl
   exact ⟨_, H, Ghost.back hw rfl hs, by rw [catV, if_pos e1], rfl⟩
 · have e1 : AV.frz i (strCs (a ++ b) ++ junk) (.sl i 0 1 (a ++ b).length cap op) = bV (a ++ b) := by
    simp only [AV.frz, if_true, List.drop_zero, Nat.mul_one, bV]
    rw [List.take_left' (zae _)]
   refine ⟨_, H, (Ghost.frz hg).trans (Ghost.back hw ?_ (AHeap.frz_old hw hi hs)), by rw [e1, catV, if_neg (by omega)], rfl⟩
   rw [e1]
   simp [AV.idLt, bV, strCs_lt]
theorem change0_does {H : AHeap} {k : Nat} {d : Dk} (hk : DkAt H k d) (hf : d.fuse = 0) {bv : AV} {b : Bs} (hb : BtA bv b) (hl : b.length <= 262144) :
  ∃ cs, DkC cs (d.change 0 b false).2 /\ (d.change 0 b false).1 = 0 /\ Does Tryz.prog G 25 [.ptr k 0, .int .i64 0, bv, .bool false] H fun r h => r = .int .i64 0 /\ h = H.set k (.cells cs) := by
 obtain ⟨cs, ⟨n0, s0, n1, s1, n2, s2, rfl, h0, h1, h2⟩, hg⟩ := hk
 have hbs := hb.sc
 have hbc := hb.cells
 have hlv : alen Tryz.prog 22 bv = some (.int .i64 b.length) := by
  rcases hb with ⟨rfl, rfl⟩ | ⟨ts, rfl⟩ <;> simp [alen]
 have hA : ¬ 262144 < b.length := by omega
 have hA' : ¬ (262144 : Int) < b.length := by omega
 obtain ⟨⟨fn0, fs0, fo0⟩, f1, f2, off, crashed, fuse, lives⟩ := d
 simp only at hf
 subst hf
 have hx : (Dk.change ⟨⟨fn0, fs0, fo0⟩, f1, f2, off, crashed, 0, lives⟩ 0 b false) = (0, ⟨⟨b, fs0, fo0⟩, f1, f2, off, crashed, 0, lives⟩) := by
  simp [Dk.change, hA, Dk.blown, Dk.setF, Dk.file]
 rw [hx]
 refine ⟨dkV bv s0 n1 s1 n2 s2 ⟨⟨b, fs0, fo0⟩, f1, f2, off, crashed, 0, lives⟩, ⟨bv, s0, n1, s1, n2, s2, rfl, ⟨hb, h0.2⟩, h1, h2⟩, rfl, ?_⟩
 have hbl : Does Tryz.prog G 27 [.ptr k 0] H fun r h => r = .bool false /\ h = H := by
  refine zad Tryz.call27 Tryz.func27 rfl (by simp [Tryz.f27]) ?_
  simp [hg, dkV]
 refine zad Tryz.call25 Tryz.func25 rfl (by simp [Tryz.f25]) ?_
 simp [hlv, hA', -alen]
 refine zab hbl ?_
 rintro r h ⟨rfl, rfl⟩
 cases fo0 <;> simp [hg, dkV, hbs, hbc] <;> refine zaj [(8, 0)] zah (by kernel_rfl) ?_ <;> intro es hes <;> simp [rds, heapF, hg, dkV] <;> subst hes <;> exact ⟨by kernel_rfl, by kernel_rfl⟩
theorem append0_does {H : AHeap} {k : Nat} {d : Dk} (hw : H.Wf) (hk : DkAt H k d) (hf : d.fuse = 0) (ho : d.off = false) {bv : AV} {b : Bs} (hb : BtA bv b) (hl : d.f0.now.length + b.length <= 262144) :
  ∃ x cs, DkC cs (d.append 0 b).2 /\ (d.append 0 b).1 = 0 /\ Does Tryz.prog G 208 [.ptr k 0, .int .i64 0, bv] H fun r h => r = .int .i64 0 /\ h = (H.push x).set k (.cells cs) := by
 have hlv : alen Tryz.prog 22 bv = some (.int .i64 b.length) := by
  rcases hb with ⟨rfl, rfl⟩ | ⟨ts, rfl⟩ <;> simp [alen]
 have hA : ¬ 262144 < b.length := by omega
 have hA' : ¬ (262144 : Int) < b.length := by omega
 have e : d.append 0 b = d.change 0 (d.f0.now ++ b) false := by simp [Dk.append, ho, hA, Dk.file]
 obtain ⟨cs0, v, hg, hcl, hv, hbv, hC⟩ := nowAt hk (show 0 < 3 by omega)
 have hbv : BtA v d.f0.now := hbv
 have hv' : cs0[0]? = some v := hv
 have k1 : k ≠ H.next := by have := zaa hw hg; omega
 obtain ⟨cs, hcs, he0, hdo⟩ := change0_does (G := G) (H := H.push (.cells [v, bv])) (k := k) (d := d) ⟨cs0, hC, by simp [k1, hg]⟩ hf (BtA.cat d.f0.now b) (by simp; omega)
 rw [e]
 refine ⟨.cells [v, bv], cs, hcs, he0, ?_⟩
 refine zad Tryz.call208 Tryz.func208 rfl (by simp [Tryz.f208]) ?_
 simp
 refine zab (may_does (n := 0) hk (by decide)) ?_
 rintro r h ⟨rfl, rfl⟩
 simp [ho, hlv, hA', hg, hv', hb.cells, hb.sc, hbv.cells, hbv.sc, k1, -alen]
 refine zab (concatB_x hbv hb (by simp) (by omega)) ?_
 rintro r h2 ⟨rfl, rfl⟩
 simp
 refine zab hdo ?_
 rintro r h3 ⟨rfl, rfl⟩
 simp
def LgAdded (H : AHeap) (g k : Nat) (lv : AV) (L : Lg) (d : Dk) (b : Bs) (r : AV) (h : AHeap) : Prop :=
 r = .int .i64 0 /\ ∃ i' j vs cap op, h.get g = some (.cells (lgV k (.sl i' 0 1 (L.l.length + 1) (L.l.length + 1) true) L)) /\ h.get i' = some (.cells (vs ++ [.sl j 0 1 b.length cap op])) /\ h.get j = some (.cells (strCs b)) /\ Bts vs L.l /\ j ≠ i' /\
   H.next <= i' /\ H.next <= j /\ DkAt h k (d.append 0 (frame L.l.length b)).2 /\ ∀ j x, j ≠ g -> j ≠ k -> (∀ op, lv ≠ .sl j 0 1 L.l.length L.l.length op) -> H.get j = some x -> h.get j = some x
theorem lgAdd_run {H : AHeap} {g k : Nat} {lv : AV} {L : Lg} {d : Dk} (hg : LgAt H g k lv L) (hk : DkAt H k d) (hd : L.done = false) (ho : d.off = false) (hf : d.fuse = 0) (hgk : g ≠ k) (hlv : d.lives = L.lives)
  {bv : AV} {b : Bs} (hb : BtA bv b) (hl : b.length <= 60000) (hdl : d.f0.now.length + (17 + b.length) <= 262144) (hn : L.l.length <= 1000000) :
  Does Tryz.prog G 132 [.ptr g 0, bv] H (LgAdded H g k lv L d b) := by
 refine Does.wf Tryz.call132 fun hw _ => ?_
 have hne : (d.lives != L.lives) = false := by simp [hlv]
 have h1 := hb.len
 have h2 := hb.first
 have h3 := hb.sc
 have h4 := hb.ni
 have h5 : alen Tryz.prog 22 bv = some (.int .i64 b.length) := by
  rcases hb with ⟨rfl, rfl⟩ | ⟨ts, rfl⟩ <;> simp [alen]
 have hll := hg.2.len
 have c1 : ¬ (60000 : Int) < b.length := by omega
 have w1 : IntKind.u64.wrap (L.l.length : Int) = (L.l.length : Int) := IntWalk.u64_in _ (by omega)
 obtain ⟨x, cs, hcs, he0, happ⟩ := append0_does (G := G) hw hk hf ho (.bV (frame L.l.length b)) (by rw [frame_len]; omega)
 have hfr := frame_does (G := G) (n := L.l.length) (by omega) hb hl H
 refine zad Tryz.call132 Tryz.func132 rfl (by simp [Tryz.f132]) ?_
 simp [h5, c1, -alen]
 refine zab (lgOff_does hg hk hd ho) ?_
 rintro r h ⟨rfl, rfl⟩
 have e1 : H.set g (.cells (lgV k lv { L with done := d.lives != L.lives })) = H := by
  refine set_self ?_
  rw [hg.1, hne]
  obtain ⟨l, synced, lives, done⟩ := L
  simp only at hd; subst hd; rfl
 rw [e1]
 have gn : g < H.next := zaa hw hg.1
 have gn1 : g ≠ H.next := by omega
 simp [hne]
 refine zaj [(4, 0), (4, 13), (8, 0)] zah (by kernel_rfl) ?_
 intro es hes
 simp [zaf, -zag, hg.1, lgV, hll, w1, -alen]
 refine ⟨_, _, hfr, Nat.le_refl _, ?_⟩
 refine ad_go (fun T' => T' 0 = .ptr g 0 /\ T' 1 = bv /\ T' 13 = .ptr g 0 /\ T' 17 = .ptr k 0 /\ T' 25 = bV (frame L.l.length b)) (by simp [hg.1, lgV]) ?_
 rintro T1 ⟨t0, t1, t13, t17, t25⟩
 simp [zaf, -zag, t0, t1, t13, t17, t25]
 refine ⟨_, _, happ, by simp, ?_⟩
 refine ad_go (fun T' => T' 0 = .ptr g 0 /\ T' 1 = bv /\ T' 13 = .ptr g 0 /\ T' 26 = .int .i64 0) (by simp [t0, t1, t13]) ?_
 rintro T2 ⟨t0, t1, t13, t26⟩
 have hg2 : LgAt ((H.push x).set k (.cells cs)) g k lv L := by
  refine ⟨by simp [hgk, gn1, hg.1], hg.2.keep fun i op e => ?_⟩
  have n1 := Lg.ne_k hk hg.2 e
  have n2 : i ≠ H.next := by
   rcases hg.2 with ⟨h, _⟩ | ⟨i', op', vs, e', hgi, _⟩
   · rw [h] at e; cases e
   · rw [e] at e'; cases e'
     have := zaa hw hgi; omega
  simp [n1, n2]
 simp [zaf, -zag, t0, t1, t13, t26]
 refine ⟨_, _, lgTell_does hg2 0, by simp, ?_⟩
 refine ad_go (fun T' => T' 0 = .ptr g 0 /\ T' 1 = bv /\ T' 27 = .int .i64 0) (by simp [t0, t1]) ?_
 rintro T3 ⟨t0, t1, t27⟩
 have e2 : ((H.push x).set k (.cells cs)).set g (.cells (lgV k lv { L with done := L.done || decide ((0 : Int) = 4) })) = (H.push x).set k (.cells cs) := by
  refine set_self ?_
  rw [hg2.1]
  obtain ⟨l, synced, lives, done⟩ := L
  simp only at hd; subst hd; rfl
 rw [e2]
 simp [zaf, -zag, t0, t1, t27]
 refine ⟨by subst hes; exact ⟨by kernel_rfl, by kernel_rfl⟩, ?_, ?_⟩
 · simp [rds, heapF, hg.1, hgk, gn1, lgV, hll, -alen]
 have hk2 : DkAt ((H.push x).set k (.cells cs)) k (d.append 0 (frame L.l.length b)).2 := ⟨cs, hcs, by simp⟩
 have kn : k < H.next := by obtain ⟨c, _, hc⟩ := hk; exact zaa hw hc
 have hold : ∀ j y, j ≠ g -> j ≠ k -> H.get j = some y -> j < H.next /\ ((H.push x).set k (.cells cs)).get j = some y := by
  intro j y h1 h2 h3
  have := zaa hw h3
  exact ⟨this, by simp [h2]; rw [if_neg (by omega)]; exact h3⟩
 have hnx : ((H.push x).set k (.cells cs)).next = H.next + 1 := rfl
 generalize (H.push x).set k (.cells cs) = H5 at *
 refine zaj [(4, 0), (4, 8)] zah (by kernel_rfl) ?_
 clear hes
 intro es hes
 have hlen : (L.l.length + 1) * 24 <= 140737488355328 := by omega
 have hlen2 : L.l.length + 1 <= 4611686018427387904 := by omega
 have hlen3 : ¬ L.l.length + 1 <= L.l.length := by omega
 have hb1 : b.length <= 140737488355328 := by omega
 have hb2 : b.length <= 4611686018427387904 := by omega
 have gn5 : g ≠ H5.next := by omega
 have gn6 : g ≠ H5.next + 1 := by omega
 have gn7 : g ≠ H5.next + 1 + 1 := by omega
 have gn8 : g ≠ H5.next + 1 + 1 + 1 := by omega
 have hg5 := hg2.1
 have q1 : ∀ i o z n c op, zaq (.sl i o z n c op) = some n := fun _ _ _ _ _ _ => rfl
 have q2 : ∀ (get : Nat -> Option AObj) (z n i o z' n' c : Nat) (op : Bool), zal get z n (.sl i o z' n' c op) = match get i with
  | some (.cells cs) => if o + n * z <= cs.length then some ((cs.drop o).take (n * z)) else none
  | _ => none := fun _ _ _ _ _ _ _ _ _ => rfl
 have hkeep : ∀ {H6 : AHeap} {vs : List AV} {i' j cap : Nat} {op : Bool}, H6.get g = some (.cells (lgV k (.sl i' 0 1 (L.l.length + 1) (L.l.length + 1) true) L)) -> H6.get i' = some (.cells (vs ++ [.sl j 0 1 b.length cap op])) -> H6.get j = some (.cells (strCs b)) -> Bts vs L.l -> j ≠ i' ->
   H.next <= i' -> H.next <= j -> (∀ j' y, j' ≠ g -> (∀ op, lv ≠ .sl j' 0 1 L.l.length L.l.length op) -> j' < H5.next -> H5.get j' = some y -> H6.get j' = some y) -> LgAdded H g k lv L d b (.int .i64 0) H6 := by
  intro H6 vs i' j cap op k1 k2 k3 k4 k5 k6 k7 k8
  refine ⟨rfl, i', j, vs, cap, op, k1, k2, k3, k4, k5, k6, k7, ?_, fun j' y h1 h2 h3 h4 => ?_⟩
  · obtain ⟨c, hc, hcg⟩ := hk2
    exact ⟨c, hc, k8 k _ (Ne.symm hgk) (fun op e => Lg.ne_k hk hg.2 e rfl) (by omega) hcg⟩
  · obtain ⟨h5, h6⟩ := hold j' y h1 h2 h4
    exact k8 j' y h1 h3 (by omega) h6
 by_cases hb0 : b.length = 0
 · have hbe : b = [] := List.length_eq_zero_iff.1 hb0
   have h2' := hb.first0 hb0
   rcases hg2.2 with ⟨rfl, hl0⟩ | ⟨i, op, vs, rfl, hgi, hvs⟩
   · simp [t0, t1, hg5, lgV, h1, h2', h3, hb0, q1, q2, gn5, gn6, gn7, gn8, -zal, -zaq]
     refine ⟨by subst hes; exact ⟨by kernel_rfl, by kernel_rfl⟩, ?_, ?_⟩
     · simp [rds, heapF, hg5, lgV, gn5, gn6, gn7, gn8]
     refine hkeep (vs := []) (i' := H5.next + 1 + 1) (j := H5.next) (cap := 0) (op := false) ?_ ?_ ?_ (by rw [hl0]; exact .nil) (by omega) (by omega) (by omega) (fun j' y h1 h2 h3 h4 => ?_)
     · simp [lgV, hbe, hl0]
     · simp [Ne.symm gn7, Ne.symm gn8, hbe, hl0]
     · simp [Ne.symm gn5, Ne.symm gn6, strCs, (by omega : ¬ H5.next + 1 = H5.next + 1 + 1 + 1), hbe, hl0] <;> omega
     · have e5 : j' ≠ H5.next := by omega
       have e6 : j' ≠ H5.next + 1 := by omega
       have e7 : j' ≠ H5.next + 1 + 1 := by omega
       have e8 : j' ≠ H5.next + 1 + 1 + 1 := by omega
       simp [h1, e5, e6, e7, e8, h4]
   · have hvl := hvs.len
     have in5 := Lg.ne_g hg2 rfl
     have in6 : i < H5.next := by
      rcases hg.2 with ⟨h, _⟩ | ⟨i', op', vs', e', hgi', _⟩
      · cases h
      · cases e'; have := zaa hw hgi'; omega
     have i1 : i ≠ H5.next := by omega
     have i2 : i ≠ H5.next + 1 := by omega
     have i3 : i ≠ H5.next + 1 + 1 := by omega
     have tkv : List.take L.l.length vs = vs := by rw [<- hvl, List.take_length]
     cases op
     · simp [t0, t1, hg5, lgV, h1, h2', h3, hb0, q1, q2, gn5, gn6, gn7, gn8, i1, i2, i3, hgi, hvl, hlen, hlen2, hlen3, tkv, in5, Ne.symm in5, -zal, -zaq]
       refine ⟨by subst hes; exact ⟨by kernel_rfl, by kernel_rfl⟩, ?_, ?_⟩
       · simp [rds, heapF, hg5, lgV, gn5, gn6, gn7, gn8]
       refine hkeep (vs := vs) (i' := H5.next + 1 + 1) (j := H5.next) (cap := 0) (op := false) ?_ ?_ ?_ hvs (by omega) (by omega) (by omega) (fun j' y h1 h2 h3 h4 => ?_)
       · simp [lgV, hbe]
       · simp [Ne.symm gn7, Ne.symm gn8, hbe]
       · simp [Ne.symm gn5, Ne.symm gn6, strCs, (by omega : ¬ H5.next + 1 = H5.next + 1 + 1 + 1), hbe] <;> omega
       · have e5 : j' ≠ H5.next := by omega
         have e6 : j' ≠ H5.next + 1 := by omega
         have e7 : j' ≠ H5.next + 1 + 1 := by omega
         have e8 : j' ≠ H5.next + 1 + 1 + 1 := by omega
         simp [h1, e5, e6, e7, e8, h4]
     · simp [t0, t1, hg5, lgV, h1, h2', h3, hb0, q1, q2, gn5, gn6, gn7, gn8, i1, i2, i3, hgi, hvl, hlen, hlen2, hlen3, tkv, in5, Ne.symm in5, -zal, -zaq]
       refine ⟨by subst hes; exact ⟨by kernel_rfl, by kernel_rfl⟩, ?_, ?_⟩
       · simp [rds, heapF, hg5, lgV, gn5, gn6, gn7, gn8, Ne.symm in5]
       refine hkeep (vs := vs) (i' := H5.next + 1 + 1) (j := H5.next) (cap := 0) (op := false) ?_ ?_ ?_ hvs (by omega) (by omega) (by omega) (fun j' y h1 h2 h3 h4 => ?_)
       · simp [lgV, hbe]
       · simp [Ne.symm gn7, Ne.symm gn8, hbe]
       · simp [Ne.symm gn5, Ne.symm gn6, strCs, (by omega : ¬ H5.next + 1 = H5.next + 1 + 1 + 1), hbe, Ne.symm i1, Ne.symm i2] <;> omega
       · have e5 : j' ≠ H5.next := by omega
         have e6 : j' ≠ H5.next + 1 := by omega
         have e7 : j' ≠ H5.next + 1 + 1 := by omega
         have e8 : j' ≠ H5.next + 1 + 1 + 1 := by omega
         have e9 : j' ≠ i := by rintro rfl; exact h2 true rfl
         simp [h1, e5, e6, e7, e8, h4, e9]
 · have hb3 : ¬ b.length <= 0 := by omega
   rcases hg2.2 with ⟨rfl, hl0⟩ | ⟨i, op, vs, rfl, hgi, hvs⟩
   · simp [t0, t1, hg5, lgV, h1, h2, hb3, hb1, hb2, za4, zae, h3, hb0, q1, q2, gn5, gn6, gn7, gn8, -zal, -zaq]
     refine ⟨by subst hes; exact ⟨by kernel_rfl, by kernel_rfl⟩, ?_, ?_⟩
     · simp [rds, heapF, hg5, lgV, gn5, gn6, gn7, gn8]
     refine hkeep (vs := []) (i' := H5.next + 1 + 1 + 1) (j := H5.next + 1) (cap := b.length) (op := true) ?_ ?_ ?_ (by rw [hl0]; exact .nil) (by omega) (by omega) (by omega) (fun j' y h1 h2 h3 h4 => ?_)
     · simp [lgV, hl0]
     · simp [Ne.symm gn7, Ne.symm gn8, hl0]
     · simp [Ne.symm gn5, Ne.symm gn6, strCs, (by omega : ¬ H5.next + 1 = H5.next + 1 + 1 + 1), hl0] <;> omega
     · have e5 : j' ≠ H5.next := by omega
       have e6 : j' ≠ H5.next + 1 := by omega
       have e7 : j' ≠ H5.next + 1 + 1 := by omega
       have e8 : j' ≠ H5.next + 1 + 1 + 1 := by omega
       simp [h1, e5, e6, e7, e8, h4]
   · have hvl := hvs.len
     have in5 := Lg.ne_g hg2 rfl
     have in6 : i < H5.next := by
      rcases hg.2 with ⟨h, _⟩ | ⟨i', op', vs', e', hgi', _⟩
      · cases h
      · cases e'; have := zaa hw hgi'; omega
     have i1 : i ≠ H5.next := by omega
     have i2 : i ≠ H5.next + 1 := by omega
     have i3 : i ≠ H5.next + 1 + 1 := by omega
     have tkv : List.take L.l.length vs = vs := by rw [<- hvl, List.take_length]
     cases op
     · simp [t0, t1, hg5, lgV, h1, h2, hb3, hb1, hb2, za4, zae, h3, hb0, q1, q2, gn5, gn6, gn7, gn8, i1, i2, i3, hgi, hvl, hlen, hlen2, hlen3, tkv, in5, Ne.symm in5, -zal, -zaq]
       refine ⟨by subst hes; exact ⟨by kernel_rfl, by kernel_rfl⟩, ?_, ?_⟩
       · simp [rds, heapF, hg5, lgV, gn5, gn6, gn7, gn8]
       refine hkeep (vs := vs) (i' := H5.next + 1 + 1 + 1) (j := H5.next + 1) (cap := b.length) (op := true) ?_ ?_ ?_ hvs (by omega) (by omega) (by omega) (fun j' y h1 h2 h3 h4 => ?_)
       · simp [lgV]
       · simp [Ne.symm gn7, Ne.symm gn8]
       · simp [Ne.symm gn5, Ne.symm gn6, strCs, (by omega : ¬ H5.next + 1 = H5.next + 1 + 1 + 1)] <;> omega
       · have e5 : j' ≠ H5.next := by omega
         have e6 : j' ≠ H5.next + 1 := by omega
         have e7 : j' ≠ H5.next + 1 + 1 := by omega
         have e8 : j' ≠ H5.next + 1 + 1 + 1 := by omega
         simp [h1, e5, e6, e7, e8, h4]
     · simp [t0, t1, hg5, lgV, h1, h2, hb3, hb1, hb2, za4, zae, h3, hb0, q1, q2, gn5, gn6, gn7, gn8, i1, i2, i3, hgi, hvl, hlen, hlen2, hlen3, tkv, in5, Ne.symm in5, -zal, -zaq]
       refine ⟨by subst hes; exact ⟨by kernel_rfl, by kernel_rfl⟩, ?_, ?_⟩
       · simp [rds, heapF, hg5, lgV, gn5, gn6, gn7, gn8, Ne.symm in5]
       refine hkeep (vs := vs) (i' := H5.next + 1 + 1 + 1) (j := H5.next + 1) (cap := b.length) (op := true) ?_ ?_ ?_ hvs (by omega) (by omega) (by omega) (fun j' y h1 h2 h3 h4 => ?_)
       · simp [lgV]
       · simp [Ne.symm gn7, Ne.symm gn8]
       · simp [Ne.symm gn5, Ne.symm gn6, strCs, (by omega : ¬ H5.next + 1 = H5.next + 1 + 1 + 1), Ne.symm i1, Ne.symm i2] <;> omega
       · have e5 : j' ≠ H5.next := by omega
         have e6 : j' ≠ H5.next + 1 := by omega
         have e7 : j' ≠ H5.next + 1 + 1 := by omega
         have e8 : j' ≠ H5.next + 1 + 1 + 1 := by omega
         have e9 : j' ≠ i := by rintro rfl; exact h2 true rfl
         simp [h1, e5, e6, e7, e8, h4, e9]
end Go.Proofs.YtekbjlihciedjaaGreatDoor
namespace Go.Rp
open Go Go.Abs
theorem zaU (i : Nat) (c : List AV) : ∀ a b : List AV, AV.frzs i c (a ++ b) = AV.frzs i c a ++ AV.frzs i c b
 | [], b => rfl
 | x :: a, b => by simp only [List.cons_append, AV.frzs, zaU i c a b]
theorem frzs_strCs (i : Nat) (c : List AV) : ∀ b : Bs, AV.frzs i c (strCs b) = strCs b
 | [] => rfl
 | x :: b => by
   have e : strCs (x :: b) = .int .u8 x.toNat :: strCs b := rfl
   rw [e]
   simp only [AV.frzs, AV.frz, frzs_strCs i c b]
theorem BtA.frz {v : AV} {bs : Bs} (h : BtA v bs) (i : Nat) (c : List AV) : BtA (v.frz i c) bs := by
 rcases h with ⟨rfl, rfl⟩ | ⟨ts, rfl⟩
 · exact .nil
 · refine .inr ⟨AV.frzs i c ts, ?_⟩
   simp only [AV.frz, zaU, frzs_strCs]
theorem frz_old1 {H0 H : AHeap} (hw : H0.Wf) {i : Nat} (hi : H0.next <= i) {cs : List AV} {j : Nat} {x : AObj} (h0 : H0.get j = some x) (h : H.get j = some x) : (H.frz i cs).get j = some x := by
 have h1 := hw j x h0
 simp only [AHeap.frz]
 rw [if_neg (by omega), h]
 cases x with
 | cells c => simp only; rw [AV.frzs_lt hi c h1.2]
 | row t c => simp only; rw [AV.frzs_lt hi c h1.2]
 | map es =>
   have h2 := h1.2
   rw [AObj.cellsList, AV.allLt_append, Bool.and_eq_true] at h2
   have e1 := AV.frzs_fst i cs es
   have e2 := AV.frzs_snd i cs es
   rw [AV.frzs_lt hi _ h2.1] at e1
   rw [AV.frzs_lt hi _ h2.2] at e2
   simp only
   congr 2
   exact pairs_ext e1 e2
end Go.Rp
namespace Go.Proofs.YtekbjlihciedjaaGreatDoor
open Go Go.Abs Go.Rp
variable {G : Nat -> Option AV}
theorem Bts.frz {vs : List AV} {l : List Bs} (h : Bts vs l) (i : Nat) (c : List AV) : Bts (AV.frzs i c vs) l := by
 induction h with
 | nil => exact .nil
 | cons h t ih => exact .cons (h.frz i c) ih
theorem DkC.frz {cs : List AV} {d : Dk} (h : DkC cs d) (i : Nat) (c : List AV) : DkC (AV.frzs i c cs) d := by
 obtain ⟨n0, s0, n1, s1, n2, s2, rfl, h0, h1, h2⟩ := h
 exact ⟨_, _, _, _, _, _, rfl, ⟨h0.1.frz i c, h0.2.frz i c⟩, ⟨h1.1.frz i c, h1.2.frz i c⟩, ⟨h2.1.frz i c, h2.2.frz i c⟩⟩
def LgAdd (H : AHeap) (g k : Nat) (lv : AV) (L : Lg) (d : Dk) (b : Bs) (r : AV) (h : AHeap) : Prop :=
 r = .int .i64 0 /\ ∃ i', LgAt h g k (.sl i' 0 1 (L.l.length + 1) (L.l.length + 1) true) { L with l := L.l ++ [b] } /\ H.next <= i' /\ DkAt h k (d.append 0 (frame L.l.length b)).2 /\
   ∀ j x, j ≠ g -> j ≠ k -> (∀ op, lv ≠ .sl j 0 1 L.l.length L.l.length op) -> H.get j = some x -> h.get j = some x
theorem lgAdd_does {H : AHeap} {g k : Nat} {lv : AV} {L : Lg} {d : Dk} (hg : LgAt H g k lv L) (hk : DkAt H k d) (hd : L.done = false) (ho : d.off = false) (hf : d.fuse = 0) (hgk : g ≠ k) (hlv : d.lives = L.lives)
  {bv : AV} {b : Bs} (hb : BtA bv b) (hl : b.length <= 60000) (hdl : d.f0.now.length + (17 + b.length) <= 262144) (hn : L.l.length <= 1000000) :
  Does Tryz.prog G 132 [.ptr g 0, bv] H (LgAdd H g k lv L d b) := by
 refine Does.frz1 (lgAdd_run hg hk hd ho hf hgk hlv hb hl hdl hn) ?_
 rintro hw _ r H1 ⟨rfl, i', j, vs, cap, op, k1, k2, k3, k4, k5, k6, k7, ⟨cs, hC, hcs⟩, k9⟩
 have gj : g ≠ j := by have := zaa hw hg.1; omega
 have kj : k ≠ j := by obtain ⟨c, _, hc⟩ := hk; have := zaa hw hc; omega
 have e1 : (strCs b).take b.length = strCs b := take_strCs b
 refine ⟨j, strCs b, k7, k3, rfl, i', ⟨?_, .inr ⟨i', true, AV.frzs j (strCs b) vs ++ [bV b], by simp, ?_, (k4.frz j (strCs b)).snoc (.bV b)⟩⟩, k6, ⟨_, hC.frz j (strCs b), zaH hcs kj⟩, fun j' x h1 h2 h3 h4 => frz_old1 hw k7 h4 (k9 j' x h1 h2 h3 h4)⟩
 · rw [zaH k1 gj]
   simp [lgV, AV.frzs, AV.frz, kj, Ne.symm k5]
 · rw [zaH k2 (Ne.symm k5)]
   simp [zaU, AV.frzs, AV.frz, e1, bV]
theorem Bts.get {vs : List AV} {l : List Bs} (h : Bts vs l) : ∀ {n : Nat} {b : Bs}, l[n]? = some b -> ∃ v, vs[n]? = some v /\ BtA v b := by
 induction h with
 | nil => intro n b h; simp at h
 | cons h t ih =>
   intro n b hn
   cases n with
   | zero => simp at hn; subst hn; exact ⟨_, rfl, h⟩
   | succ n => simpa using ih (by simpa using hn)
def GotR (H : AHeap) (b : Bs) (r : AV) (h : AHeap) : Prop := ∃ i cap op, r = .tuple [.sl i 0 1 b.length cap op, .bool true] /\ H.next <= i /\ h.get i = some (.cells (strCs b)) /\ ∀ j x, H.get j = some x -> h.get j = some x
theorem lgGet_run {H : AHeap} {g k : Nat} {lv : AV} {L : Lg} (hg : LgAt H g k lv L) {n : Nat} {b : Bs} (hn : L.l[n]? = some b) (hl : b.length <= 1000000000) :
  Does Tryz.prog G 67 [.ptr g 0, .int .i64 n] H (GotR H b) := by
 refine Does.wf Tryz.call67 fun hw _ => ?_
 have hnl : n < L.l.length := by
  rcases Nat.lt_or_ge n L.l.length with q | q
  · exact q
  · rw [List.getElem?_eq_none q] at hn; simp at hn
 have hll := hg.2.len
 obtain ⟨i, op, vs, e, hgi, hvs⟩ : ∃ i op vs, lv = .sl i 0 1 L.l.length L.l.length op /\ H.get i = some (.cells vs) /\ Bts vs L.l := by
  rcases hg.2 with ⟨_, h⟩ | h
  · rw [h] at hnl; simp at hnl
  · exact h
 obtain ⟨v, hv, hb⟩ := hvs.get hn
 have hvl := hvs.len
 have h1 := hb.len
 have h2 := hb.first
 have h3 := hb.sc
 have h4 := hb.ni
 have gn : g ≠ H.next := by have := zaa hw hg.1; omega
 have in_ : i ≠ H.next := by have := zaa hw hgi; omega
 have c1 : ¬ (n : Int) < 0 := by omega
 have c2 : ¬ (L.l.length : Int) <= n := by omega
 have c3 : (n : Int) < L.l.length := by omega
 have c4 : n <= vs.length := by omega
 have k1 : b.length <= 140737488355328 := by omega
 have k2 : b.length <= 4611686018427387904 := by omega
 subst e
 refine zad Tryz.call67 Tryz.func67 rfl (by simp [Tryz.f67]) ?_
 by_cases hb0 : b.length = 0
 · have hbe : b = [] := List.length_eq_zero_iff.1 hb0
   have h2' := hb.first0 hb0
   simp [hg.1, lgV, c1, c2, c3, c4, hnl, gn, in_, hgi, hv, h1, h2', h3, hb0, -zal, -zaq]
   refine ⟨H.next, 0, false, by rw [hb0], Nat.le_refl _, by simp [hbe, strCs], fun j x hj => ?_⟩
   have := zaa hw hj
   simp [hj]; omega
 · have hb1 : ¬ b.length <= 0 := by omega
   simp [hg.1, lgV, c1, c2, c3, c4, hnl, gn, in_, hgi, hv, h1, h2, h3, hb0, hb1, k1, k2, za4, zae, -zal, -zaq]
   refine ⟨H.next + 1, b.length, true, rfl, by omega, by simp, fun j x hj => ?_⟩
   have := zaa hw hj
   have e0 : j ≠ H.next := by omega
   have e1 : j ≠ H.next + 1 := by omega
   simp [e0, e1, hj]
theorem lgGet_does {H : AHeap} {g k : Nat} {lv : AV} {L : Lg} (hg : LgAt H g k lv L) {n : Nat} {b : Bs} (hn : L.l[n]? = some b) (hl : b.length <= 1000000000) :
  Does Tryz.prog G 67 [.ptr g 0, .int .i64 n] H fun r h => r = .tuple [bV b, .bool true] /\ h = H := by
 refine Does.frozen (lgGet_run hg hn hl) ?_
 rintro hw _ r H1 ⟨i, cap, op, rfl, hi, hgi, hs⟩
 have e1 : AV.frz i (strCs b) (.tuple [.sl i 0 1 b.length cap op, .bool true]) = .tuple [bV b, .bool true] := by simp [AV.frz, AV.frzs, take_strCs, bV]
 refine ⟨i, strCs b, hi, hgi, hs, ?_, ?_⟩
 · rw [e1]; simp [AV.idLt, AV.allLt, bV, strCs_lt]
 · rw [e1]; exact ⟨rfl, rfl⟩
def LgNew (H : AHeap) (k : Nat) (d d' : Dk) (l : List Bs) (r : AV) (h : AHeap) : Prop := ∃ g lv, r = .tuple [.ptr g 0, .int .i64 0] /\ LgAt h g k lv ⟨l, l.length, d'.lives, false⟩ /\ DkAt h k d' /\ (∀ j x, H.get j = some x -> j ≠ g) /\
 (∀ i op, lv = .sl i 0 1 l.length l.length op -> H.next <= i) /\ ∀ j x, j ≠ k -> H.get j = some x -> h.get j = some x
theorem sync_zero {d : Dk} (ho : d.off = false) (hf : d.fuse = 0) (n : Nat) : d.sync n = (0, d.setF n (d.file n).settle) := by simp [Dk.sync, ho, Dk.blown, hf]
theorem cut_zero {d : Dk} (ho : d.off = false) (hf : d.fuse = 0) (hok : dkOk d) {n m : Nat} (hm : m <= (d.file n).now.length) : d.cut n m = (0, d.setF n { d.file n with now := (d.file n).now.take m, other := true }) := by
 have := za7 hok n
 have h1 : ¬ (d.file n).now.length < m := by omega
 have h2 : ¬ 262144 < ((d.file n).now.take m).length := by rw [List.length_take]; omega
 simp only [Dk.cut, ho, Bool.false_eq_true, if_false, if_neg h1, Dk.change, if_neg h2, Dk.blown, hf, if_true, Bool.or_true]
theorem setF_rest (d : Dk) (n : Nat) (f : Fl) : (d.setF n f).off = d.off /\ (d.setF n f).fuse = d.fuse /\ (d.setF n f).lives = d.lives := by
 unfold Dk.setF
 split
 · exact ⟨rfl, rfl, rfl⟩
 · split <;> exact ⟨rfl, rfl, rfl⟩
theorem LsA.lsl {H0 H : AHeap} {v : AV} {l : List Bs} (h : LsA H0 H v l) : LsL H v l := by
 rcases h with h | ⟨i, op, vs, h1, _, h3, h4⟩
 · exact .inl h
 · exact .inr ⟨i, op, vs, h1, h3, h4⟩
theorem LsA.cells {H0 H : AHeap} {v : AV} {l : List Bs} (h : LsA H0 H v l) : v.cells = [v] := by
 rcases h with ⟨rfl, _⟩ | ⟨i, op, vs, rfl, _⟩ <;> rfl
theorem lg_new {H h3 h4 : AHeap} {k : Nat} {d d3 d4 : Dk} {lv : AV} {l : List Bs} (hw : H.Wf) (hk : k < H.next) (hk3 : DkAt h3 k d3) (hw3 : h3.Wf) (hL : LsA H h3 lv l) (hs : ∀ j x, j ≠ k -> H.get j = some x -> h3.get j = some x) (ht : DkTo h3 h4 k d4) :
  LgNew H k d d4 l (.tuple [.ptr h4.next 0, .int .i64 0]) (h4.push (.cells (lgV k lv ⟨l, l.length, d4.lives, false⟩))) := by
 obtain ⟨cs, hc, rfl⟩ := ht
 have hk' : k < h3.next := by obtain ⟨c, _, hc⟩ := hk3; exact zaa hw3 hc
 refine ⟨h3.next, lv, rfl, ⟨by simp, ?_⟩, ⟨cs, hc, by simp; omega⟩, ?_, fun i op e => ?_, fun j x hj hx => ?_⟩
 · refine hL.lsl.keep fun i op e => ?_
   have n1 := Lg.ne_k hk3 hL.lsl e
   have n2 : i ≠ h3.next := by
    rcases hL with ⟨h, _⟩ | ⟨i', op', vs, e', _, hgi, _⟩
    · rw [h] at e; cases e
    · rw [e] at e'; cases e'
      have := zaa hw3 hgi; omega
   simp [n1, n2]
 · intro j x hx
   by_cases hj : j = k
   · omega
   · have := zaa hw3 (hs j x hj hx); omega
 · rcases hL with ⟨h, _⟩ | ⟨i', op', vs, e', hi, hgi, _⟩
   · rw [h] at e; cases e
   · rw [e] at e'; cases e'
     exact hi
 · have h1 := hs j x hj hx
   have h2 := zaa hw3 h1
   simp [hj]
   rw [if_neg (by omega)]; exact h1
theorem lgOpen_does {H : AHeap} {k : Nat} {d : Dk} (hk : DkAt H k d) (ho : d.off = false) (hok : dkOk d) (hf : d.fuse = 0) :
  Does Tryz.prog G 31 [.ptr k 0] H (LgNew H k d (if (all (d.f0.now.length + 1) 0 d.f0.now).2 < d.f0.now.length then ((d.cut 0 (all (d.f0.now.length + 1) 0 d.f0.now).2).2.sync 0).2 else (d.sync 0).2) (all (d.f0.now.length + 1) 0 d.f0.now).1) := by
 refine Does.wf Tryz.call31 fun hw _ => ?_
 have hl0 := za7 hok 0
 have hl0 : d.f0.now.length <= 262144 := hl0
 refine zad Tryz.call31 Tryz.func31 rfl (by simp [Tryz.f31]) ?_
 simp
 refine zab (read_does (n := 0) hk hok (by decide)) ?_
 rintro r h ⟨hr, rfl⟩
 rw [if_neg (by simp [ho])] at hr
 obtain ⟨v, hv, rfl⟩ := hr
 have hv : BtA v d.f0.now := hv
 simp
 refine zac (all_run hv (by omega) h) ?_
 rintro r h2 ⟨lv, rfl, hL, hs⟩ hw2 _
 have hsz := all_size (d.f0.now.length + 1) 0 d.f0.now
 generalize all (d.f0.now.length + 1) 0 d.f0.now = A at *
 obtain ⟨l, size⟩ := A
 simp only at hL hsz
 have hvl : alen Tryz.prog 22 v = some (.int .i64 d.f0.now.length) := by
  rcases hv with ⟨rfl, e⟩ | ⟨ts, rfl⟩
  · simp [alen, e]
  · simp [alen]
 have hk2 : DkAt h2 k d := by obtain ⟨cs, hc, hg⟩ := hk; exact ⟨cs, hc, hs _ _ hg⟩
 by_cases hc : size < d.f0.now.length
 · have hc' : (size : Int) < d.f0.now.length := by omega
   simp [hvl, hc', hc, -alen]
   have hz : size <= (d.file 0).now.length := by show size <= d.f0.now.length; omega
   refine zac (dkCut_does (n := 0) hk2 hok (by decide) (by omega)) ?_
   rintro r h3 ⟨rfl, ht1⟩ hw3 _
   rw [cut_zero ho hf hok hz] at ht1 ⊢
   simp
   obtain ⟨r1, r2, r3⟩ := setF_rest d 0 { d.file 0 with now := (d.file 0).now.take size, other := true }
   have hok2 : dkOk (d.setF 0 { d.file 0 with now := (d.file 0).now.take size, other := true }) := dkOk_setF hok 0 (by simp; have := za7 hok 0; omega) (synced_len hok 0)
   have hk3 := ht1.at
   generalize d.setF 0 { d.file 0 with now := (d.file 0).now.take size, other := true } = d2 at *
   have ho2 : d2.off = false := by rw [r1]; exact ho
   have hf2 : d2.fuse = 0 := by rw [r2]; exact hf
   have hoff3 := fun {j : Nat} (hj : j ≠ k) => ht1.off hj
   have hL3 : LsA h h3 lv l := by
    rcases hL with h' | ⟨i, op, vs, e, hi, hgi, hv⟩
    · exact .inl h'
    · refine .inr ⟨i, op, vs, e, hi, ?_, hv⟩
      rw [hoff3 (Lg.ne_k hk2 (LsA.lsl (H0 := h) (.inr ⟨i, op, vs, e, hi, hgi, hv⟩)) e)]; exact hgi
   refine zac (sync_does (n := 0) hk3 hok2 (by decide)) ?_
   rintro r h4 ⟨rfl, ht⟩ hw4 _
   have kn : k < h.next := by obtain ⟨c, _, hc⟩ := hk; exact zaa hw hc
   have hll := hL3.lsl.len
   have hlc := hL3.cells
   rw [sync_zero ho2 hf2] at ht ⊢
   simp [hll, -alen]
   refine zab (lives_does ht.at) ?_
   rintro r h5 ⟨rfl, rfl⟩
   simp [hlc]
   rw [if_pos hc]
   exact lg_new hw kn hk3 hw3 hL3 (fun j x hj hx => by rw [hoff3 hj]; exact hs j x hx) ht
 · have hc' : ¬ (size : Int) < d.f0.now.length := by omega
   simp [hvl, hc', hc, -alen]
   refine zac (sync_does (n := 0) hk2 hok (by decide)) ?_
   rintro r h4 ⟨rfl, ht⟩ hw4 _
   have kn : k < h.next := by obtain ⟨c, _, hc⟩ := hk; exact zaa hw hc
   have hll := hL.lsl.len
   have hlc := hL.cells
   rw [sync_zero ho hf] at ht ⊢
   simp [hll, -alen]
   refine zab (lives_does ht.at) ?_
   rintro r h5 ⟨rfl, rfl⟩
   simp [hlc]
   rw [if_neg hc]
   exact lg_new hw kn hk2 hw2 hL (fun j x _ hj => hs j x hj) ht
def za8 (b : Bs) : Nat × Bs := if (take b).2.2 ≠ b.length then (0, []) else ((take b).1, (take b).2.1)
def ckLast (b1 b2 : Bs) : Nat × Nat × Bs :=
 if (za8 b1).1 = 0 /\ (za8 b2).1 = 0 then (0, 0, []) else if (za8 b1).1 < (za8 b2).1 then (2, za8 b2) else (1, za8 b1)
def CkR (H : AHeap) (x : Nat × Bs) (r : AV) (h : AHeap) : Prop := ∃ v, BtA v x.2 /\ r = .tuple [.agg [.int .u64 x.1, v], .int .i64 0] /\ h = H
theorem ckRead_does {H : AHeap} {k : Nat} {d : Dk} (hk : DkAt H k d) (hok : dkOk d) (ho : d.off = false) {n : Nat} (hn : n < 3) :
  Does Tryz.prog G 166 [.ptr k 0, .int .i64 n] H (CkR H (za8 (d.file n).now)) := by
 refine Does.wf Tryz.call166 fun hw _ => ?_
 refine Does.ghost (R := fun r h => ∃ v, BtA v (za8 (d.file n).now).2 /\ AV.idLt H.next v = true /\ r = .tuple [.agg [.int .u64 (za8 (d.file n).now).1, v], .int .i64 0] /\ ∀ j y, H.get j = some y -> h.get j = some y) ?_ ?_
 · have hfl := za7 hok n
   have kn : k < H.next := by obtain ⟨c, _, hc⟩ := hk; exact zaa hw hc
   refine zad Tryz.call166 Tryz.func166 rfl (by simp [Tryz.f166]) ?_
   simp
   have hk2 : ∀ x, DkAt (H.push x) k d := by
    obtain ⟨cs, hc, hg⟩ := hk
    exact fun x => ⟨cs, hc, by simp [hg, show k ≠ H.next by omega]⟩
   refine zac (read_does (hk2 _) hok hn) ?_
   rintro r h ⟨hr, rfl⟩ _ hlt
   rw [if_neg (by simp [ho])] at hr
   obtain ⟨v, hv, rfl⟩ := hr
   have hvl : alen Tryz.prog 22 v = some (.int .i64 (d.file n).now.length) := by
    rcases hv with ⟨rfl, e⟩ | ⟨ts, rfl⟩
    · simp [alen, e]
    · simp [alen]
   simp
   refine zac (take_does' hv (by omega) _) ?_
   rintro r h2 ⟨tv, ⟨htv, hid⟩, rfl, rfl⟩ _ hlt2
   by_cases hc : (take (d.file n).now).2.2 = (d.file n).now.length
   · have e : za8 (d.file n).now = ((take (d.file n).now).1, (take (d.file n).now).2.1) := by simp [za8, hc]
     simp [hvl, hc, e, htv.cells, htv.sc, -alen]
     exact ⟨tv, htv, hid _, rfl, fun j y hj => by
      have := zaa hw hj
      rw [if_neg (by omega)]; exact hj⟩
   · have e : za8 (d.file n).now = (0, []) := by simp [za8, hc]
     have hc' : (((take (d.file n).now).2.2 : Int) != ((d.file n).now.length : Int)) = true := by rw [bne_iff_ne]; omega
     simp [hvl, hc', e, -alen]
     exact ⟨.nilsl, .nil, rfl, rfl, fun j y hj => by
      have := zaa hw hj
      rw [if_neg (by omega)]; exact hj⟩
 · rintro r h ⟨v, h1, h2, h3, h4⟩
   exact ⟨r, H, Ghost.back hw (by rw [h3]; simp [AV.idLt, AV.allLt, h2]) h4, v, h1, h3, rfl⟩
def CkL (H : AHeap) (x : Nat × Nat × Bs) (r : AV) (h : AHeap) : Prop := ∃ v, BtA v x.2.2 /\ r = .tuple [.int .i64 x.1, .agg [.int .u64 x.2.1, v], .int .i64 0] /\ ∀ j y, H.get j = some y -> h.get j = some y
theorem ckLast_run {H : AHeap} {k : Nat} {d : Dk} (hk : DkAt H k d) (hok : dkOk d) (ho : d.off = false) :
  Does Tryz.prog G 111 [.ptr k 0] H (CkL H (ckLast d.f1.now d.f2.now)) := by
 refine Does.wf Tryz.call111 fun hw _ => ?_
 have kn : k < H.next := by obtain ⟨c, _, hc⟩ := hk; exact zaa hw hc
 have hkx : ∀ h' : AHeap, h'.get k = H.get k -> DkAt h' k d := by
  obtain ⟨cs, hc, hg⟩ := hk
  exact fun h' e => ⟨cs, hc, by rw [e]; exact hg⟩
 have k0 : k ≠ H.next := by omega
 have k1 : k ≠ H.next + 1 := by omega
 have k2 : k ≠ H.next + 1 + 1 := by omega
 refine zad Tryz.call111 Tryz.func111 rfl (by simp [Tryz.f111]) ?_
 simp
 refine zab (ckRead_does (n := 1) (hkx _ (by simp [k0])) hok ho (by decide)) ?_
 rintro r h ⟨v1, h1, rfl, rfl⟩
 have h1 : BtA v1 (za8 d.f1.now).2 := h1
 have e1 : za8 (d.file 1).now = za8 d.f1.now := rfl
 rw [e1]
 simp [h1.cells, h1.sc]
 refine zab (ckRead_does (n := 2) (hkx _ (by simp [k0, k1])) hok ho (by decide)) ?_
 rintro r h ⟨v2, h2, rfl, rfl⟩
 have h2 : BtA v2 (za8 d.f2.now).2 := h2
 have e2 : za8 (d.file 2).now = za8 d.f2.now := rfl
 rw [e2]
 have hL : ckLast d.f1.now d.f2.now = if (za8 d.f1.now).1 = 0 /\ (za8 d.f2.now).1 = 0 then (0, 0, []) else if (za8 d.f1.now).1 < (za8 d.f2.now).1 then (2, za8 d.f2.now) else (1, za8 d.f1.now) := rfl
 generalize za8 d.f1.now = x1 at *
 generalize za8 d.f2.now = x2 at *
 obtain ⟨m1, b1⟩ := x1
 obtain ⟨m2, b2⟩ := x2
 simp only at h1 h2 hL
 have hkeep : ∀ j y, H.get j = some y -> j ≠ H.next /\ j ≠ H.next + 1 /\ j ≠ H.next + 1 + 1 := fun j y hj => by have := zaa hw hj; omega
 have n0 : (H.next = H.next + 1 + 1) = False := eq_false (by omega)
 have n1 : (H.next + 1 = H.next + 1 + 1) = False := eq_false (by omega)
 have n2 : (H.next = H.next + 1) = False := eq_false (by omega)
 simp [h2.cells, h2.sc]
 by_cases z1 : m1 = 0
 · have z1' : decide (m1 = 0) = true := by simp [z1]
   by_cases z2 : m2 = 0
   · have z2' : decide (m2 = 0) = true := by simp [z2]
     rw [if_pos ⟨z1, z2⟩] at hL
     rw [hL]
     simp [z1', z2', k0, k1, k2, n0, n1, n2]
     exact ⟨.nilsl, .nil, rfl, fun j y hj => by
      obtain ⟨q0, q1, q2⟩ := hkeep j y hj
      simp [q0, q1, q2, hj]⟩
   · have z2' : decide (m2 = 0) = false := by simp [z2]
     have z3 : m1 < m2 := by omega
     rw [if_neg (by simp [z2]), if_pos z3] at hL
     rw [hL]
     simp [z1', z2', z3, k0, k1, k2, n0, n1, n2]
     refine zaj [(0, 0)] zah (by kernel_rfl) ?_
     intro es hes
     simp [h1.cells, h1.sc, h2.cells, h2.sc, n0, n1, n2]
     refine ⟨by subst hes; exact ⟨by kernel_rfl, by kernel_rfl⟩, ?_, ?_⟩
     · simp [rds, heapF, n0, n1, n2]
     exact ⟨_, h2, rfl, fun j y hj => by
      obtain ⟨q0, q1, q2⟩ := hkeep j y hj
      simp [q0, q1, q2, hj]⟩
 · have z1' : decide (m1 = 0) = false := by simp [z1]
   by_cases z3 : m1 < m2
   · rw [if_neg (by simp [z1]), if_pos z3] at hL
     rw [hL]
     simp [z1', z3, k0, k1, k2, n0, n1, n2]
     refine zaj [(0, 0)] zah (by kernel_rfl) ?_
     intro es hes
     simp [h1.cells, h1.sc, h2.cells, h2.sc, n0, n1, n2]
     refine ⟨by subst hes; exact ⟨by kernel_rfl, by kernel_rfl⟩, ?_, ?_⟩
     · simp [rds, heapF, n0, n1, n2]
     exact ⟨_, h2, rfl, fun j y hj => by
      obtain ⟨q0, q1, q2⟩ := hkeep j y hj
      simp [q0, q1, q2, hj]⟩
   · rw [if_neg (by simp [z1]), if_neg z3] at hL
     rw [hL]
     simp [z1', z3, k0, k1, k2, n0, n1, n2]
     refine zaj [(0, 0)] zah (by kernel_rfl) ?_
     intro es hes
     simp [h1.cells, h1.sc, h2.cells, h2.sc, n0, n1, n2]
     refine ⟨by subst hes; exact ⟨by kernel_rfl, by kernel_rfl⟩, ?_, ?_⟩
     · simp [rds, heapF, n0, n1, n2]
     exact ⟨_, h1, rfl, fun j y hj => by
      obtain ⟨q0, q1, q2⟩ := hkeep j y hj
      simp [q0, q1, q2, hj]⟩
def CkD (H : AHeap) (x : Nat × Nat × Bs) (r : AV) (h : AHeap) : Prop := (∃ v, BtA v x.2.2 /\ r = if x.1 = 0 then .tuple [.int .u64 0, .nilsl, .int .i64 5] else .tuple [.int .u64 x.2.1, v, .int .i64 0]) /\ ∀ j y, H.get j = some y -> h.get j = some y
theorem ckLoad_run {H : AHeap} {k : Nat} {d : Dk} (hk : DkAt H k d) (hok : dkOk d) (ho : d.off = false) :
  Does Tryz.prog G 60 [.ptr k 0] H (CkD H (ckLast d.f1.now d.f2.now)) := by
 refine Does.wf Tryz.call60 fun hw _ => ?_
 refine zad Tryz.call60 Tryz.func60 rfl (by simp [Tryz.f60]) ?_
 simp
 refine zac (ckLast_run hk hok ho) ?_
 rintro r h ⟨v, hv, rfl, hs⟩ hw2 _
 have hkeep : ∀ j y, H.get j = some y -> j ≠ h.next /\ h.get j = some y := fun j y hj => by have := zaa hw2 (hs j y hj); exact ⟨by omega, hs j y hj⟩
 generalize ckLast d.f1.now d.f2.now = x at *
 obtain ⟨f, n, b⟩ := x
 simp only at hv
 simp [hv.cells, hv.sc]
 by_cases hf : f = 0
 · have hf' : decide (f = 0) = true := by simp [hf]
   simp [hf', hf]
   refine ⟨⟨v, hv, rfl⟩, fun j y hj => ?_⟩
   obtain ⟨q1, q2⟩ := hkeep j y hj
   simp [q1, q2]
 · have hf' : decide (f = 0) = false := by simp [hf]
   simp [hf', hf]
   refine aw_still zah (by kernel_rfl) ?_
   intro es hes
   simp [hv.cells, hv.sc]
   subst hes
   refine ⟨by kernel_rfl, ⟨v, hv, by simp [hf]⟩, fun j y hj => ?_⟩
   obtain ⟨q1, q2⟩ := hkeep j y hj
   simp [q1, q2]
def ints (l : List Int) : List AV := l.map (.int .i64 ·)
theorem za6 (l : List Int) : (ints l).length = l.length := by simp [ints]
theorem ints_lt (n : Nat) : ∀ l : List Int, AV.allLt n (ints l) = true
 | [] => rfl
 | v :: l => by
   have := ints_lt n l
   simp only [ints, List.map_cons, AV.allLt] at this ⊢
   rw [this]; rfl
theorem ints_sc (l : List Int) : (ints l).all AV.scalar = true := by simp [ints]
def RowA (v : AV) (row : Option (List Int)) : Prop := (v = .nilsl /\ row = none) \/ ∃ ts l, v = .vsl (ints l ++ ts) l.length /\ row = some l
def rowV : Option (List Int) -> AV
 | none => .nilsl
 | some l => .vsl (ints l) l.length
theorem RowA.rowV (row : Option (List Int)) : RowA (rowV row) row := by
 cases row with
 | none => exact .inl ⟨rfl, rfl⟩
 | some l => exact .inr ⟨[], l, by simp [Proofs.YtekbjlihciedjaaGreatDoor.rowV], rfl⟩
theorem cloneRow_does {v : AV} {row : Option (List Int)} (hv : RowA v row) (hl : (row.getD []).length <= 1000000000) (H : AHeap) :
  Does Tryz.prog G 84 [v] H fun r h => r = rowV row /\ h = H := by
 rcases hv with ⟨rfl, rfl⟩ | ⟨ts, l, rfl, rfl⟩
 · refine zad Tryz.call84 Tryz.func84 rfl (by simp [Tryz.f84]) ?_
   simp [rowV]
 · have hl : l.length <= 1000000000 := hl
   refine fresh_sl (z := 1) (by simp [ints]) (ints_lt _ _) ?_
   refine Does.wf Tryz.call84 fun hw _ => ?_
   have k1 : l.length * 8 <= 140737488355328 := by omega
   have k2 : l.length <= 4611686018427387904 := by omega
   have hold : ∀ j x, H.get j = some x -> j ≠ H.next /\ j ≠ H.next + 1 := fun j x hj => by have l := zaa hw hj; omega
   refine zad Tryz.call84 Tryz.func84 rfl (by simp [Tryz.f84]) ?_
   by_cases h0 : l.length = 0
   · have hb : l = [] := List.length_eq_zero_iff.1 h0
     subst hb
     simp [ints]
     intro j x hj
     obtain ⟨e0, e1⟩ := hold j x hj
     simp [e0, hj]
   · have h1 : ¬ l.length <= 0 := by omega
     have tk : List.take l.length (ints l ++ ts) = ints l := List.take_left' (za6 l)
     simp [h0, h1, k1, k2, tk, ints_sc, za6]
     intro j x hj
     obtain ⟨e0, e1⟩ := hold j x hj
     simp [e0, e1, hj]
def enV (e : En) (v : AV) : AV := .agg [.int .u64 e.id, .int .u64 e.view, v]
theorem RowA.cells {v : AV} {row : Option (List Int)} (h : RowA v row) : v.cells = [v] := by rcases h with ⟨rfl, _⟩ | ⟨ts, l, rfl, _⟩ <;> rfl
theorem RowA.sc {v : AV} {row : Option (List Int)} (h : RowA v row) : v.scalar = true := by rcases h with ⟨rfl, _⟩ | ⟨ts, l, rfl, _⟩ <;> rfl
theorem rowV_lt (n : Nat) (row : Option (List Int)) : AV.idLt n (rowV row) = true := by
 cases row with
 | none => rfl
 | some l => simp [rowV, AV.idLt, ints_lt]
theorem copyEn_does {e : En} {v : AV} (hv : RowA v e.row) (hl : e.l.length <= 1000000000) (H : AHeap) : Does Tryz.prog G 50 [enV e v] H fun r h => r = enV e (rowV e.row) /\ h = H := by
 refine Does.forgot (R := fun r h => r = enV e (rowV e.row) /\ ∀ j x, H.get j = some x -> h.get j = some x) ?_ (fun hw ha r H1 ⟨h1, h2⟩ => ⟨h2, by rw [h1]; simp [enV, AV.idLt, AV.allLt, rowV_lt], h1, rfl⟩)
 refine Does.wf Tryz.call50 fun hw _ => ?_
 have hr := RowA.rowV e.row
 refine zad Tryz.call50 Tryz.func50 rfl (by simp [Tryz.f50]) ?_
 simp [enV]
 refine zab (cloneRow_does hv hl _) ?_
 rintro r h ⟨rfl, rfl⟩
 simp [hr.cells, hr.sc, enV]
 intro j x hj
 have := zaa hw hj
 have e0 : j ≠ H.next := by omega
 have e1 : j ≠ H.next + 1 := by omega
 simp [e0, e1, hj]
theorem encIs_le {l : List Int} (h : ∀ v ∈ l, i64 v) : (encIs l).length <= 10 * l.length := by
 induction l with
 | nil => simp [encIs]
 | cons v l ih =>
   have h1 := ih fun x hx => h x (by simp [hx])
   have h2 := zao (zig_lt (h v (by simp)))
   simp [encIs, encI] at h1 ⊢
   omega
theorem encIs_app (a b : List Int) : encIs (a ++ b) = encIs a ++ encIs b := by simp [encIs]
theorem putEn_does {e : En} {v : AV} (hv : RowA v e.row) (hok : e.ok) (hl : e.l.length <= 1000000) (H : AHeap) : Does Tryz.prog G 210 [enV e v] H fun r h => r = bV (encEn e) /\ h = H := by
 refine Does.forgot (R := fun r h => r = bV (encEn e) /\ ∀ j x, H.get j = some x -> h.get j = some x) ?_ (fun hw ha r H1 ⟨h1, h2⟩ => ⟨h2, by rw [h1]; simp [AV.idLt, bV, strCs_lt], h1, rfl⟩)
 refine Does.wf Tryz.call210 fun hw _ => ?_
 obtain ⟨o1, o2, o3, o4⟩ := hok
 have l1 := zao o1
 have l2 := zao o2
 have l3 := zao (u := e.l.length) (by omega)
 refine zad Tryz.call210 Tryz.func210 rfl (by simp [Tryz.f210]) ?_
 have hc := hv.cells
 have hs := hv.sc
 have hlv : alen Tryz.prog 45 v = some (.int .i64 e.l.length) := by
  rcases hv with ⟨rfl, h⟩ | ⟨ts, l, rfl, h⟩
  · simp [alen, En.l, h]
  · simp [alen, En.l, h]
 have w1 : IntKind.u64.wrap (e.l.length : Int) = (e.l.length : Int) := IntWalk.u64_in _ (by omega)
 simp [enV]
 refine zaj [(1, 0), (4, 0), (4, 3)] zah (by kernel_rfl) ?_
 intro es hes
 simp [zaf, -zag, hc, hs]
 refine ⟨_, _, packU_does (bs := []) o1 .nil (by simp) _, Nat.le_refl _, ?_⟩
 refine ad_go (fun T' => T' 1 = .ptr H.next 0 /\ T' 8 = bV ([] ++ encU e.id)) (by simp) ?_
 rintro T1 ⟨t1, t8⟩
 simp [zaf, -zag, t1, t8, hc, hs]
 refine ⟨_, _, packU_does (bs := [] ++ encU e.id) o2 (.bV _) (by simp; omega) _, Nat.le_refl _, ?_⟩
 refine ad_go (fun T' => T' 1 = .ptr H.next 0 /\ T' 11 = bV (encU e.id ++ encU e.view)) (by simp [t1]) ?_
 rintro T2 ⟨t1, t11⟩
 simp [zaf, -zag, t1, t11, hc, hs, hlv, w1, -alen]
 refine ⟨by subst hes; exact ⟨by kernel_rfl, by kernel_rfl⟩, ?_, ?_⟩
 · simp [rds, heapF, hc]
 refine zab (packU_does (u := e.l.length) (by omega) (.bV (encU e.id ++ encU e.view)) (by simp; omega) _) ?_
 rintro r h ⟨rfl, rfl⟩
 simp [t1, hc, hs, hlv, -alen]
 have hkeep : ∀ j y, H.get j = some y -> j ≠ H.next := fun j y hj => by have := zaa hw hj; omega
 have hle := encIs_le o4
 refine zaE (fun m T' H' => ∃ i : Nat, i + m = e.l.length /\ H' = H.push (.cells [.int .u64 e.id, .int .u64 e.view, v]) /\ T' 19 = v /\ T' 20 = .int .i64 e.l.length /\ T' 21 = .int .i64 i /\ T' 3 = bV (encU e.id ++ (encU e.view ++ (encU e.l.length ++ encIs (e.l.take i))))) e.l.length ?_ ?_
 · exact ⟨0, by simp, rfl, by simp, by simp, by simp, by simp [encIs]⟩
 rintro m T H1 ⟨i, him, rfl, t19, t20, t21, t3⟩
 by_cases hi : i < e.l.length
 · obtain ⟨ts, rfl⟩ : ∃ ts, v = .vsl (ints e.l ++ ts) e.l.length := by
    rcases hv with ⟨_, h⟩ | ⟨ts, l, h, h2⟩
    · have : e.l = [] := by simp [En.l, h]
      rw [this] at hi; simp at hi
    · have hel : e.l = l := by simp [En.l, h2]
      exact ⟨ts, by rw [hel]; exact h⟩
   have he : e.l[i]? = some e.l[i] := List.getElem?_eq_getElem hi
   have hmem : e.l[i] ∈ e.l := List.getElem_mem hi
   have htk : e.l.take (i + 1) = e.l.take i ++ [e.l[i]] := by rw [List.take_add_one, he]; rfl
   generalize e.l[i] = x at *
   have hat : (ints e.l ++ ts)[i]? = some (.int .i64 x) := by
    rw [List.getElem?_append_left (by rw [za6]; exact hi)]
    simp [ints, he]
   have hii : (i : Int) < e.l.length := by omega
   have wi : IntKind.i64.wrap ((i : Int) + 1) = ((i + 1 : Nat) : Int) := by rw [IntWalk.i64_in _ (by omega)]; omega
   have hl2 : (encIs (e.l.take i)).length <= 10 * e.l.length := by
    have := encIs_le (l := e.l.take i) fun v hv => o4 v (List.mem_of_mem_take hv)
    rw [List.length_take] at this; omega
   simp [t19, t20, t21, t3, hat, hii, hi]
   refine zab (packI_does (o4 x hmem) (.bV (encU e.id ++ (encU e.view ++ (encU e.l.length ++ encIs (e.l.take i))))) (by simp; omega) _) ?_
   rintro r h ⟨rfl, rfl⟩
   simp [t19, t20, t21, wi]
   exact ⟨m - 1, by omega, i + 1, by omega, by push_cast; rfl, by rw [htk, encIs_app]; simp [encIs]⟩
 · have hii : ¬ (i : Int) < e.l.length := by omega
   have e0 : i = e.l.length := by omega
   simp [t19, t20, t21, t3, hii, hi]
   refine ⟨by rw [e0, List.take_length]; simp [encEn], fun j y hj => ?_⟩
   simp [hkeep j y hj, hj]
def rdV (v : AV) (b : Bs) : AV := match rdU b with
 | none => .nilsl
 | some (_, t) => if t.length = 0 then .vsl [] 0 else match v with
   | .vsl cs _ => .vsl (cs.drop (b.length - t.length)) t.length
   | w => w
theorem rdV_len {i n : Nat} (h : i < n) : n - (n - (i + 1)) = i + 1 := by omega
theorem rdGo_suf : ∀ (b : Bs) (i a u : Nat) (t : Bs), rdGo i a b = some (u, t) -> t <:+ b
 | [], _, _, _, _, h => by simp [rdGo] at h
 | x :: r, i, a, u, t, h => by
   rw [rdGo] at h
   split at h
   · simp at h
   · split at h
     · exact (rdGo_suf r _ _ u t h).trans (List.suffix_cons x r)
     · split at h
       · simp at h
       · simp only [Option.some.injEq, Prod.mk.injEq] at h
         obtain ⟨rfl, rfl⟩ := h
         exact List.suffix_cons x r
theorem rdV_bt {v : AV} {b : Bs} {bad : Bool} (hv : BtA v b) : BtA (rdV v b) (Rd.U ⟨b, bad⟩).2.b := by
 unfold rdV Rd.U
 simp only
 cases h : rdU b with
 | none => exact .nil
 | some x =>
   obtain ⟨u, t⟩ := x
   have hs := List.suffix_iff_eq_drop.1 (rdGo_suf b 0 0 u t h)
   have hle := (rdGo_suf b 0 0 u t h).length_le
   simp only
   by_cases h0 : t.length = 0
   · rw [if_pos h0]
     have : t = [] := List.length_eq_zero_iff.1 h0
     subst this
     exact .inr ⟨[], rfl⟩
   · rw [if_neg h0]
     rcases hv with ⟨rfl, rfl⟩ | ⟨ts, rfl⟩
     · simp at hle; exact absurd (by rw [hle]; rfl) h0
     · refine .inr ⟨ts, ?_⟩
       simp only
       rw [drop_strCs (by omega), <- hs]
theorem rdU_exact {H : AHeap} {k : Nat} {v : AV} {b : Bs} {bad : Bool} (hv : BtA v b) (hk : H.get k = some (.cells [v, .bool bad])) (hl : b.length <= 1000000000) : Does Tryz.prog G 62 [.ptr k 0] H fun x h => x = .int .u64 (Rd.U ⟨b, bad⟩).1 /\ h = H.set k (.cells [rdV v b, .bool (Rd.U ⟨b, bad⟩).2.bad]) := by
 refine zad Tryz.call62 Tryz.func62 rfl (by simp [Tryz.f62]) ?_
 simp
 refine zaE (fun m T' H' => ∃ i a : Nat, i + m = 9 /\ H' = H /\ T' 0 = .ptr k 0 /\ T' 6 = .int .i64 i /\ T' 3 = .int .u64 a /\ a < 2 ^ (7 * i) /\ rdU b = rdGo i a (b.drop i)) 9 ?_ ?_
 · exact ⟨0, 0, rfl, rfl, by simp, by simp, by simp, by simp, rfl⟩
 rintro m T H1 ⟨i, a, him, rfl, t0, t6, t3, ha, hr⟩
 have i10 : (i : Int) < 10 := by omega
 by_cases hi : i < b.length
 · obtain ⟨ts, rfl⟩ : ∃ ts, v = .vsl (strCs b ++ ts) b.length := by
    rcases hv with ⟨_, h⟩ | h
    · rw [h] at hi; simp at hi
    · exact h
   have hi' : ¬ b.length <= i := by omega
   have hii : (i : Int) < b.length := by omega
   have he : b[i]? = some b[i] := List.getElem?_eq_getElem hi
   have hd : b.drop i = b[i] :: b.drop (i + 1) := List.drop_eq_getElem_cons hi
   generalize b[i] = x at he hd
   rw [hd, rdGo] at hr
   have hcs : (strCs b ++ ts)[i]? = some (.int .u8 x.toNat) := by
    rw [List.getElem?_append_left (by rw [zae]; exact hi)]
    simp [strCs, he]
   have hx := x.toNat_lt
   obtain ⟨s, hs⟩ : ∃ s, s = 7 * i := ⟨_, rfl⟩
   obtain ⟨p, hp⟩ : ∃ p, p = x.toNat % 128 := ⟨_, rfl⟩
   have w1 : IntKind.i64.wrap (7 * (i : Int)) = (s : Int) := by rw [IntWalk.i64_in _ (by omega)]; omega
   have w2 : ¬ (s : Int) < 0 := by omega
   have w3 := and127 hx
   rw [<- hp] at w3
   have w4 : IntKind.u64.wrap (p : Int) = (p : Int) := IntWalk.u64_in _ (by omega)
   by_cases hA : i = 9 /\ 1 < x.toNat
   · rw [if_pos hA] at hr
     have h9 : decide ((i : Int) = 9) = true := by simp; omega
     have hx1' : (1 : Int) < x.toNat := by omega
     simp [t0, t6, t3, hk, i10, hi', hii, hcs, hx1', h9]
     refine zab (spoil_does hk) ?_
     rintro r h rfl
     have e : Rd.U ⟨b, bad⟩ = (0, ⟨[], true⟩) := by simp [Rd.U, hr]
     simp [e, rdV, hr]
   rw [if_neg hA] at hr
   have hsm := rd_small (i := i) (by omega) hx hA
   have w5 := rd_shl (i := i) (by omega) hsm
   obtain ⟨w6, w7⟩ := rd_or (i := i) (by omega) ha hsm
   rw [<- hp, <- hs] at hsm w5 w6 w7
   rw [<- hs] at hr ha
   generalize hq : p * 2 ^ s = q at hsm w5 w6 w7
   have hq' : (if 128 <= x.toNat then x.toNat - 128 else x.toNat) * 2 ^ s = q := by
    rw [<- hq]; congr 1; split <;> omega
   have wi : IntKind.i64.wrap ((i : Int) + 1) = ((i + 1 : Nat) : Int) := by rw [IntWalk.i64_in _ (by omega)]; omega
   by_cases hB : 128 <= x.toNat
   · rw [if_pos hB] at hr hq'
     rw [hq'] at hr
     have h9 : decide ((i : Int) = 9) = false := by simp; omega
     have w8 : (IntKind.u8.wrap ((x.toNat % 2 ^ IntKind.u8.bits &&& 128 % 2 ^ IntKind.u8.bits : Nat) : Int) != 0) = true := by rw [bne_iff_ne, ne_eq, and128 hx]; omega
     simp [t0, t6, t3, hk, i10, hi', hii, hcs, h9, w1, w2, w3, w4, w5, w6, w8, wi]
     have hp1 : p <= 127 := by omega
     have hlt : a + q < 2 ^ (7 * (i + 1)) := by
      rw [show 7 * (i + 1) = s + 7 by omega, Nat.pow_add, <- hq]
      have h1 : p * 2 ^ s <= 127 * 2 ^ s := Nat.mul_le_mul_right _ hp1
      omega
     exact ⟨m - 1, by omega, i + 1, by omega, by push_cast; rfl, a + q, by push_cast; rfl, hlt, hr⟩
   rw [if_neg hB] at hr hq'
   have w8 : (IntKind.u8.wrap ((x.toNat % 2 ^ IntKind.u8.bits &&& 128 % 2 ^ IntKind.u8.bits : Nat) : Int) = 0) := by rw [and128 hx]; omega
   by_cases hz : x.toNat = 0 /\ 0 < i
   · rw [if_pos hz] at hr
     have hz1 : decide (x.toNat = 0) = true := by simp; omega
     have hz2 := hz.2
     by_cases h9 : i = 9
     · skip
       have h9' : decide ((i : Int) = 9) = true := by simp; omega
       have hx1 : ¬ (1 : Int) < x.toNat := by omega
       simp [t0, t6, t3, hk, i10, hi', hii, hcs, h9', hx1, hz1, hz2, w1, w2, w3, w4, w5, w6, w8, wi]
       refine zab (spoil_does hk) ?_
       rintro r h rfl
       have e : Rd.U ⟨b, bad⟩ = (0, ⟨[], true⟩) := by simp [Rd.U, hr]
       simp [e, rdV, hr]
     · skip
       have h9' : decide ((i : Int) = 9) = false := by simp; omega
       simp [t0, t6, t3, hk, i10, hi', hii, hcs, h9', hz1, hz2, w1, w2, w3, w4, w5, w6, w8, wi]
       refine zab (spoil_does hk) ?_
       rintro r h rfl
       have e : Rd.U ⟨b, bad⟩ = (0, ⟨[], true⟩) := by simp [Rd.U, hr]
       simp [e, rdV, hr]
   rw [if_neg hz] at hr
   by_cases hz1 : x.toNat = 0
   · have hz2 : ¬ 0 < i := by omega
     have hz3 : decide (x.toNat = 0) = true := by simp; omega
     have h9 : ¬ i = 9 := by omega
     · skip
       have h9' : decide ((i : Int) = 9) = false := by simp; omega
       simp [t0, t6, t3, hk, i10, hi', hii, hcs, h9', hz3, hz2, w1, w2, w3, w4, w5, w6, w8, wi]
       rw [if_pos ⟨by omega, by omega⟩]
       rw [hq'] at hr
       have e : Rd.U ⟨b, bad⟩ = (a + q, ⟨b.drop (i + 1), bad⟩) := by simp [Rd.U, hr]
       by_cases hend : i + 1 < b.length
       · simp [hend, hk, e, t0, rdV, hr, rdV_len (by omega : i < b.length)]
         rw [if_neg (by omega)]
       · simp [hend, hk, e, t0, rdV, hr, (by omega : b.length - (i + 1) = 0)]
   · have hz3 : decide (x.toNat = 0) = false := by simp; omega
     by_cases h9 : i = 9
     · skip
       have h9' : decide ((i : Int) = 9) = true := by simp; omega
       have hx1 : ¬ (1 : Int) < x.toNat := by omega
       simp [t0, t6, t3, hk, i10, hi', hii, hcs, h9', hx1, hz3, w1, w2, w3, w4, w5, w6, w8, wi]
       rw [if_pos ⟨by omega, by omega⟩]
       rw [hq'] at hr
       have e : Rd.U ⟨b, bad⟩ = (a + q, ⟨b.drop (i + 1), bad⟩) := by simp [Rd.U, hr]
       by_cases hend : i + 1 < b.length
       · simp [hend, hk, e, t0, rdV, hr, rdV_len (by omega : i < b.length)]
         rw [if_neg (by omega)]
       · simp [hend, hk, e, t0, rdV, hr, (by omega : b.length - (i + 1) = 0)]
     · skip
       have h9' : decide ((i : Int) = 9) = false := by simp; omega
       simp [t0, t6, t3, hk, i10, hi', hii, hcs, h9', hz3, w1, w2, w3, w4, w5, w6, w8, wi]
       rw [if_pos ⟨by omega, by omega⟩]
       rw [hq'] at hr
       have e : Rd.U ⟨b, bad⟩ = (a + q, ⟨b.drop (i + 1), bad⟩) := by simp [Rd.U, hr]
       by_cases hend : i + 1 < b.length
       · simp [hend, hk, e, t0, rdV, hr, rdV_len (by omega : i < b.length)]
         rw [if_neg (by omega)]
       · simp [hend, hk, e, t0, rdV, hr, (by omega : b.length - (i + 1) = 0)]
 · have hi' : b.length <= i := by omega
   have hd : b.drop i = [] := List.drop_eq_nil_of_le hi'
   rw [hd, rdGo] at hr
   have hlv : alen Tryz.prog 22 v = some (.int .i64 b.length) := by
    rcases hv with ⟨rfl, rfl⟩ | ⟨ts, rfl⟩ <;> simp [alen]
   simp [t0, t6, t3, hk, i10, hi', hlv, -alen]
   refine zab (spoil_does hk) ?_
   rintro r h rfl
   have e : Rd.U ⟨b, bad⟩ = (0, ⟨[], true⟩) := by simp [Rd.U, hr]
   simp [e, rdV, hr]
theorem rdI_exact {H : AHeap} {k : Nat} {v : AV} {b : Bs} {bad : Bool} (hv : BtA v b) (hk : H.get k = some (.cells [v, .bool bad])) (hl : b.length <= 1000000000) : Does Tryz.prog G 70 [.ptr k 0] H fun x h => x = .int .i64 (Rd.I ⟨b, bad⟩).1 /\ h = H.set k (.cells [rdV v b, .bool (Rd.I ⟨b, bad⟩).2.bad]) := by
 refine zad Tryz.call70 Tryz.func70 rfl (by simp [Tryz.f70]) ?_
 simp
 refine zab (rdU_exact hv hk hl) ?_
 rintro x h ⟨rfl, ht⟩
 simp
 rw [unzig_bits (rdU_lt _).1]
 exact ⟨rfl, ht⟩
theorem rdIs_le : ∀ (n : Nat) (r : Rd), (rdIs n r).2.b.length <= r.b.length /\ (rdIs n r).1.length = n
 | 0, r => ⟨Nat.le_refl _, rfl⟩
 | n + 1, r => by
   have h1 := rdIs_le n r.I.2
   have h2 := (rdU_lt r).2
   simp only [rdIs, Rd.I, List.length_cons] at h1 ⊢
   exact ⟨by omega, by omega⟩
def RowG (H0 : AHeap) (H : AHeap) (l : List Int) (w : AV) : Prop := (l = [] /\ w = .nilsl) \/ ∃ p cap op junk, l ≠ [] /\ w = .sl p 0 1 l.length cap op /\ H0.next <= p /\ H.get p = some (.cells (ints l ++ junk)) /\ l.length + junk.length = cap
def EnRun (o : Option En) (H : AHeap) (r : AV) (h : AHeap) : Prop := (∀ j x, H.get j = some x -> h.get j = some x) /\
 match o with
 | none => r = .tuple [.agg [.int .u64 0, .int .u64 0, .nilsl], .int .i64 3]
 | some e => ∃ w, r = .tuple [enV e w, .int .i64 0] /\ RowG H h e.l w /\ (e.row = if e.l = [] then none else some e.l)
theorem getEn_run {bv : AV} {b : Bs} (hb : BtA bv b) (hl : b.length <= 1000000000) (H : AHeap) : Does Tryz.prog G 113 [bv] H (EnRun (getEn b) H) := by
 refine Does.wf Tryz.call113 fun hw _ => ?_
 refine zad Tryz.call113 Tryz.func113 rfl (by simp [Tryz.f113]) ?_
 simp
 refine zac (packRead_does hb hl _) ?_
 rintro r H1 ⟨k, rfl, hk, hg, hs⟩ hw1 _
 simp
 refine zac (rdU_does (r := ⟨b, false⟩) hg hl) ?_
 rintro x H2 ⟨rfl, v2, hv2, rfl⟩ hw2 _
 have hl2 := rdU_lt ⟨b, false⟩
 generalize e1 : Rd.U ⟨b, false⟩ = r1 at *
 obtain ⟨u1, b1, d1⟩ := r1
 simp only at hv2 hl2 ⊢
 simp
 refine zac (rdU_does (r := ⟨b1, d1⟩) (k := k) ⟨v2, hv2, by simp⟩ (by simp; omega)) ?_
 rintro x H3 ⟨rfl, v3, hv3, rfl⟩ hw3 _
 have hl3 := rdU_lt ⟨b1, d1⟩
 generalize e2 : Rd.U ⟨b1, d1⟩ = r2 at *
 obtain ⟨u2, b2, d2⟩ := r2
 simp only at hv3 hl3 ⊢
 have ha : H.next ≠ k := by simp at hk; omega
 have hga : H1.get H.next = some (.cells [.int .u64 0, .int .u64 0, .nilsl]) := by
  have := hs H.next (.cells [.int .u64 0, .int .u64 0, .nilsl])
  simp at this
  exact this
 have hkq : k ≠ H1.next := by obtain ⟨v, _, hv⟩ := hg; have := zaa hw1 hv; omega
 have haq : H.next ≠ H1.next := by have := zaa hw1 hga; omega
 have hkH : H.next < k := by simp at hk; omega
 have hHq : H.next < H1.next := zaa hw1 hga
 have hkeep : ∀ j x, H.get j = some x -> j ≠ k /\ j ≠ H1.next /\ j ≠ H.next /\ H1.get j = some x := fun j x hj => by
  have h1 := zaa hw hj
  refine ⟨by omega, by omega, by omega, hs j x ?_⟩
  have h2 : j ≠ H.next := by omega
  simp [h2, hj]
 simp [ha, hga]
 refine zac (rdU_does (r := ⟨b2, d2⟩) (k := k) ⟨v3, hv3, by simp [hkq]⟩ (by simp; omega)) ?_
 rintro x H4 ⟨rfl, v4, hv4, rfl⟩ hw4 _
 have hl4 := rdU_lt ⟨b2, d2⟩
 generalize e3 : Rd.U ⟨b2, d2⟩ = r3 at *
 obtain ⟨n, b3, d3⟩ := r3
 simp only at hv4 hl4 ⊢
 simp
 refine zab (zaC (r := ⟨b3, d3⟩) (k := k) ⟨v4, hv4, by simp⟩) ?_
 rintro x h ⟨rfl, rfl⟩
 have w1 : IntKind.u64.wrap (b3.length : Int) = (b3.length : Int) := IntWalk.u64_in _ (by omega)
 have hG : getEn b = if b3.length < n then none else if (rdIs n ⟨b3, d3⟩).2.bad = true \/ 0 < (rdIs n ⟨b3, d3⟩).2.b.length then none else some ⟨u1, u2, if n = 0 then none else some (rdIs n ⟨b3, d3⟩).1⟩ := by
  simp only [getEn, e1, e2, e3]
 by_cases hn : b3.length < n
 · have hn' : (b3.length : Int) < n := by omega
   rw [if_pos hn] at hG
   rw [hG]
   simp [w1, hn, hn', EnRun, ha, haq, hga, hkq, hkq.symm, ha.symm, haq.symm]
   intro j x hj
   obtain ⟨q1, q2, q3, q4⟩ := hkeep j x hj
   simp [q1, q2, q3, q4]
 · have hn' : ¬ (b3.length : Int) < n := by omega
   rw [if_neg hn] at hG
   simp [w1, hn, hn']
   have hx := rdIs_le n ⟨b3, d3⟩
   generalize hX : rdIs n ⟨b3, d3⟩ = X at *
   refine zam (fun m T' H' => ∃ l v b' d' w, l.length + m = n /\ (l ++ (rdIs m ⟨b', d'⟩).1 = X.1 /\ (rdIs m ⟨b', d'⟩).2 = X.2) /\ b'.length <= b3.length /\ BtA v b' /\ H'.get k = some (.cells [v, .bool d']) /\ H'.get H1.next = some (.cells [.int .u64 u1, .int .u64 u2, w]) /\ RowG H H' l w /\
    H'.get H.next = some (.cells [.int .u64 0, .int .u64 0, .nilsl]) /\ (∀ j x, H.get j = some x -> H'.get j = some x) /\ H1.next < H'.next /\ (∀ p cap op, w = .sl p 0 1 l.length cap op -> p ≠ k /\ p ≠ H1.next /\ p ≠ H.next) /\
    T' 2 = .ptr H.next 0 /\ T' 4 = .ptr k 0 /\ T' 5 = .ptr H1.next 0 /\ T' 22 = .int .u64 n /\ T' 23 = .int .u64 l.length) n ?_ ?_
   · refine ⟨[], v4, b3, d3, .nilsl, by simp, ⟨by rw [hX]; rfl, by rw [hX]⟩, Nat.le_refl _, hv4, by simp, by simp [hkq.symm], .inl ⟨rfl, rfl⟩, by simp [ha, haq, hga], fun j x hj => ?_, by simp, by simp, by simp, by simp, by simp, by simp, by simp⟩
     obtain ⟨q1, q2, q3, q4⟩ := hkeep j x hj
     simp [q1, q2, q3, q4]
   rintro m T H' ⟨l, v, b', d', w, hlm, ⟨hX1, hX2⟩, hb', hv, hgk, hgq, hw', hga', hs', hnx, hpp, t2, t4, t5, t22, t23⟩ hw5 _
   have hwc : w.cells = [w] /\ w.scalar = true := by
    rcases hw' with ⟨_, rfl⟩ | ⟨p, cap, op, junk, _, rfl, _⟩ <;> simp
   cases m with
   | zero =>
     have c1 : ¬ (l.length : Int) < n := by omega
     simp [rdIs] at hX1 hX2
     rw [<- hX2] at hG
     have hel : (En.mk u1 u2 (if n = 0 then none else some X.1)).l = l := by
      rw [<- hX1]
      by_cases h0 : n = 0
      · have : l = [] := List.length_eq_zero_iff.1 (by omega)
        simp [En.l, h0, this]
      · simp [En.l, h0]
     simp [t22, t23, c1, t4]
     refine zab (zaF (r := ⟨b', d'⟩) ⟨v, hv, hgk⟩) ?_
     rintro x h ⟨rfl, rfl⟩
     have keep3 : ∀ j x, H.get j = some x -> j ≠ H.next := fun j x hj => (hkeep j x hj).2.2.1
     cases d' with
     | true =>
       have hG : getEn b = none := by rw [hG]; simp
       simp [t2, t4, hG, EnRun, hga']
       intro j x hj
       simp [keep3 j x hj, hs' j x hj]
     | false =>
       simp [t4]
       refine zab (zaC (r := ⟨b', false⟩) ⟨v, hv, hgk⟩) ?_
       rintro x h ⟨rfl, rfl⟩
       by_cases h0 : b'.length = 0
       · have hb0 : b' = [] := List.length_eq_zero_iff.1 h0
         subst hb0
         simp at hG
         simp [t2, t5, hG, EnRun, hga', hgq, hwc.1, hwc.2, haq]
         refine ⟨fun j x hj => ?_, w, by simp [enV], ?_⟩
         · simp [keep3 j x hj, hs' j x hj]
         · rw [hel]
           refine ⟨?_, ?_⟩
           · rcases hw' with h | ⟨p, cap, op, junk, h1, rfl, h2, h3, h4⟩
             · exact .inl h
             · have := hpp p cap op rfl
               exact .inr ⟨p, cap, op, junk, h1, rfl, h2, by simp [this.2.2, h3], h4⟩
           · rw [<- hX1]
             by_cases h0 : n = 0
             · have : l = [] := List.length_eq_zero_iff.1 (by omega)
               simp [h0, this]
             · have : l ≠ [] := fun h => by subst h; simp at hlm; omega
               simp [h0, this]
       · have h0' : 0 < b'.length := by omega
         have h1 : b' ≠ [] := fun h => by subst h; simp at h0
         simp [h1] at hG
         simp [t2, t4, hG, EnRun, hga', h0', h1]
         intro j x hj
         simp [keep3 j x hj, hs' j x hj]
   | succ m =>
     have c1 : (l.length : Int) < n := by omega
     have hxs : (rdIs (m + 1) ⟨b', d'⟩) = ((Rd.I ⟨b', d'⟩).1 :: (rdIs m (Rd.I ⟨b', d'⟩).2).1, (rdIs m (Rd.I ⟨b', d'⟩).2).2) := rfl
     have hbt := rdV_bt (bad := d') hv
     have hle := (rdU_lt ⟨b', d'⟩).2
     have hI2 : (Rd.I ⟨b', d'⟩).2 = (Rd.U ⟨b', d'⟩).2 := rfl
     have hex := rdI_exact (G := G) (bad := d') hv hgk (by omega)
     rw [hxs] at hX1 hX2
     rw [hI2] at hX1 hX2 hex
     generalize (Rd.I ⟨b', d'⟩).1 = x at *
     generalize (Rd.U ⟨b', d'⟩).2 = rr at *
     obtain ⟨b2', d2'⟩ := rr
     simp only at hex hX1 hX2 hbt hle
     generalize rdV v b' = v' at *
     have hqk : H1.next ≠ k := hkq.symm
     have n1 : H1.next ≠ H'.next := by omega
     have n2 : H1.next ≠ H'.next + 1 := by omega
     have hkn := zaa hw5 hgk
     have hkn' : k < H'.next := hkn
     have n3 : k ≠ H'.next := by omega
     have n4 : k ≠ H'.next + 1 := by omega
     have n5 : H.next ≠ H'.next := by omega
     have n6 : H.next ≠ H'.next + 1 := by omega
     have hold : ∀ j y, H.get j = some y -> j ≠ k /\ j ≠ H1.next /\ j ≠ H.next /\ j ≠ H'.next /\ j ≠ H'.next + 1 /\ H'.get j = some y := fun j y hj => by
      obtain ⟨q1, q2, q3, q4⟩ := hkeep j y hj
      have := zaa hw5 (hs' j y hj)
      exact ⟨q1, q2, q3, by omega, by omega, hs' j y hj⟩
     have wi : IntKind.u64.wrap ((l.length : Int) + 1) = ((l.length + 1 : Nat) : Int) := by rw [IntWalk.u64_in _ (by omega)]; omega
     simp [t22, t23, c1]
     refine zaj [(1, 0), (1, 4)] zah (by kernel_rfl) ?_
     intro es hes
     simp [zaf, -zag, t4, t5, hgq, hwc.1, hwc.2]
     refine ⟨_, _, hex, Nat.le_refl _, ?_⟩
     refine ad_go (fun T' => T' 2 = .ptr H.next 0 /\ T' 4 = .ptr k 0 /\ T' 5 = .ptr H1.next 0 /\ T' 22 = .int .u64 n /\ T' 23 = .int .u64 l.length /\ T' 26 = w /\ T' 28 = .int .i64 x) (by simp [t2, t4, t5, t22, t23]) ?_
     rintro T1 ⟨t2, t4, t5, t22, t23, t26, t28⟩
     rcases hw' with ⟨rfl, rfl⟩ | ⟨p, cap, op, junk, hl0, rfl, hp, hgp, hcap⟩
     · simp [zaf, -zag, t2, t4, t5, t22, t23, t26, t28, n1, n2, n3, n4, n5, n6, hqk, hgq, hkq, ha, haq, hga', -Bool.exists_bool]
       refine ⟨by subst hes; exact ⟨by kernel_rfl, by kernel_rfl⟩, ?_, ?_⟩
       · simp [rds, heapF, hgq, hqk]
       simp at hX1 hlm
       refine ⟨m, by omega, [x], ?_⟩
       refine ⟨by simp; omega, v', b2', d2', ⟨hX1, hX2⟩, by omega, hbt, ?_⟩
       refine ⟨⟨rfl, rfl⟩, .inr ⟨H'.next + 1, 1, true, [], by simp, rfl, by omega, by simp [n2.symm, ints], rfl⟩, fun j y hj => ?_, by omega, fun _ => ⟨by omega, by omega, by omega⟩, by simpa using wi⟩
       obtain ⟨q1, q2, q3, q4, q5, q6⟩ := hold j y hj
       simp [q1, q2, q4, q5, q6]
     · obtain ⟨p1, p2, p3⟩ := hpp p cap op rfl
       have hpn := zaa hw5 hgp
       have p4 : p ≠ H'.next := by omega
       have hij : (ints l).length = l.length := za6 l
       have c2 : (l.length + 1) * 8 <= 140737488355328 := by omega
       have c3 : l.length <= 4611686018427387903 := by omega
       have dk : List.drop (l.length + 1) (ints l ++ junk) = junk.drop 1 := by rw [<- List.drop_drop, List.drop_left' hij]
       have hil : ints (l ++ [x]) = ints l ++ [AV.int .i64 x] := by simp [ints]
       have hXl : (l ++ [x]) ++ (rdIs m ⟨b2', d2'⟩).1 = X.1 := by rw [<- hX1]; simp
       by_cases hc : l.length + 1 <= cap
       · have c4 : 1 <= junk.length := by omega
         simp [zaf, -zag, t2, t4, t5, t22, t23, t26, t28, n1, n2, n3, n4, n5, n6, hqk, hgq, hkq, ha, haq, hga', p1, p1.symm, p2, p2.symm, p3, p3.symm, p4, hgp, hij, hc, c2, c3, c4, dk, -Bool.exists_bool]
         refine ⟨by subst hes; exact ⟨by kernel_rfl, by kernel_rfl⟩, ?_, ?_⟩
         · simp [rds, heapF, hgq, hqk]
         refine ⟨m, by omega, l ++ [x], ?_⟩
         refine ⟨by simp; omega, v', b2', d2', ⟨hXl, hX2⟩, by omega, hbt, ?_⟩
         refine ⟨⟨rfl, rfl⟩, .inr ⟨p, cap, op, junk.tail, by simp, by simp, hp, by simp [p2, p2.symm, hil], by simp; omega⟩, fun j y hj => ?_, by omega, fun p' c' => ⟨fun h _ _ _ => by subst h; exact ⟨p1, p2, p3⟩, fun h _ _ _ => by subst h; exact ⟨p1, p2, p3⟩⟩, by rw [wi]; simp⟩
         obtain ⟨q1, q2, q3, q4, q5, q6⟩ := hold j y hj
         have q7 : j ≠ p := by have := zaa hw hj; omega
         simp [q1, q2, q4, q5, q6, q7]
       · have c4 := c3
         cases op
         · simp [zaf, -zag, t2, t4, t5, t22, t23, t26, t28, n1, n2, n3, n4, n5, n6, hqk, hgq, hkq, ha, haq, hga', p1, p1.symm, p2, p2.symm, p3, p3.symm, p4, hgp, hij, hc, c2, c3, c4, dk, -Bool.exists_bool]
           refine ⟨by subst hes; exact ⟨by kernel_rfl, by kernel_rfl⟩, ?_, ?_⟩
           · simp [rds, heapF, hgq, hqk]
           refine ⟨m, by omega, l ++ [x], ?_⟩
           refine ⟨by simp; omega, v', b2', d2', ⟨hXl, hX2⟩, by omega, hbt, ?_⟩
           refine ⟨⟨rfl, rfl⟩, .inr ⟨H'.next + 1, l.length + 1, true, [], by simp, by simp, by omega, by simp [n2.symm, hil], by simp⟩, fun j y hj => ?_, by omega, fun _ => ⟨by omega, by omega, by omega⟩, by rw [wi]; simp⟩
           obtain ⟨q1, q2, q3, q4, q5, q6⟩ := hold j y hj
           have q7 : j ≠ p := by have := zaa hw hj; omega
           simp [q1, q2, q4, q5, q6, q7]
         · simp [zaf, -zag, t2, t4, t5, t22, t23, t26, t28, n1, n2, n3, n4, n5, n6, hqk, hgq, hkq, ha, haq, hga', p1, p1.symm, p2, p2.symm, p3, p3.symm, p4, hgp, hij, hc, c2, c3, c4, dk, -Bool.exists_bool]
           refine ⟨by subst hes; exact ⟨by kernel_rfl, by kernel_rfl⟩, ?_, ?_⟩
           · simp [rds, heapF, hgq, hqk]
           refine ⟨m, by omega, l ++ [x], ?_⟩
           refine ⟨by simp; omega, v', b2', d2', ⟨hXl, hX2⟩, by omega, hbt, ?_⟩
           refine ⟨⟨rfl, rfl⟩, .inr ⟨H'.next + 1, l.length + 1, true, [], by simp, by simp, by omega, by simp [n2.symm, hil], by simp⟩, fun j y hj => ?_, by omega, fun _ => ⟨by omega, by omega, by omega⟩, by rw [wi]; simp⟩
           obtain ⟨q1, q2, q3, q4, q5, q6⟩ := hold j y hj
           have q7 : j ≠ p := by have := zaa hw hj; omega
           simp [q1, q2, q4, q5, q6, q7]
def enR : Option En -> AV
 | none => .tuple [.agg [.int .u64 0, .int .u64 0, .nilsl], .int .i64 3]
 | some e => .tuple [enV e (rowV e.row), .int .i64 0]
theorem enR_lt (n : Nat) (o : Option En) : AV.idLt n (enR o) = true := by
 cases o with
 | none => rfl
 | some e => simp [enR, enV, AV.idLt, AV.allLt, rowV_lt]
theorem getEn_does {bv : AV} {b : Bs} (hb : BtA bv b) (hl : b.length <= 1000000000) (H : AHeap) : Does Tryz.prog G 113 [bv] H fun r h => r = enR (getEn b) /\ h = H := by
 refine Does.forgot (R := fun r h => r = enR (getEn b) /\ ∀ j x, H.get j = some x -> h.get j = some x) ?_ (fun hw ha r H1 ⟨h1, h2⟩ => ⟨h2, by rw [h1]; exact enR_lt _ _, h1, rfl⟩)
 have h := getEn_run (G := G) hb hl H
 cases hg : getEn b with
 | none =>
   rw [hg] at h
   exact h.mono fun r H1 ⟨h1, h2⟩ => ⟨h2, h1⟩
 | some e =>
   rw [hg] at h
   by_cases h0 : e.l = []
   · refine h.mono fun r H1 ⟨h1, w, h2, h3, h4⟩ => ⟨?_, h1⟩
     rw [if_pos h0] at h4
     rcases h3 with ⟨_, rfl⟩ | ⟨p, cap, op, junk, h3, _⟩
     · simp [h2, enR, h4, rowV]
     · exact absurd h0 h3
   · refine Does.frz1 h ?_
     rintro hw _ r H1 ⟨h1, w, rfl, h3, h4⟩
     rw [if_neg h0] at h4
     rcases h3 with ⟨h3, _⟩ | ⟨p, cap, op, junk, h3, rfl, h5, h6, h7⟩
     · exact absurd h3 h0
     · refine ⟨p, ints e.l ++ junk, h5, h6, ?_, AHeap.frz_old hw h5 h1⟩
       have tk : List.take e.l.length (ints e.l ++ junk) = ints e.l := List.take_left' (za6 _)
       simp [enR, enV, h4, rowV, AV.frz, AV.frzs, tk]
end Go.Proofs.YtekbjlihciedjaaGreatDoor
namespace Go.Rp
open Go Go.Abs
theorem vrels_of {E E' : Env} {g : AV -> AV} (h : ∀ {a : AV} {v : Value}, VRel E a v -> VRel E' (g a) v) : ∀ {as_ : List AV} {vs : List Value}, VRels E as_ vs -> VRels E' (as_.map g) vs
 | _, _, .nil => .nil
 | _, _, .cons hv t => .cons (h hv) (vrels_of h t)
theorem Does.lend {P : Program} {G : Nat -> Option AV} {f : FuncId} {args : List AV} {H : AHeap} {i : Nat} {cs : List AV} {R : AV -> AHeap -> Prop} (hi : H.get i = some (.cells cs))
  (h : Does P G f (args.map (AV.frz i cs)) (H.frz i cs) R) : Does P G f args H R :=
 ⟨fun E w vs hR hG hv => by
  obtain ⟨E', hx, hR', hk⟩ := hR.frz hi
  exact (h.run E' w vs hR' (hG.mono hx.knows) (vrels_of hk hv)).mono fun v w' ⟨r, H1, E1, g1, g2, g3, g4⟩ => ⟨r, H1, E1, g1, hx.trans g2, g3, g4⟩⟩
end Go.Rp
namespace Go.Proofs.YtekbjlihciedjaaGreatDoor
open Go Go.Abs Go.Rp
variable {G : Nat -> Option AV}
def entsC (l : List En) : List AV := l.flatMap fun e => [.int .u64 e.id, .int .u64 e.view, rowV e.row]
theorem zaV (l : List En) : (entsC l).length = l.length * 3 := by
 induction l with
 | nil => rfl
 | cons e l ih => simp [entsC] at ih ⊢; omega
theorem frzs_len (i : Nat) (c : List AV) : ∀ l : List AV, (AV.frzs i c l).length = l.length
 | [] => rfl
 | a :: l => by simp [AV.frzs, frzs_len i c l]
theorem frzs_ints (i : Nat) (c : List AV) : ∀ l : List Int, AV.frzs i c (ints l) = ints l
 | [] => rfl
 | a :: l => by
   have := frzs_ints i c l
   simp only [ints, List.map_cons, AV.frzs, AV.frz] at this ⊢
   rw [this]
theorem frz_rowV (i : Nat) (c : List AV) (row : Option (List Int)) : AV.frz i c (rowV row) = rowV row := by
 cases row with
 | none => rfl
 | some l => simp only [rowV, AV.frz, frzs_ints]
theorem frzs_entsC (i : Nat) (c : List AV) : ∀ l : List En, AV.frzs i c (entsC l) = entsC l
 | [] => rfl
 | e :: l => by
   have := frzs_entsC i c l
   simp only [entsC, List.flatMap_cons, List.cons_append, List.nil_append, AV.frzs, AV.frz, frz_rowV] at this ⊢
   rw [this]
end Go.Proofs.YtekbjlihciedjaaGreatDoor
namespace Go.Rp
open Go Go.Abs
def Gr (H : AHeap) (z n : Nat) (cs : List AV) (v : AV) (b : Nat -> Prop) : Prop :=
 (n = 0 /\ cs = [] /\ v = .nilsl) \/ ∃ p o cap op pre junk, v = .sl p o z n cap op /\ b p /\ H.get p = some (.cells (pre ++ (cs ++ junk))) /\ pre.length = o /\ cs.length = n * z /\ n * z + junk.length = cap * z /\ n <= cap
theorem Gr.keep {H H' : AHeap} {z n : Nat} {cs : List AV} {v : AV} {b : Nat -> Prop} (h : Gr H z n cs v b) (hk : ∀ j x, b j -> H.get j = some x -> H'.get j = some x) : Gr H' z n cs v b := by
 rcases h with h | ⟨p, o, cap, op, pre, junk, h1, h2, h3, h4⟩
 · exact .inl h
 · exact .inr ⟨p, o, cap, op, pre, junk, h1, h2, hk p _ h2 h3, h4⟩
theorem Gr.mono {H : AHeap} {z n : Nat} {cs : List AV} {v : AV} {b b' : Nat -> Prop} (h : Gr H z n cs v b) (hb : ∀ j, b j -> b' j) : Gr H z n cs v b' := by
 rcases h with h | ⟨p, o, cap, op, pre, junk, h1, h2, h3⟩
 · exact .inl h
 · exact .inr ⟨p, o, cap, op, pre, junk, h1, hb p h2, h3⟩
theorem Gr.sc {H : AHeap} {z n : Nat} {cs : List AV} {v : AV} {b : Nat -> Prop} (h : Gr H z n cs v b) : v.scalar = true := by
 rcases h with ⟨_, _, rfl⟩ | ⟨p, o, cap, op, pre, junk, rfl, _⟩ <;> rfl
theorem Gr.cells {H : AHeap} {z n : Nat} {cs : List AV} {v : AV} {b : Nat -> Prop} (h : Gr H z n cs v b) : v.cells = [v] := by
 rcases h with ⟨_, _, rfl⟩ | ⟨p, o, cap, op, pre, junk, rfl, _⟩ <;> rfl
theorem Gr.alen {H : AHeap} {z n : Nat} {cs : List AV} {v : AV} {b : Nat -> Prop} (h : Gr H z n cs v b) {P : Program} {t e : TypeId} (ht : P.underlying t = some (.slice e)) : Go.Abs.alen P t v = some (.int .i64 n) := by
 rcases h with ⟨rfl, _, rfl⟩ | ⟨p, o, cap, op, pre, junk, rfl, _⟩
 · simp [Go.Abs.alen, ht]
 · simp [Go.Abs.alen, ht]
structure ElemOk (P : Program) (t u e : TypeId) (z by_ : Nat) : Prop where
 slice : P.underlying t = some (.slice e)
 seq : ∃ d, P.underlying u = some d /\ isSeq d = true
 info : ∃ info zz, P.info? e = some info /\ azero P e = some zz /\ zz.cells.length = z /\ info.size = z /\ info.bytes = by_
theorem Gr.app {P : Program} {t u e : TypeId} {z by_ : Nat} (he : ElemOk P t u e z by_) {H : AHeap} {n m : Nat} {cs news : List AV} {v x : AV} {b : Nat -> Prop} (h : Gr H z n cs v b)
  (hx : ∀ k i, x ≠ .int k i) (hl : zaq x = some m) (hf : zal H.get z m x = some news) (hsc : news.all AV.scalar = true) (hn : news.length = m * z) (h0 : 0 < m) (hz : 0 < z) (hb1 : (n + m) * by_ <= 140737488355328) (hb2 : n + m <= 4611686018427387904) {nx : Nat} (hnx : nx = H.next) :
  ∃ v' eff, zan P t u H.get nx v x = some (v', eff) /\ Gr (H.eff eff) z (n + m) (cs ++ news) v' (fun j => b j \/ j = H.next) /\ (∀ j, ¬ b j -> j ≠ H.next -> (H.eff eff).get j = H.get j) /\ H.next <= (H.eff eff).next := by
 subst hnx
 obtain ⟨d, hu, hd⟩ := he.seq
 obtain ⟨info, zz, i1, i2, i3, i4, i5⟩ := he.info
 have hunf : ∀ s, zan P t u H.get H.next s x = (match s with
       | .nilsl => if m = 0 then some (.nilsl, .same)
         else if m * info.bytes <= 140737488355328 /\ m <= 4611686018427387904 then some (.sl H.next 0 info.size m m true, .new (.cells news)) else none
       | .vsl cs len => if m = 0 then some (.vsl cs len, .same) else none
       | .csl cs len => if m = 0 then some (.csl cs len, .same)
         else if len * info.size <= cs.length /\ (len + m) * info.bytes <= 140737488355328 /\ len + m <= 4611686018427387904 then some (.sl H.next 0 info.size (len + m) (len + m) true, .new (.cells (cs.take (len * info.size) ++ news)))
         else none
       | .sl i o zz len cap opn => if zz = info.size then
         match H.get i with
         | some (.cells cs) =>
           if len + m <= cap then
            if o + (len + m) * zz <= cs.length then some (.sl i o zz (len + m) cap opn, .put i (.cells (splice cs (o + len * zz) news))) else none
           else if o + len * zz <= cs.length /\ (len + m) * info.bytes <= 140737488355328 /\ len + m <= 4611686018427387904 then
            if opn then some (.sl H.next 0 zz (len + m) (len + m) true, .move i (.cells ((cs.drop o).take (len * zz) ++ news)))
            else some (.sl H.next 0 zz (len + m) (len + m) true, .new (.cells ((cs.drop o).take (len * zz) ++ news)))
           else none
         | _ => none
         else none
       | _ => none) := by
  intro s
  unfold zan
  split
  · exact absurd rfl (hx _ _)
  · have hf' : zal H.get info.size m x = some news := by rw [i4]; exact hf
    simp only [he.slice, hu, hd, i1, i2, if_true, hl, hf']
    rw [if_pos (i3.trans i4.symm), if_pos ⟨hsc, by rw [i4]; exact hn⟩]
    rfl
 rw [hunf]
 rcases h with ⟨rfl, rfl, rfl⟩ | ⟨p, o, cap, op, pre, junk, rfl, h2, h3, h4, h5, h6, h7⟩
 · simp only
   rw [if_neg (by omega), if_pos (by rw [i5]; simp only [Nat.zero_add] at hb1 hb2; exact ⟨hb1, hb2⟩)]
   refine ⟨_, _, rfl, .inr ⟨H.next, 0, m, true, [], [], by rw [i4, Nat.zero_add], .inr rfl, by simp, rfl, by simpa using hn, by simp, by omega⟩, fun j _ hj => by simp [hj], by simp⟩
 · have hpl : o + (n + m) * z <= (pre ++ (cs ++ junk)).length \/ cap < n + m := by
    rcases Nat.lt_or_ge cap (n + m) with q | q
    · exact .inr q
    · left
      have := Nat.mul_le_mul_right z q
      simp only [List.length_append]; omega
   have htk : ((pre ++ (cs ++ junk)).drop o).take (n * z) = cs := by rw [List.drop_left' h4, List.take_left' h5]
   have hle : o + n * z <= (pre ++ (cs ++ junk)).length := by simp only [List.length_append]; omega
   simp only [h3]
   rw [if_pos i4.symm]
   by_cases hc : n + m <= cap
   · rw [if_pos hc, if_pos (by rcases hpl with q | q <;> omega)]
     refine ⟨_, _, rfl, .inr ⟨p, o, cap, op, pre, junk.drop (m * z), rfl, .inl h2, ?_, h4, ?_, ?_, hc⟩, fun j hj _ => ?_, by simp⟩
     · have e : splice (pre ++ (cs ++ junk)) (o + n * z) news = pre ++ ((cs ++ news) ++ junk.drop (m * z)) := by
        unfold splice
        have e1 : (pre ++ (cs ++ junk)).take (o + n * z) = pre ++ cs := by
         rw [<- List.append_assoc, List.take_left' (by simp [h4, h5])]
        have e2 : (pre ++ (cs ++ junk)).drop (o + n * z + news.length) = junk.drop (m * z) := by
         rw [<- List.append_assoc, <- List.drop_drop, List.drop_left' (by simp [h4, h5]), hn]
        rw [e1, e2, List.append_assoc, List.append_assoc]
       rw [e]
       simp
     · rw [List.length_append, h5, hn, Nat.add_mul]
     · rw [List.length_drop, Nat.add_mul]
       have := Nat.mul_le_mul_right z hc
       rw [Nat.add_mul] at this
       omega
     · have : j ≠ p := fun e => hj (e ▸ h2)
       simp [this]
   · rw [if_neg hc, if_pos ⟨hle, by rw [i5]; exact hb1, hb2⟩, htk]
     have gr : ∀ H' : AHeap, H'.get H.next = some (.cells (cs ++ news)) -> Gr H' z (n + m) (cs ++ news) (.sl H.next 0 z (n + m) (n + m) true) (fun j => b j \/ j = H.next) := fun H' hg =>
      .inr ⟨H.next, 0, n + m, true, [], [], rfl, .inr rfl, by simpa using hg, rfl, by rw [List.length_append, h5, hn, Nat.add_mul], by simp, Nat.le_refl _⟩
     cases op
     · exact ⟨_, _, rfl, gr _ (by simp), fun j _ hj => by simp [hj], by simp⟩
     · refine ⟨_, _, rfl, gr _ (by simp), fun j hb hj => ?_, by simp⟩
       have : j ≠ p := fun e => hb (e ▸ h2)
       simp [hj, this]
theorem Does.weak {P : Program} {G : Nat -> Option AV} {f : FuncId} {args args' : List AV} {H : AHeap} {R : AV -> AHeap -> Prop} (h : Does P G f args' H R) (hw : ∀ E vs, VRels E args vs -> VRels E args' vs) : Does P G f args H R :=
 ⟨fun E w vs hR hG hv => h.run E w vs hR hG (hw E vs hv)⟩
theorem csl_vsl {E : Env} {cs : List AV} {len : Nat} {u : Value} (h : VRel E (.csl cs len) u) : VRel E (.vsl cs len) u := by
 cases h with | csl h1 h2 => exact .vsl h1 h2 (Nat.le_refl _)
end Go.Rp
namespace Go.Proofs.YtekbjlihciedjaaGreatDoor
open Go Go.Abs Go.Rp
variable {G : Nat -> Option AV}
def EnF (v : AV) (l : List En) : Prop := (v = .nilsl /\ l = []) \/ ∃ ts, v = .vsl (entsC l ++ ts) l.length
def entsV (l : List En) : AV := if l.isEmpty then .nilsl else .vsl (entsC l) l.length
theorem EnF.entsV (l : List En) : EnF (entsV l) l := by
 cases l with
 | nil => exact .inl ⟨rfl, rfl⟩
 | cons e l => exact .inr ⟨[], by simp [Go.Proofs.YtekbjlihciedjaaGreatDoor.entsV]⟩
theorem entsC_lt (n : Nat) : ∀ l : List En, AV.allLt n (entsC l) = true
 | [] => rfl
 | e :: l => by
   have := entsC_lt n l
   simp only [entsC, List.flatMap_cons, List.cons_append, List.nil_append, AV.allLt, AV.idLt, rowV_lt, Bool.true_and] at this ⊢
   exact this
theorem entsV_lt (n : Nat) (l : List En) : AV.idLt n (entsV l) = true := by
 unfold entsV
 split
 · rfl
 · simp only [AV.idLt]; exact entsC_lt n l
theorem EnF.alen {v : AV} {l : List En} (h : EnF v l) {P : Program} {t e : TypeId} (ht : P.underlying t = some (.slice e)) : Go.Abs.alen P t v = some (.int .i64 l.length) := by
 rcases h with ⟨rfl, rfl⟩ | ⟨ts, rfl⟩ <;> simp [Go.Abs.alen, ht]
theorem EnF.sc {v : AV} {l : List En} (h : EnF v l) : v.scalar = true := by rcases h with ⟨rfl, rfl⟩ | ⟨ts, rfl⟩ <;> rfl
theorem EnF.cells {v : AV} {l : List En} (h : EnF v l) : v.cells = [v] := by rcases h with ⟨rfl, rfl⟩ | ⟨ts, rfl⟩ <;> rfl
theorem EnF.vsl {v : AV} {l : List En} (h : EnF v l) (h0 : 0 < l.length) : ∃ ts, v = .vsl (entsC l ++ ts) l.length := by
 rcases h with ⟨rfl, rfl⟩ | h
 · simp at h0
 · exact h
theorem zaM (a b : List En) : entsC (a ++ b) = entsC a ++ entsC b := by simp [entsC]
theorem entsC_at {l : List En} {i : Nat} {e : En} (h : l[i]? = some e) (ts : List AV) : ((entsC l ++ ts).drop (i * 3)).take 3 = [.int .u64 e.id, .int .u64 e.view, rowV e.row] := by
 have hi : i < l.length := (List.getElem?_eq_some_iff.1 h).1
 have e1 : l = l.take i ++ (e :: l.drop (i + 1)) := by
  have h2 : l[i] = e := (List.getElem?_eq_some_iff.1 h).2
  rw [<- h2, <- List.drop_eq_getElem_cons hi, List.take_append_drop]
 have hl : (entsC (l.take i)).length = i * 3 := by rw [zaV, List.length_take]; omega
 rw [e1, zaM, List.append_assoc, List.drop_left' hl]
 simp [entsC]
theorem entsC_take (l : List En) (n : Nat) (ts : List AV) (h : n <= l.length) : ∃ ts', entsC l ++ ts = entsC (l.take n) ++ ts' := ⟨entsC (l.drop n) ++ ts, by rw [<- List.append_assoc, <- zaM, List.take_append_drop]⟩
def msC (m : Ms) (ev : AV) : List AV := [.int .i64 m.kind, .int .i64 m.frm, .int .i64 m.to, .int .u64 m.view, .int .u64 m.last, .int .u64 m.op, .int .u64 m.commit, ev, .nilsl]
inductive MsR : List AV -> List Ms -> Prop
 | nil : MsR [] []
 | snoc {cs : List AV} {l : List Ms} {m : Ms} {ev : AV} (h : MsR cs l) (he : EnF ev m.ents) : MsR (cs ++ msC m ev) (l ++ [m])
def heldC (l : List (Nat × Nat)) : List (AV × AV) := l.map fun x => (.int .i64 x.1, .int .u64 x.2)
inductive VotR : List (AV × AV) -> List (Nat × Nat × List En) -> Prop
 | nil : VotR [] []
 | cons {es : List (AV × AV)} {l : List (Nat × Nat × List En)} {k u : Nat} {x : List En} {v : AV} (hv : EnF v x) (h : VotR es l) : VotR ((.int .i64 k, .agg [.int .u64 u, v]) :: es) ((k, u, x) :: l)
def coC (c : Co) (lv : AV) (g h : Nat) (wv : AV) : List AV :=
 [.int .i64 c.me, .int .i64 c.n, .int .u64 c.view, .int .u64 c.last, lv, .int .i64 c.agreed, .bool c.lead, .int .i64 c.quiet, .map g, .map h, wv]
def CoAt (H : AHeap) (O : Nat -> Prop) (i : Nat) (c : Co) : Prop := ∃ lv g h es wv, H.get i = some (.cells (coC c lv g h wv)) /\ H.get g = some (.map es) /\ H.get h = some (.map (heldC c.held)) /\
 EnF lv c.list /\ VotR es c.got /\ Gr H 3 c.wait.length (entsC c.wait) wv (fun j => O j /\ j ≠ i) /\ O i /\ O g /\ O h /\ g ≠ h
structure CoOk (c : Co) : Prop where
 n0 : 0 < c.n
 n7 : c.n <= 7
 me : c.me < c.n
 view : c.view <= 1099511627776
 last : c.last < 2 ^ 64
 list : c.list.length <= 200
 agreed : c.agreed <= c.list.length
 wait : c.wait.length <= 200
 quiet : c.quiet < 2 ^ 62
theorem EnF.cs {v : AV} {l : List En} (h : EnF v l) (h0 : 0 < l.length) : ∃ C, v = .vsl C l.length /\ l.length * 3 <= C.length /\ ∀ i e, l[i]? = some e -> (C.drop (i * 3)).take 3 = [.int .u64 e.id, .int .u64 e.view, rowV e.row] := by
 obtain ⟨ts, rfl⟩ := h.vsl h0
 exact ⟨_, rfl, by rw [List.length_append, zaV]; omega, fun i e he => entsC_at he ts⟩
def FoundAt (b : Bool) (H : AHeap) (r : AV) (h : AHeap) : Prop := (∃ x : Int, r = .int .i64 x /\ decide (0 <= x) = b) /\ h = H
theorem index_en {l : List En} {v : AV} (hv : EnF v l) (hl : l.length <= 1000000) {p : En -> Bool} {fc : FuncId} {caps : List AV} {H : AHeap}
  (hc : ∀ e ∈ l, Does Tryz.prog G fc (.agg [.int .u64 e.id, .int .u64 e.view, rowV e.row] :: caps) H fun r h => r = .bool (p e) /\ h = H) :
  Does Tryz.prog G 209 [v, .func (.func fc) [] caps] H (FoundAt (l.any p) H) := by
 refine zad Tryz.call209 Tryz.func209 rfl (by simp [Tryz.f209]) ?_
 have hal : alen Tryz.prog 48 v = some (.int .i64 l.length) := by rcases hv with ⟨rfl, rfl⟩ | ⟨ts, rfl⟩ <;> simp [alen]
 simp [hal, -alen]
 refine zam (fun k T' H' => ∃ i : Nat, i + k = l.length /\ H' = H /\ T' 0 = v /\ T' 1 = .func (.func fc) [] caps /\ T' 7 = .int .i64 l.length /\ T' 8 = .int .i64 i /\ l.any p = (l.drop i).any p) l.length ?_ ?_
 · exact ⟨0, by simp, rfl, by simp, by simp, by simp, by simp, by simp⟩
 rintro k T H1 ⟨i, hik, rfl, t0, t1, t7, t8, hs⟩ hw1 _
 by_cases hi : i < l.length
 · have hii : (i : Int) < l.length := by omega
   obtain ⟨C, hvC, hCl, hat⟩ := hv.cs (by omega)
   have he : l[i]? = some l[i] := List.getElem?_eq_getElem hi
   have hd := hc l[i] (List.getElem_mem hi)
   have hat := hat i _ he
   have hdr : l.drop i = l[i] :: l.drop (i + 1) := List.drop_eq_getElem_cons hi
   rw [hdr, List.any_cons] at hs
   generalize l[i] = e at *
   have h3 : 3 <= C.length - i * 3 := by omega
   have wr : IntKind.i64.wrap ((i : Int) + 1) = ((i + 1 : Nat) : Int) := by rw [IntWalk.i64_in _ (by omega)]; omega
   rw [hvC] at t0
   simp [t0, t1, t7, t8, hi, hii, h3, hat]
   refine zab hd ?_
   rintro r h ⟨rfl, rfl⟩
   cases hp : p e with
   | true =>
     rw [hp, Bool.true_or] at hs
     simp [t0, t1, t7, t8]
     exact ⟨⟨_, rfl, by rw [hs]; simp⟩, rfl⟩
   | false =>
     rw [hp, Bool.false_or] at hs
     simp [t0, t1, t7, t8]
     exact ⟨k - 1, by omega, i + 1, by omega, hvC.symm, wr, hs⟩
 · obtain rfl : i = l.length := by omega
   simp [t7, t8]
   refine ⟨⟨_, rfl, ?_⟩, rfl⟩
   rw [hs, List.drop_length]; rfl
theorem contains_en {l : List En} {v : AV} (hv : EnF v l) (hl : l.length <= 1000000) {p : En -> Bool} {fc : FuncId} {caps : List AV} {H : AHeap}
  (hc : ∀ e ∈ l, Does Tryz.prog G fc (.agg [.int .u64 e.id, .int .u64 e.view, rowV e.row] :: caps) H fun r h => r = .bool (p e) /\ h = H) :
  Does Tryz.prog G 138 [v, .func (.func fc) [] caps] H fun r h => r = .bool (l.any p) /\ h = H := by
 refine zad Tryz.call138 Tryz.func138 rfl (by simp [Tryz.f138]) ?_
 simp
 refine zab (index_en hv hl hc) ?_
 rintro r h ⟨⟨x, rfl, hx⟩, rfl⟩
 rw [<- hx]
 simp
theorem hasC_does {e : En} {id k : Nat} {H : AHeap} (hk : H.get k = some (.cells [.int .u64 id])) :
  Does Tryz.prog G 139 [.agg [.int .u64 e.id, .int .u64 e.view, rowV e.row], .ptr k 0] H fun r h => r = .bool (decide (e.id = id)) /\ h = H := by
 refine Does.forgot (R := fun r h => r = .bool (decide (e.id = id)) /\ ∀ j x, H.get j = some x -> h.get j = some x) ?_ (fun hw ha r H1 ⟨h1, h2⟩ => ⟨h2, by rw [h1]; rfl, h1, rfl⟩)
 refine Does.wf Tryz.call139 fun hw _ => ?_
 have hkn := zaa hw hk
 have hr := RowA.rowV e.row
 have hne : k ≠ H.next := by omega
 refine zad Tryz.call139 Tryz.func139 rfl (by simp [Tryz.f139]) ?_
 simp [hr.cells, hr.sc, hk, hne]
 refine ⟨by omega, fun j x hj => ?_⟩
 have := zaa hw hj
 have e0 : j ≠ H.next := by omega
 simp [e0, hj]
theorem has_does {l : List En} {v : AV} (hv : EnF v l) (hl : l.length <= 1000000) (id : Nat) (H : AHeap) :
  Does Tryz.prog G 87 [v, .int .u64 id] H fun r h => r = .bool (hasId l id) /\ h = H := by
 refine Does.forgot (R := fun r h => r = .bool (hasId l id) /\ ∀ j x, H.get j = some x -> h.get j = some x) ?_ (fun hw ha r H1 ⟨h1, h2⟩ => ⟨h2, by rw [h1]; rfl, h1, rfl⟩)
 refine Does.wf Tryz.call87 fun hw _ => ?_
 refine zad Tryz.call87 Tryz.func87 rfl (by simp [Tryz.f87]) ?_
 simp
 refine zab (contains_en hv hl (p := fun e => decide (e.id = id)) fun e _ => hasC_does (k := H.next) (by simp)) ?_
 rintro r h ⟨rfl, rfl⟩
 simp [hasId]
 intro j x hj
 have := zaa hw hj
 have e0 : j ≠ H.next := by omega
 simp [e0, hj]
theorem may_does' {e : En} {v : AV} (hv : RowA v e.row) (H : AHeap) : Does Tryz.prog G 86 [enV e v] H fun r h => r = .bool (may e) /\ h = H := by
 refine Does.forgot (R := fun r h => r = .bool (may e) /\ ∀ j x, H.get j = some x -> h.get j = some x) ?_ (fun hw ha r H1 ⟨h1, h2⟩ => ⟨h2, by rw [h1]; rfl, h1, rfl⟩)
 refine Does.wf Tryz.call86 fun hw _ => ?_
 have hlv : alen Tryz.prog 45 v = some (.int .i64 e.l.length) := by
  rcases hv with ⟨rfl, h⟩ | ⟨ts, l, rfl, h⟩
  · simp [alen, En.l, h]
  · simp [alen, En.l, h]
 refine zad Tryz.call86 Tryz.func86 rfl (by simp [Tryz.f86]) ?_
 have old : ∀ (X : AObj) j x, H.get j = some x -> (H.push X).get j = some x := fun X j x hj => by
  have := zaa hw hj
  have e0 : j ≠ H.next := by omega
  simp [e0, hj]
 by_cases h0 : 0 < e.id
 · have h0' : (0 : Int) < e.id := by omega
   simp [enV, hv.cells, hv.sc, hlv, h0, h0', may, -alen]
   exact ⟨by omega, old _⟩
 · have h0' : ¬ (0 : Int) < e.id := by omega
   simp [enV, hv.cells, hv.sc, hlv, h0, h0', may, -alen]
   exact old _
theorem clip_does {l : List En} {v : AV} (hv : EnF v l) (hl : l.length <= 1000000) (H : AHeap) : Does Tryz.prog G 134 [v] H fun r h => ((l = [] /\ r.cells = [r] /\ zaq r = some 0 /\ r.scalar = true /\ (r = .nilsl \/ r = .vsl [] 0)) \/ (0 < l.length /\ ∃ C, r = .csl C l.length /\ v = .vsl C l.length)) /\ h = H := by
 refine zad Tryz.call134 Tryz.func134 rfl (by simp [Tryz.f134]) ?_
 rcases hv with ⟨rfl, rfl⟩ | ⟨ts, rfl⟩
 · simp
 · by_cases h0 : 0 < l.length
   · have h0' : (0 : Int) <= l.length := by omega
     simp [h0, h0', -List.length_eq_zero_iff]
   · have : l = [] := by
      cases l with
      | nil => rfl
      | cons a l => simp at h0
     subst this
     simp
theorem equalRow_does {a b : Option (List Int)} {v w : AV} (hv : RowA v a) (hw' : RowA w b) (ha : (a.getD []).length <= 1000000) (H : AHeap) :
  Does Tryz.prog G 168 [v, w] H fun r h => r = .bool (decide (a.getD [] = b.getD [])) /\ h = H := by
 refine zad Tryz.call168 Tryz.func168 rfl (by simp [Tryz.f168]) ?_
 have hal : ∀ {c : Option (List Int)} {u : AV}, RowA u c -> alen Tryz.prog 45 u = some (.int .i64 (c.getD []).length) := by
  intro c u h
  rcases h with ⟨rfl, rfl⟩ | ⟨ts, l, rfl, rfl⟩ <;> simp [alen]
 have h1 := hal hv
 have h2 := hal hw'
 by_cases hne : (a.getD []).length = (b.getD []).length
 case neg =>
  have c1 : (((a.getD []).length : Int) != (b.getD []).length) = true := by simp; omega
  have c2 : ¬ a.getD [] = b.getD [] := fun e => hne (by rw [e])
  simp [h1, h2, c1, c2, -alen]
 have c1 : (((a.getD []).length : Int) != (b.getD []).length) = false := by simp; omega
 simp [h1, h2, c1, -alen]
 refine zam (fun k T' H' => ∃ i : Nat, i + k = (a.getD []).length /\ H' = H /\ T' 0 = v /\ T' 1 = w /\ T' 12 = .int .i64 (a.getD []).length /\ T' 13 = .int .i64 i /\ (a.getD [] = b.getD [] ↔ (a.getD []).drop i = (b.getD []).drop i)) (a.getD []).length ?_ ?_
 · exact ⟨0, by simp, rfl, by simp, by simp, by simp, by simp, by simp⟩
 rintro k T H1 ⟨i, hik, rfl, t0, t1, t12, t13, hs⟩ hw1 _
 by_cases hi : i < (a.getD []).length
 · have hii : (i : Int) < (a.getD []).length := by omega
   have hvs : ∀ {c : Option (List Int)} {u : AV}, RowA u c -> 0 < (c.getD []).length -> ∃ ts, u = .vsl (ints (c.getD []) ++ ts) (c.getD []).length := by
    intro c u h h0
    rcases h with ⟨rfl, rfl⟩ | ⟨ts, l, rfl, rfl⟩
    · simp at h0
    · exact ⟨ts, rfl⟩
   obtain ⟨ta, e1⟩ := hvs hv (by omega)
   obtain ⟨tb, e2⟩ := hvs hw' (by omega)
   generalize a.getD [] = la at *
   generalize b.getD [] = lb at *
   have g1 : la[i]? = some la[i] := List.getElem?_eq_getElem hi
   have hib : i < lb.length := by omega
   have g2 : lb[i]? = some lb[i] := List.getElem?_eq_getElem hib
   have d1 : la.drop i = la[i] :: la.drop (i + 1) := List.drop_eq_getElem_cons hi
   have d2 : lb.drop i = lb[i] :: lb.drop (i + 1) := List.drop_eq_getElem_cons hib
   rw [d1, d2, List.cons.injEq] at hs
   have at1 : (ints la ++ ta).drop i = .int .i64 la[i] :: (ints la ++ ta).drop (i + 1) := by
    rw [List.drop_eq_getElem_cons (by rw [List.length_append, za6]; omega)]
    rw [List.getElem_append_left (by rw [za6]; exact hi)]
    simp [ints]
   have at2 : (ints lb ++ tb).drop i = .int .i64 lb[i] :: (ints lb ++ tb).drop (i + 1) := by
    rw [List.drop_eq_getElem_cons (by rw [List.length_append, za6]; omega)]
    rw [List.getElem_append_left (by rw [za6]; exact hib)]
    simp [ints]
   generalize la[i] = x at *
   generalize lb[i] = y at *
   have wr : IntKind.i64.wrap ((i : Int) + 1) = ((i + 1 : Nat) : Int) := by rw [IntWalk.i64_in _ (by omega)]; omega
   rw [e1] at t0
   rw [e2] at t1
   simp [t0, t1, t12, t13, hi, hii, hib]
   refine aw_still zah (by kernel_rfl) ?_
   intro es hes
   simp [t0, t1, t12, t13, hi, hii, hib, at1, at2]
   subst hes
   refine ⟨by kernel_rfl, ?_⟩
   by_cases hxy : x = y
   · have c2 : (x != y) = false := by simp [hxy]
     simp [t0, t1, t12, t13, c2]
     exact ⟨k - 1, by omega, i + 1, by omega, e1.symm, e2.symm, wr, by rw [hs]; simp [hxy]⟩
   · have c2 : (x != y) = true := by simp [hxy]
     simp [t0, t1, t12, t13, c2]
     intro e
     exact hxy (hs.1 e).1
 · obtain rfl : i = (a.getD []).length := by omega
   have e : (b.getD []).drop (a.getD []).length = [] := by rw [hne, List.drop_length]
   rw [List.drop_length, e] at hs
   simp [t12, t13, hs]
theorem sameC_does {a b : En} {v w : AV} (hv : RowA v a.row) (hw' : RowA w b.row) (ha : a.l.length <= 1000000) (H : AHeap) :
  Does Tryz.prog G 167 [enV a v, enV b w] H fun r h => r = .bool (same a b) /\ h = H := by
 refine Does.forgot (R := fun r h => r = .bool (same a b) /\ ∀ j x, H.get j = some x -> h.get j = some x) ?_ (fun hw ha r H1 ⟨h1, h2⟩ => ⟨h2, by rw [h1]; rfl, h1, rfl⟩)
 refine Does.wf Tryz.call167 fun hw _ => ?_
 have old : ∀ (X Y : AObj) j x, H.get j = some x -> ((H.push X).push Y).get j = some x := fun X Y j x hj => by
  have := zaa hw hj
  have e0 : j ≠ H.next := by omega
  have e1 : j ≠ H.next + 1 := by omega
  simp [e0, e1, hj]
 refine zad Tryz.call167 Tryz.func167 rfl (by simp [Tryz.f167]) ?_
 by_cases h0 : a.id = b.id
 · simp [enV, hv.cells, hv.sc, hw'.cells, hw'.sc, h0]
   refine zab (equalRow_does hv hw' ha _) ?_
   rintro r h ⟨rfl, rfl⟩
   simp [same, h0, En.l]
   refine ⟨rfl, fun j x hj => ?_⟩
   have := zaa hw hj
   have e0 : j ≠ H.next := by omega
   have e1 : j ≠ H.next + 1 := by omega
   simp [e0, e1, hj]
 · have h0' : ¬ (a.id : Int) = b.id := by omega
   simp [enV, hv.cells, hv.sc, hw'.cells, hw'.sc, h0, h0', same]
   exact old _ _
theorem sames_drop {a b : List En} {i : Nat} {x y : En} (ha : a[i]? = some x) (hb : b[i]? = some y) : sames (a.drop i) (b.drop i) = (same x y && sames (a.drop (i + 1)) (b.drop (i + 1))) := by
 obtain ⟨hi, rfl⟩ := List.getElem?_eq_some_iff.1 ha
 obtain ⟨hi', rfl⟩ := List.getElem?_eq_some_iff.1 hb
 rw [List.drop_eq_getElem_cons hi, List.drop_eq_getElem_cons hi', sames]
theorem sames_len : ∀ {a b : List En}, a.length ≠ b.length -> sames a b = false
 | [], [], h => absurd rfl h
 | [], _ :: _, _ => rfl
 | _ :: _, [], _ => rfl
 | a :: l, b :: m, h => by rw [sames, sames_len (by simpa using h), Bool.and_false]
theorem equalEn_does {a b : List En} {v w : AV} (hv : EnF v a) (hw' : EnF w b) (hl : a.length <= 1000000) (hr : ∀ e ∈ a, e.l.length <= 1000000) (H : AHeap) :
  Does Tryz.prog G 169 [v, w, .func (.func 167) [] []] H fun r h => r = .bool (sames a b) /\ h = H := by
 refine Does.forgot (R := fun r h => r = .bool (sames a b) /\ ∀ j x, H.get j = some x -> h.get j = some x) ?_ (fun hw ha r H1 ⟨h1, h2⟩ => ⟨h2, by rw [h1]; rfl, h1, rfl⟩)
 refine Does.wf Tryz.call169 fun hw _ => ?_
 refine zad Tryz.call169 Tryz.func169 rfl (by simp [Tryz.f169]) ?_
 have hal : ∀ {l : List En} {u : AV}, EnF u l -> alen Tryz.prog 48 u = some (.int .i64 l.length) := by
  intro l u h
  rcases h with ⟨rfl, rfl⟩ | ⟨ts, rfl⟩ <;> simp [alen]
 have h1 := hal hv
 have h2 := hal hw'
 by_cases hne : a.length = b.length
 case neg =>
  have c1 : ((a.length : Int) != b.length) = true := by simp; omega
  simp [h1, h2, c1, sames_len hne, -alen]
 have c1 : ((a.length : Int) != b.length) = false := by simp; omega
 simp [h1, h2, c1, -alen]
 refine zam (fun k T' H' => ∃ i : Nat, i + k = a.length /\ (∀ j x, H.get j = some x -> H'.get j = some x) /\ T' 1 = w /\ T' 2 = .func (.func 167) [] [] /\ T' 15 = v /\ T' 16 = .int .i64 a.length /\ T' 17 = .int .i64 i /\ sames a b = sames (a.drop i) (b.drop i)) a.length ?_ ?_
 · exact ⟨0, by simp, fun j x hj => hj, by simp, by simp, by simp, by simp, by simp, by simp⟩
 rintro k T H1 ⟨i, hik, hk, t1, t2, t15, t16, t17, hs⟩ hw1 _
 by_cases hi : i < a.length
 · have hii : (i : Int) < a.length := by omega
   have hib : i < b.length := by omega
   obtain ⟨C, hvC, hCl, hat⟩ := hv.cs (by omega)
   obtain ⟨D, hvD, hDl, hbt⟩ := hw'.cs (by omega)
   have g1 : a[i]? = some a[i] := List.getElem?_eq_getElem hi
   have g2 : b[i]? = some b[i] := List.getElem?_eq_getElem hib
   have hat := hat i _ g1
   have hbt := hbt i _ g2
   have hre := hr _ (List.getElem_mem hi)
   rw [sames_drop g1 g2] at hs
   generalize a[i] = x at *
   generalize b[i] = y at *
   have h3 : 3 <= C.length - i * 3 := by omega
   have h3' : 3 <= D.length - i * 3 := by omega
   have wr : IntKind.i64.wrap ((i : Int) + 1) = ((i + 1 : Nat) : Int) := by rw [IntWalk.i64_in _ (by omega)]; omega
   rw [hvC] at t15
   rw [hvD] at t1
   have rx := RowA.rowV x.row
   have ry := RowA.rowV y.row
   simp [t1, t2, t15, t16, t17, hi, hii, hib, h3, h3', hat, hbt, rx.sc, ry.sc]
   refine zab (sameC_does (a := x) (b := y) rx ry hre _) ?_
   rintro r h ⟨rfl, rfl⟩
   cases hc : same x y with
   | false =>
     rw [hc, Bool.false_and] at hs
     simp [hc, t1, t2, t15, t16, t17]
     refine ⟨hs, fun j x hj => ?_⟩
     have := zaa hw1 (hk j x hj)
     have e0 : j ≠ H1.next := by omega
     have e1 : j ≠ H1.next + 1 := by omega
     simp [e0, e1, hk j x hj]
   | true =>
     rw [hc, Bool.true_and] at hs
     simp [hc, t1, t2, t15, t16, t17]
     refine ⟨k - 1, by omega, i + 1, by omega, fun j x hj => ?_, hvD.symm, hvC.symm, wr, hs⟩
     have := zaa hw1 (hk j x hj)
     have e0 : j ≠ H1.next := by omega
     have e1 : j ≠ H1.next + 1 := by omega
     simp [e0, e1, hk j x hj]
 · obtain rfl : i = a.length := by omega
   simp [t15, t16, t17]
   refine ⟨?_, hk⟩
   rw [hs, List.drop_length, hne, List.drop_length]
   rfl
theorem EnF.take {v : AV} {l : List En} (h : EnF v l) (n : Nat) (hn : n <= l.length) : ∃ w, EnF w (l.take n) /\ ((v = .nilsl /\ w = .nilsl) \/ (∃ C, v = .vsl C l.length /\ w = (if 0 < l.length then .vsl C n else .vsl [] 0))) := by
 rcases h with ⟨rfl, rfl⟩ | ⟨ts, rfl⟩
 · exact ⟨.nilsl, .inl ⟨rfl, by simp⟩, .inl ⟨rfl, rfl⟩⟩
 · by_cases h0 : 0 < l.length
   · obtain ⟨ts', e⟩ := entsC_take l n ts hn
     exact ⟨.vsl (entsC l ++ ts) n, .inr ⟨ts', by rw [e, List.length_take, Nat.min_eq_left hn]⟩, .inr ⟨_, rfl, by rw [if_pos h0]⟩⟩
   · have : l = [] := by
      cases l with
      | nil => rfl
      | cons a l => simp at h0
     subst this
     exact ⟨.vsl [] 0, .inr ⟨[], by simp [entsC]⟩, .inr ⟨_, rfl, by simp⟩⟩
theorem begins_does {a b : List En} {v w : AV} (hv : EnF v a) (hw' : EnF w b) (hl : a.length <= 1000000) (hr : ∀ e ∈ a, e.l.length <= 1000000) (H : AHeap) :
  Does Tryz.prog G 114 [v, w] H fun r h => r = .bool (begins a b) /\ h = H := by
 have hal : ∀ {l : List En} {u : AV}, EnF u l -> alen Tryz.prog 48 u = some (.int .i64 l.length) := by
  intro l u h
  rcases h with ⟨rfl, rfl⟩ | ⟨ts, rfl⟩ <;> simp [alen]
 have h1 := hal hv
 have h2 := hal hw'
 refine zad Tryz.call114 Tryz.func114 rfl (by simp [Tryz.f114]) ?_
 by_cases hne : b.length <= a.length
 case neg =>
  have c1 : ¬ (b.length : Int) <= a.length := by omega
  simp [h1, h2, c1, hne, begins, -alen]
 have c1 : (b.length : Int) <= a.length := by omega
 obtain ⟨u, hu, hx⟩ := hv.take b.length hne
 have hr' : ∀ e ∈ a.take b.length, e.l.length <= 1000000 := fun e he => hr e (List.mem_of_mem_take he)
 have hq := equalEn_does (G := G) hu hw' (by rw [List.length_take]; omega) hr'
 rcases hx with ⟨rfl, rfl⟩ | ⟨C, rfl, hw2⟩
 · have e0 : a = [] := by
    rcases hv with ⟨_, h⟩ | ⟨ts, h⟩
    · exact h
    · cases h
   subst e0
   have e1 : b = [] := by
    cases b with
    | nil => rfl
    | cons x b => simp at hne
   subst e1
   simp [h1, h2, -alen]
   refine zab (hq _) ?_
   rintro r h ⟨rfl, rfl⟩
   simp [begins]
 · by_cases h0 : 0 < a.length
   · rw [if_pos h0] at hw2
     subst hw2
     have h0' : (0 : Int) < a.length := by omega
     simp [h1, h2, c1, hne, h0, h0', -alen]
     refine zab (hq _) ?_
     rintro r h ⟨rfl, rfl⟩
     simp [begins, hne]
   · rw [if_neg h0] at hw2
     subst hw2
     obtain rfl : a = [] := List.length_eq_zero_iff.1 (by omega)
     obtain rfl : b = [] := List.length_eq_zero_iff.1 (by simp at hne; simp [hne])
     have h3 : alen Tryz.prog 48 (.vsl C 0) = some (.int .i64 0) := by simp [alen]
     simp [h2, h3, -alen]
     refine zab (hq _) ?_
     rintro r h ⟨rfl, rfl⟩
     simp [begins]
theorem elemEn : ElemOk Tryz.prog 48 48 62 3 40 := ⟨by simp, ⟨.slice 62, by simp, rfl⟩, by simp⟩
def CopG (H0 H : AHeap) (l : List En) (w : AV) : Prop := Gr H 3 l.length (entsC l) w (fun j => H0.next <= j) /\ (l = [] -> w = .nilsl)
theorem copies_run {l : List En} {v : AV} (hv : EnF v l) (hl : l.length <= 1000000) (hr : ∀ e ∈ l, e.l.length <= 1000000) (H : AHeap) :
  Does Tryz.prog G 72 [v] H fun r h => CopG H h l r /\ ∀ j x, H.get j = some x -> h.get j = some x := by
 refine Does.wf Tryz.call72 fun hw _ => ?_
 refine zad Tryz.call72 Tryz.func72 rfl (by simp [Tryz.f72]) ?_
 have hal : alen Tryz.prog 48 v = some (.int .i64 l.length) := by rcases hv with ⟨rfl, rfl⟩ | ⟨ts, rfl⟩ <;> simp [alen]
 simp [hal, -alen]
 refine zam (fun k T' H' => ∃ i w, i + k = l.length /\ (∀ j x, H.get j = some x -> H'.get j = some x) /\ H.next <= H'.next /\ CopG H H' (l.take i) w /\ T' 3 = w /\ T' 6 = v /\ T' 7 = .int .i64 l.length /\ T' 8 = .int .i64 i) l.length ?_ ?_
 · exact ⟨0, .nilsl, by simp, fun j x hj => hj, Nat.le_refl _, ⟨.inl ⟨by simp, by simp [entsC], rfl⟩, fun _ => rfl⟩, by simp, by simp, by simp, by simp⟩
 rintro k T H1 ⟨i, w, hik, hk, hnx, hg, t3, t6, t7, t8⟩ hw1 _
 by_cases hi : i < l.length
 · have hii : (i : Int) < l.length := by omega
   obtain ⟨C, hvC, hCl, hat⟩ := hv.cs (by omega)
   have g1 : l[i]? = some l[i] := List.getElem?_eq_getElem hi
   have hat := hat i _ g1
   have hre := hr _ (List.getElem_mem hi)
   have hsn : l.take (i + 1) = l.take i ++ [l[i]] := by rw [List.take_add_one, g1]; rfl
   have hln : (l.take i).length = i := by rw [List.length_take]; omega
   generalize l[i] = x at *
   have h3 : 3 <= C.length - i * 3 := by omega
   have wr : IntKind.i64.wrap ((i : Int) + 1) = ((i + 1 : Nat) : Int) := by rw [IntWalk.i64_in _ (by omega)]; omega
   rw [hvC] at t6
   have rx := RowA.rowV x.row
   simp [t3, t6, t7, t8, hi, hii, h3, hat, rx.sc, rx.cells]
   refine zab (copyEn_does (e := x) rx (by omega) _) ?_
   rintro r h ⟨rfl, rfl⟩
   have g2 : Gr ((H1.push (.cells [.int .u64 x.id, .int .u64 x.view, rowV x.row])).push (.cells [.int .u64 x.id, .int .u64 x.view, rowV x.row])) 3 i (entsC (l.take i)) w (fun j => H.next <= j /\ j < H1.next) := by
    rcases hg.1 with ⟨a1, a2, a3⟩ | ⟨p, o, cap, op, pre, junk, a1, a2, a3, a4, a5, a6, a7⟩
    · exact .inl ⟨by omega, a2, a3⟩
    · have pn := zaa hw1 a3
      have q1 : p ≠ H1.next := by omega
      have q2 : p ≠ H1.next + 1 := by omega
      exact .inr ⟨p, o, cap, op, pre, junk, by rw [a1, hln], ⟨a2, pn⟩, by simp [q1, q2, a3], a4, by rw [a5, hln], by rw [<- a6, hln], by rw [<- hln]; exact a7⟩
   obtain ⟨v', eff, f1, f2, f3, f4⟩ := g2.app (elemEn) (m := 1) (x := .sl (H1.next + 1) 0 3 1 1 false) (news := [.int .u64 x.id, .int .u64 x.view, rowV x.row]) (fun _ _ e => by cases e) rfl (by simp [zal]) (by simp [rx.sc]) rfl (by omega) (by omega) (by omega) (by omega) (nx := H1.next + 1 + 1) rfl
   simp [enV, t3, t6, t7, t8, rx.sc, rx.cells, -zan]
   rw [f1]
   generalize hH2 : ((H1.push (.cells [.int .u64 x.id, .int .u64 x.view, rowV x.row])).push (.cells [.int .u64 x.id, .int .u64 x.view, rowV x.row])) = H2 at *
   have nx2 : H2.next = H1.next + 1 + 1 := by rw [<- hH2]; rfl
   simp [t3, t6, t7, t8]
   refine ⟨k - 1, by omega, i + 1, by omega, fun j y hj => ?_, by omega, v', ⟨?_, ?_⟩, rfl, hvC.symm, wr⟩
   · have j1 := zaa hw hj
     rw [f3 j (by omega) (by omega), <- hH2]
     have e0 : j ≠ H1.next := by omega
     have e1 : j ≠ H1.next + 1 := by omega
     simp [e0, e1, hk j y hj]
   · rw [hsn, zaM, List.length_append, hln]
     exact (f2.mono fun j hj => by omega)
   · intro e
     rw [hsn] at e
     simp at e
 · obtain rfl : i = l.length := by omega
   rw [List.take_length] at hg
   simp [t3, t7, t8]
   exact ⟨hg, hk⟩
theorem copies_does {l : List En} {v : AV} (hv : EnF v l) (hl : l.length <= 1000000) (hr : ∀ e ∈ l, e.l.length <= 1000000) (H : AHeap) :
  Does Tryz.prog G 72 [v] H fun r h => r = entsV l /\ h = H := by
 by_cases h0 : l = []
 · subst h0
   refine Does.forgot (R := fun r h => r = .nilsl /\ ∀ j x, H.get j = some x -> h.get j = some x) ((copies_run hv hl hr H).mono ?_) (fun hw ha r H1 ⟨h1, h2⟩ => ⟨h2, by rw [h1]; rfl, h1, rfl⟩)
   rintro r h ⟨h1, h2⟩
   exact ⟨h1.2 rfl, h2⟩
 · refine Does.frozen (copies_run hv hl hr H) ?_
   rintro hw _ r H1 ⟨h1, h2⟩
   rcases h1.1 with ⟨h, _⟩ | ⟨p, o, cap, op, pre, junk, rfl, a2, a3, a4, a5, a6, a7⟩
   · exact absurd (List.length_eq_zero_iff.1 h) h0
   · have e : AV.frz p (pre ++ (entsC l ++ junk)) (.sl p o 3 l.length cap op) = entsV l := by
      have : l.isEmpty = false := by simpa using h0
      simp only [AV.frz, if_true, entsV, this, List.drop_left' a4, List.take_left' a5]
      rfl
     exact ⟨p, _, a2, a3, h2, by rw [e]; exact entsV_lt _ _, by rw [e], rfl⟩
def u64s (l : List Nat) : List AV := l.map fun (u : Nat) => AV.int .u64 (u : Int)
theorem u64s_at {l : List Nat} {i u : Nat} (h : l[i]? = some u) : (u64s l)[i]? = some (.int .u64 u) := by simp [u64s, h]
def encUs (l : List Nat) : Bs := l.flatMap encU
theorem encUs_snoc (l : List Nat) (u : Nat) : encUs (l ++ [u]) = encUs l ++ encU u := by simp [encUs]
theorem encUs_le {l : List Nat} (h : ∀ u ∈ l, u < 2 ^ 64) : (encUs l).length <= 10 * l.length := by
 induction l with
 | nil => simp [encUs]
 | cons u l ih =>
   have h1 := zao (h u (by simp))
   have h2 := ih fun x hx => h x (by simp [hx])
   simp [encUs] at h2 ⊢; omega
theorem encEns_snoc (l : List En) (e : En) : encEns (l ++ [e]) = encEns l ++ encS (encEn e) := by simp [encEns]
def EnSm (e : En) : Prop := e.ok /\ e.l.length <= 64
theorem encEn_le {e : En} (h : EnSm e) : (encEn e).length <= 1000 := by
 obtain ⟨⟨h1, h2, h3, h4⟩, h5⟩ := h
 have e1 := zao h1
 have e2 := zao h2
 have e3 : (encU e.l.length).length <= 10 := zao (by omega)
 have e4 := encIs_le h4
 simp [encEn]; omega
theorem encS_le {s : Bs} (h : s.length <= 1000) : (encS s).length <= 1010 := by
 have e3 : (encU s.length).length <= 10 := zao (by omega)
 simp [encS]; omega
theorem encEns_le {l : List En} (h : ∀ e ∈ l, EnSm e) : (encEns l).length <= 1010 * l.length := by
 induction l with
 | nil => simp [encEns]
 | cons e l ih =>
   have h1 := encS_le (encEn_le (h e (by simp)))
   have h2 := ih fun x hx => h x (by simp [hx])
   simp [encEns] at h2 ⊢; omega
theorem record_does {H : AHeap} {i : Nat} {cs : List AV} {me n kind view last agreed : Nat} {l : List En} {v : AV} (hi : H.get i = some (.cells (.int .i64 me :: .int .i64 n :: cs)))
  (b1 : me < 2 ^ 62) (b2 : n < 2 ^ 62) (b3 : kind < 2 ^ 64) (b4 : view < 2 ^ 64) (b5 : last < 2 ^ 64) (b6 : agreed < 2 ^ 62) (hv : EnF v l) (hl : l.length <= 1000) (he : ∀ e ∈ l, EnSm e) :
  Does Tryz.prog G 140 [.ptr i 0, .int .u64 kind, .int .u64 view, .int .u64 last, .int .i64 agreed, v] H fun r h => r = bV (zax me n kind view last agreed l) /\ h = H := by
 obtain ⟨us, hu⟩ : ∃ us : List Nat, us = [me, n, kind, view, last, agreed, l.length] := ⟨_, rfl⟩
 have hrec : zax me n kind view last agreed l = encUs us ++ encEns l := by rw [hu]; simp [zax, encUs]
 have eb : ([.int .u64 me, .int .u64 n, .int .u64 kind, .int .u64 view, .int .u64 last, .int .u64 agreed, .int .u64 l.length] : List AV) = u64s us := by rw [hu]; rfl
 have hus : ∀ u ∈ us, u < 2 ^ 64 := by
  intro u hu2
  rw [hu] at hu2
  simp only [List.mem_cons, List.not_mem_nil, or_false] at hu2
  rcases hu2 with rfl | rfl | rfl | rfl | rfl | rfl | rfl <;> omega
 have hul : us.length = 7 := by rw [hu]; rfl
 have ule := encUs_le hus
 rw [hrec]
 refine Does.forgot (R := fun r h => r = bV (encUs us ++ encEns l) /\ ∀ j x, H.get j = some x -> h.get j = some x) ?_ (fun hw ha r H1 ⟨h1, h2⟩ => ⟨h2, by rw [h1]; simp only [bV, AV.idLt]; exact strCs_lt _ _, h1, rfl⟩)
 refine Does.wf Tryz.call140 fun hw _ => ?_
 refine zad Tryz.call140 Tryz.func140 rfl (by simp [Tryz.f140]) ?_
 have hal : alen Tryz.prog 48 v = some (.int .i64 l.length) := by rcases hv with ⟨rfl, rfl⟩ | ⟨ts, rfl⟩ <;> simp [alen]
 have w1 : IntKind.u64.wrap (me : Int) = me := IntWalk.u64_in _ (by omega)
 have w2 : IntKind.u64.wrap (n : Int) = n := IntWalk.u64_in _ (by omega)
 have w3 : IntKind.u64.wrap (agreed : Int) = agreed := IntWalk.u64_in _ (by omega)
 have w4 : IntKind.u64.wrap (l.length : Int) = l.length := IntWalk.u64_in _ (by omega)
 simp
 refine zaj [(3, 0), (8, 0)] zah (by kernel_rfl) ?_
 intro es hes
 simp [hi, hal, w1, w2, w3, w4, -alen]
 refine ⟨by subst hes; exact ⟨by kernel_rfl, by kernel_rfl⟩, ?_, ?_⟩
 · simp [rds, heapF, hi]
 clear hes
 simp
 refine zam (fun k T' H' => ∃ j : Nat, j + k = 7 /\ (∀ x y, H.get x = some y -> H'.get x = some y) /\ H'.get H.next = some (.cells (u64s us)) /\ (∃ bv, T' 13 = bv /\ BtA bv (encUs (us.take j)) /\ (0 < j -> bv = bV (encUs (us.take j)))) /\ T' 5 = v /\ T' 36 = .sl H.next 0 1 7 7 false /\ T' 37 = .int .i64 7 /\ T' 38 = .int .i64 j) 7 ?_ ?_
 · refine ⟨0, rfl, fun x y h => ?_, ?_, ⟨.nilsl, by simp, .inl ⟨rfl, by simp [encUs]⟩, fun h => by omega⟩, ?_, ?_, ?_, ?_⟩
   · have := zaa hw h
     have : x ≠ H.next := by omega
     simp [this, h]
   · rw [<- eb]; simp
   all_goals simp
 · rintro k T H1 ⟨j, hjk, hk, hb, ⟨bv, t13, hbv, hbe⟩, t5, t36, t37, t38⟩ hw1 _
   by_cases hj : j < 7
   · have hj' : (j : Int) < 7 := by omega
     obtain ⟨u, hu1⟩ : ∃ u, us[j]? = some u := ⟨_, List.getElem?_eq_getElem (by omega)⟩
     have hat := u64s_at hu1
     have hj7 : j <= (u64s us).length := by simp [u64s]; omega
     have hdr : List.drop j (u64s us) = .int .u64 u :: List.drop (j + 1) (u64s us) := by
      obtain ⟨q1, q2⟩ := List.getElem?_eq_some_iff.1 hat
      rw [List.drop_eq_getElem_cons q1, q2]
     have hub : u < 2 ^ 64 := hus u (List.mem_of_getElem? hu1)
     have hsn : us.take (j + 1) = us.take j ++ [u] := by rw [List.take_add_one, hu1]; rfl
     have hle : (encUs (us.take j)).length <= 70 := by
      have := encUs_le (l := us.take j) fun x hx => hus x (List.mem_of_mem_take hx)
      rw [List.length_take] at this; omega
     have wr : IntKind.i64.wrap ((j : Int) + 1) = ((j + 1 : Nat) : Int) := by rw [IntWalk.i64_in _ (by omega)]; omega
     simp [t13, t5, t36, t37, t38, hj, hj', hb, hj7, hdr]
     refine zab (packU_does hub hbv (by omega) _) ?_
     rintro r h ⟨rfl, rfl⟩
     simp [t13, t5, t36, t37, t38]
     refine ⟨k - 1, by omega, j + 1, by omega, hk, hb, ?_, wr⟩
     rw [hsn, encUs_snoc]
     exact ⟨.bV _, fun _ => rfl⟩
   · obtain rfl : j = 7 := by omega
     have etk : us.take 7 = us := List.take_of_length_le (by omega)
     rw [etk] at hbv hbe
     have hbe := hbe (by omega)
     simp [t37, t38, t5, t13, hal, -alen]
     refine zam (fun k T' H' => ∃ j : Nat, j + k = l.length /\ (∀ x y, H.get x = some y -> H'.get x = some y) /\ T' 13 = bV (encUs us ++ encEns (l.take j)) /\ T' 46 = v /\ T' 47 = .int .i64 l.length /\ T' 48 = .int .i64 j) l.length ?_ ?_
     · refine ⟨0, by simp, hk, ?_, ?_, ?_, ?_⟩ <;> simp [t13, hbe, encEns]
     · rintro k T H1 ⟨j, hjk, hk, t13, t46, t47, t48⟩ hw1 _
       by_cases hj : j < l.length
       · have hj' : (j : Int) < l.length := by omega
         obtain ⟨C, hvC, hCl, hat⟩ := hv.cs (by omega)
         have g1 : l[j]? = some l[j] := List.getElem?_eq_getElem hj
         have hat := hat j _ g1
         have hsm := he _ (List.getElem_mem hj)
         have hsn : l.take (j + 1) = l.take j ++ [l[j]] := by rw [List.take_add_one, g1]; rfl
         have hle : (encEns (l.take j)).length <= 1010 * 1000 := by
          have := encEns_le (l := l.take j) fun x hx => he x (List.mem_of_mem_take hx)
          rw [List.length_take] at this
          omega
         generalize l[j] = e at *
         have hel := encEn_le hsm
         have h3 : 3 <= C.length - j * 3 := by omega
         have wr : IntKind.i64.wrap ((j : Int) + 1) = ((j + 1 : Nat) : Int) := by rw [IntWalk.i64_in _ (by omega)]; omega
         have rx := RowA.rowV e.row
         rw [hvC] at t46
         obtain ⟨bv2, hbv2⟩ : ∃ bv2, bv2 = bV (encUs us ++ encEns (l.take j)) := ⟨_, rfl⟩
         rw [<- hbv2] at t13
         simp [t13, t46, t47, t48, hj, hj', h3, hat, rx.sc, rx.cells]
         refine zab (putEn_does (e := e) rx hsm.1 (by have := hsm.2; omega) _) ?_
         rintro r h ⟨rfl, rfl⟩
         have ab := abytes_strCs (encEn e)
         have tk : List.take (encEn e).length (strCs (encEn e)) = strCs (encEn e) := by rw [<- zae, List.take_length]
         simp [t13, t46, t47, t48, bV, ab, tk, zae, -abytes]
         refine zab (packS_does (s := encEn e) (by omega) (bv := bv2) (bs := encUs us ++ encEns (l.take j)) (by rw [hbv2]; exact .bV _) (by rw [List.length_append]; omega) _) ?_
         rintro r h ⟨rfl, rfl⟩
         simp [t13, t46, t47, t48]
         refine ⟨k - 1, by omega, j + 1, by omega, fun x y hx => ?_, ?_, hvC.symm, wr⟩
         · have := zaa hw1 (hk x y hx)
           have e0 : x ≠ H1.next := by omega
           simp [e0, hk x y hx]
         · rw [hsn, encEns_snoc, <- List.append_assoc]
       · obtain rfl : j = l.length := by omega
         rw [List.take_length] at t13
         simp [t47, t48, t13]
         exact hk
def AHeap.skip (H : AHeap) (n : Nat) (x : AObj) : AHeap := { next := H.next + n + 1, get := fun j => if j = H.next + n then some x else H.get j }
theorem copies_x {l : List En} {v : AV} (hv : EnF v l) (hl : l.length <= 1000000) (h0 : 0 < l.length) (hr : ∀ e ∈ l, e.l.length <= 1000000) (H : AHeap) :
  Does Tryz.prog G 72 [v] H fun r h => r = .sl (H.next + (3 * l.length - 1)) 0 3 l.length l.length true /\ h = AHeap.skip H (3 * l.length - 1) (.cells (entsC l)) := by
 refine Does.ghost (R := fun r h => r = .sl (H.next + (3 * l.length - 1)) 0 3 l.length l.length true /\ (∀ j x, H.get j = some x -> h.get j = some x) /\ h.get (H.next + (3 * l.length - 1)) = some (.cells (entsC l)) /\ h.next = H.next + 3 * l.length) ?_ ?_
 rotate_left
 · rintro r H1 ⟨rfl, h1, h2, h3⟩
   refine ⟨_, _, Ghost.sub (H' := AHeap.skip H (3 * l.length - 1) (.cells (entsC l))) (by simp only [AHeap.skip]; omega) ?_, rfl, rfl⟩
   intro j x hj
   simp only [AHeap.skip] at hj
   split at hj
   · rename_i e
     rw [e, h2]; exact hj
   · exact h1 j x hj
 refine Does.wf Tryz.call72 fun hw _ => ?_
 refine zad Tryz.call72 Tryz.func72 rfl (by simp [Tryz.f72]) ?_
 have hal : alen Tryz.prog 48 v = some (.int .i64 l.length) := by rcases hv with ⟨rfl, rfl⟩ | ⟨ts, rfl⟩ <;> simp [alen]
 simp [hal, -alen]
 refine zam (fun k T' H' => ∃ i, i + k = l.length /\ (∀ j x, H.get j = some x -> H'.get j = some x) /\ H'.next = H.next + 3 * i /\ (0 < i -> H'.get (H.next + (3 * i - 1)) = some (.cells (entsC (l.take i)))) /\ T' 3 = (if i = 0 then .nilsl else .sl (H.next + (3 * i - 1)) 0 3 i i true) /\ T' 6 = v /\ T' 7 = .int .i64 l.length /\ T' 8 = .int .i64 i) l.length ?_ ?_
 · exact ⟨0, by simp, fun j x hj => hj, rfl, fun h => by omega, by simp, by simp, by simp, by simp⟩
 rintro k T H1 ⟨i, hik, hk, hnx, hg, t3, t6, t7, t8⟩ hw1 _
 by_cases hi : i < l.length
 · have hii : (i : Int) < l.length := by omega
   obtain ⟨C, hvC, hCl, hat⟩ := hv.cs (by omega)
   have g1 : l[i]? = some l[i] := List.getElem?_eq_getElem hi
   have hat := hat i _ g1
   have hre := hr _ (List.getElem_mem hi)
   have hsn : l.take (i + 1) = l.take i ++ [l[i]] := by rw [List.take_add_one, g1]; rfl
   have hln : (l.take i).length = i := by rw [List.length_take]; omega
   generalize l[i] = x at *
   have h3 : 3 <= C.length - i * 3 := by omega
   have wr : IntKind.i64.wrap ((i : Int) + 1) = ((i + 1 : Nat) : Int) := by rw [IntWalk.i64_in _ (by omega)]; omega
   rw [hvC] at t6
   have rx := RowA.rowV x.row
   have hec : entsC (l.take (i + 1)) = entsC (l.take i) ++ [.int .u64 x.id, .int .u64 x.view, rowV x.row] := by rw [hsn, zaM]; simp [entsC]
   simp [t3, t6, t7, t8, hi, hii, h3, hat, rx.sc, rx.cells]
   refine zab (copyEn_does (e := x) rx (by omega) _) ?_
   rintro r h ⟨rfl, rfl⟩
   by_cases hi0 : i = 0
   · subst hi0
     simp only [if_true] at t3
     have hnx0 : H1.next = H.next := by simpa using hnx
     simp [enV, t3, t6, t7, t8, rx.sc, rx.cells]
     refine ⟨k - 1, by omega, 1, by omega, fun j y hj => ?_, by simp; omega, ?_, ?_, hvC.symm, by simpa using wr⟩
     · have j1 := zaa hw hj
       have e0 : j ≠ H1.next := by omega
       have e1 : j ≠ H1.next + 1 := by omega
       have e2 : j ≠ H1.next + 1 + 1 := by omega
       simp [e0, e1, e2, hk j y hj]
     · have e : H.next + 2 = H1.next + 1 + 1 := by omega
       rw [hec]
       simp [e, entsC]
     · have e : H.next + 2 = H1.next + 1 + 1 := by omega
       simp [e]
   · have hg := hg (by omega)
     rw [if_neg hi0] at t3
     have e0 : H.next + (3 * i - 1) ≠ H1.next := by omega
     have e1 : H.next + (3 * i - 1) ≠ H1.next + 1 := by omega
     have e2 : H.next + (3 * i - 1) ≠ H1.next + 1 + 1 := by omega
     have c1 : i * 3 <= (entsC (l.take i)).length := by rw [zaV, hln]; omega
     have c4 : ¬ i + 1 <= i := by omega
     have c2 : (i + 1) * 40 <= 140737488355328 := by omega
     have c3 : i <= 4611686018427387903 := by omega
     have tk : List.take (i * 3) (entsC (l.take i)) = entsC (l.take i) := List.take_of_length_le (by rw [zaV, hln]; omega)
     simp [enV, t3, t6, t7, t8, rx.sc, rx.cells, hg, e0, e1, e2, c1, c2, c3, c4, tk, hi0]
     refine ⟨k - 1, by omega, i + 1, by omega, fun j y hj => ?_, (by first | omega | (simp; omega)), ?_, ?_, hvC.symm, wr⟩
     · have j1 := zaa hw hj
       have e3 : j ≠ H1.next := by omega
       have e4 : j ≠ H1.next + 1 := by omega
       have e5 : j ≠ H1.next + 1 + 1 := by omega
       have e6 : j ≠ H.next + (3 * i - 1) := by omega
       simp [e3, e4, e5, e6, hk j y hj]
     · have : H.next + (3 * (i + 1) - 1) = H1.next + 1 + 1 := by omega
       rw [this]
       simp [hec]
     · simp; omega
 · obtain rfl : i = l.length := by omega
   have hg := hg h0
   rw [List.take_length] at hg
   rw [if_neg (by omega)] at t3
   simp [t3, t7, t8]
   exact ⟨hk, hg, hnx⟩
def seenC (S : List Nat) : List (AV × AV) := S.map fun (u : Nat) => (AV.int .u64 (u : Int), AV.bool true)
theorem afind_no {id : Nat} : ∀ {S : List Nat} (i : Nat), S.contains id = false -> afind (.int .u64) (.int .u64 (id : Int)) (seenC S) i = some none
 | [], _, _ => rfl
 | a :: S, i, h => by
   simp only [List.contains_cons, Bool.or_eq_false_iff] at h
   have hne : ((id : Int) == (a : Int)) = false := by have := h.1; simp at this ⊢; omega
   have ih := afind_no (S := S) (i + 1) h.2
   simp only [seenC, List.map_cons, afind, asame, if_true, hne] at ih ⊢
   exact ih
theorem afind_yes {id : Nat} : ∀ {S : List Nat} (i : Nat), S.contains id = true -> ∃ j, afind (.int .u64) (.int .u64 (id : Int)) (seenC S) i = some (some (j, .bool true))
 | [], _, h => by simp at h
 | a :: S, i, h => by
   by_cases e : id = a
   · subst e
     exact ⟨i, by simp [seenC, afind, asame]⟩
   · have hne : ((id : Int) == (a : Int)) = false := by simp; omega
     simp only [List.contains_cons, Bool.or_eq_true, beq_iff_eq, e, false_or] at h
     obtain ⟨j, ih⟩ := afind_yes (S := S) (i + 1) h
     refine ⟨j, ?_⟩
     simp only [seenC, List.map_cons, afind, asame, if_true, hne] at ih ⊢
     exact ih
theorem listed_does {l : List En} {v : AV} (hv : EnF v l) (hl : l.length <= 1000000) (H : AHeap) :
  Does Tryz.prog G 98 [v] H fun r h => r = .bool (listed l) /\ h = H := by
 refine Does.forgot (R := fun r h => r = .bool (listed l) /\ ∀ j x, H.get j = some x -> h.get j = some x) ?_ (fun hw ha r H1 ⟨h1, h2⟩ => ⟨h2, by rw [h1]; rfl, h1, rfl⟩)
 refine Does.wf Tryz.call98 fun hw _ => ?_
 refine zad Tryz.call98 Tryz.func98 rfl (by simp [Tryz.f98]) ?_
 have hal : alen Tryz.prog 48 v = some (.int .i64 l.length) := by rcases hv with ⟨rfl, rfl⟩ | ⟨ts, rfl⟩ <;> simp [alen]
 simp [hal, -alen]
 refine zam (fun k T' H' => ∃ i S, i + k = l.length /\ (∀ j x, H.get j = some x -> H'.get j = some x) /\ H.next < H'.next /\ H'.get H.next = some (.map (seenC S.reverse)) /\ fresh [] l = fresh S (l.drop i) /\ T' 0 = v /\ T' 3 = .map H.next /\ T' 7 = v /\ T' 8 = .int .i64 l.length /\ T' 9 = .int .i64 i) l.length ?_ ?_
 · refine ⟨0, [], by simp, fun j x hj => ?_, by simp, by simp [seenC], by simp, ?_, ?_, ?_, ?_, ?_⟩
   · have := zaa hw hj
     have e0 : j ≠ H.next := by omega
     simp [e0, hj]
   all_goals simp
 rintro k T H1 ⟨i, S, hik, hk, hnx, hg, hf, t0, t3, t7, t8, t9⟩ hw1 _
 by_cases hi : i < l.length
 · have hii : (i : Int) < l.length := by omega
   obtain ⟨C, hvC, hCl, hat⟩ := hv.cs (by omega)
   have g1 : l[i]? = some l[i] := List.getElem?_eq_getElem hi
   have hat := hat i _ g1
   rw [List.drop_eq_getElem_cons hi] at hf
   generalize l[i] = x at *
   rw [fresh] at hf
   have h3 : 3 <= C.length - i * 3 := by omega
   have wr : IntKind.i64.wrap ((i : Int) + 1) = ((i + 1 : Nat) : Int) := by rw [IntWalk.i64_in _ (by omega)]; omega
   rw [hvC] at t7
   have rx := RowA.rowV x.row
   have m1 : H.next ≠ H1.next := by omega
   have old : ∀ (X : AObj) j y, H.get j = some y -> (H1.push X).get j = some y := fun X j y hj => by
    have := zaa hw1 (hk j y hj)
    have e0 : j ≠ H1.next := by omega
    simp [e0, hk j y hj]
   have hfin : fresh [] l = false -> listed l = false := fun h => by simp [listed, h]
   simp [t0, t3, t7, t8, t9, hi, hii, h3, hat, rx.sc, rx.cells]
   refine zab (may_does' (e := x) rx _) ?_
   rintro r h ⟨rfl, rfl⟩
   cases hm : may x with
   | false =>
     rw [hm, Bool.false_and, Bool.false_and] at hf
     simp [t0, t3, t7, t8, t9, hfin hf]
     exact old _
   | true =>
     cases hc : S.contains x.id with
     | true =>
       rw [hc, Bool.not_true, Bool.and_false, Bool.false_and] at hf
       obtain ⟨j, hj⟩ := afind_yes (S := S.reverse) 0 (by simpa using hc)
       simp [t0, t3, t7, t8, t9, hg, m1, hj, hfin hf, -afind]
       exact old _
     | false =>
       have hj := afind_no (id := x.id) (S := S.reverse) 0 (by simpa using hc)
       rw [hm, hc] at hf
       simp only [Bool.not_false, Bool.true_and] at hf
       simp [t0, t3, t7, t8, t9, hg, m1, hj, -afind]
       refine ⟨k - 1, by omega, i + 1, by omega, fun j y hj => ?_, by omega, x.id :: S, by simp [seenC], hf, hvC.symm, wr⟩
       have := zaa hw1 (hk j y hj)
       have e0 : j ≠ H1.next := by omega
       have e1 : j ≠ H.next := by have := zaa hw hj; omega
       simp [e0, e1, hk j y hj]
 · obtain rfl : i = l.length := by omega
   rw [List.drop_length] at hf
   simp [t0, t8, t9, hal, -alen]
   refine ⟨?_, hk⟩
   simp [listed, hf, fresh]
   omega
theorem res_int (get : Nat -> Option AObj) (n : Nat) (k : IntKind) (x : Int) : AV.res get (n + 1) (.int k x) = some (.int k x) := rfl
theorem res_vsl (get : Nat -> Option AObj) (n : Nat) (cs : List AV) (len : Nat) : AV.res get (n + 1) (.vsl cs len) = (zay (cs.map (AV.res get n))).map (.vsl · len) := rfl
theorem res_sl (get : Nat -> Option AObj) (n : Nat) (i o z len cap : Nat) (op : Bool) {cs : List AV} (h : get i = some (.cells cs)) : AV.res get (n + 1) (.sl i o z len cap op) = (zay (((cs.drop o).take (len * z)).map (AV.res get n))).map (.vsl · len) := by
 rw [show AV.res get (n + 1) (.sl i o z len cap op) = (match get i with | some (.cells cs) => (zay (((cs.drop o).take (len * z)).map (AV.res get n))).map (.vsl · len) | _ => none) from rfl, h]
theorem res_ints (get : Nat -> Option AObj) (n : Nat) : ∀ l : List Int, zay ((ints l).map (AV.res get (n + 1))) = some (ints l)
 | [] => rfl
 | a :: l => by
   have := res_ints get n l
   simp only [ints, List.map_cons, res_int, zay] at this ⊢
   rw [this]; rfl
theorem res_rowV (get : Nat -> Option AObj) (n : Nat) (row : Option (List Int)) : AV.res get (n + 2) (rowV row) = some (rowV row) := by
 cases row with
 | none => rfl
 | some l => simp only [rowV, res_vsl, res_ints]; rfl
theorem res_ents (get : Nat -> Option AObj) (n : Nat) : ∀ l : List En, zay ((entsC l).map (AV.res get (n + 2))) = some (entsC l)
 | [] => rfl
 | e :: l => by
   have := res_ents get n l
   have h1 := res_rowV get n e.row
   simp only [entsC, List.flatMap_cons, List.cons_append, List.nil_append, List.map_cons, res_int, zay, h1] at this ⊢
   rw [this]; rfl
theorem gr_lent {H : AHeap} {l : List En} {w : AV} {b : Nat -> Prop} (h : Gr H 3 l.length (entsC l) w b) : ∃ u, EnF u l /\ ∀ {xs ys : List AV}, Lent H.get 3 xs ys -> Lent H.get 3 (w :: xs) (u :: ys) := by
 rcases h with ⟨h1, _, rfl⟩ | ⟨p, o, cap, op, pre, junk, rfl, _, a3, a4, a5, _⟩
 · exact ⟨.nilsl, .inl ⟨rfl, List.length_eq_zero_iff.1 h1⟩, fun h => .keep _ h⟩
 · refine ⟨.vsl (entsC l) l.length, .inr ⟨[], by simp⟩, fun h => .res ?_ h⟩
   have := res_ents H.get 0 l
   rw [res_sl _ _ _ _ _ _ _ _ a3, List.drop_left' a4, List.take_left' a5, this]
   rfl
theorem listed_live {H : AHeap} {l : List En} {w : AV} {b : Nat -> Prop} (h : Gr H 3 l.length (entsC l) w b) (hl : l.length <= 1000000) :
  Does Tryz.prog G 98 [w] H fun r h => r = .bool (listed l) /\ h = H := by
 obtain ⟨u, h1, h2⟩ := gr_lent h
 refine (Does.borrow (h2 .nil) (listed_does h1 hl _) (fun r H1 h => by rw [h.1]; rfl)).mono ?_
 rintro r h ⟨⟨H1, h3, _⟩, h4⟩
 exact ⟨h3, h4⟩
def PrsR (o : Option Rc) (H : AHeap) (r : AV) (h : AHeap) : Prop := (match o with
 | some x => r = .tuple [.agg [.int .u64 x.kind, .int .u64 x.view, .int .u64 x.last, .int .u64 x.agreed, entsV x.list], .bool true]
 | none => ∃ (a b c d : Int) (l : List En), r = .tuple [.agg [.int .u64 a, .int .u64 b, .int .u64 c, .int .u64 d, entsV l], .bool false]) /\ h = H
def PrsG (o : Option Rc) (H : AHeap) (r : AV) (h : AHeap) : Prop := (match o with
 | some x => ∃ w, CopG H h x.list w /\ r = .tuple [.agg [.int .u64 x.kind, .int .u64 x.view, .int .u64 x.last, .int .u64 x.agreed, w], .bool true]
 | none => ∃ (a b c d : Int) (w : AV) (l : List En), CopG H h l w /\ r = .tuple [.agg [.int .u64 a, .int .u64 b, .int .u64 c, .int .u64 d, w], .bool false]) /\ ∀ j x, H.get j = some x -> h.get j = some x
theorem RdTo.next {H h : AHeap} {k : Nat} {r : Rd} (t : RdTo H h k r) : h.next = H.next := by
 obtain ⟨v, _, rfl⟩ := t
 rfl
theorem rdU_e {H : AHeap} {k u : Nat} {r R : Rd} (e : r.U = (u, R)) (hk : RdAt H k r) (hl : r.b.length <= 1000000) : Does Tryz.prog G 62 [.ptr k 0] H fun x h => x = .int .u64 u /\ RdTo H h k R := by
 have := rdU_does (G := G) hk (by omega)
 rw [e] at this
 exact this
theorem rdU_b {u : Nat} {r R : Rd} (e : r.U = (u, R)) (hl : r.b.length <= 1000000) : u < 2 ^ 64 /\ R.b.length <= 1000000 := by
 have := rdU_lt r
 rw [e] at this
 exact ⟨this.1, by have := this.2; simp only at this; omega⟩
theorem rdS_e {H : AHeap} {k : Nat} {s : Bs} {r R : Rd} (e : r.S = (s, R)) (hk : RdAt H k r) (hl : r.b.length <= 1000000) : Does Tryz.prog G 63 [.ptr k 0] H fun x h => x = .str s /\ RdTo H h k R := by
 have := rdS_does (G := G) hk (by omega)
 rw [e] at this
 exact this
theorem rdS_b {s : Bs} {r R : Rd} (e : r.S = (s, R)) (hl : r.b.length <= 1000000) : s.length <= 1000000 /\ R.b.length <= 1000000 := by
 have := rdS_len r
 rw [e] at this
 exact ⟨by have := this.2; simp only at this; omega, by have := this.1; simp only at this; omega⟩
theorem Gr_frz {H : AHeap} {z n : Nat} {cs : List AV} {v : AV} {b : Nat -> Prop} (h : Gr H z n cs v b) {i : Nat} {c : List AV} (hi : ∀ j, b j -> j ≠ i) (hc : AV.frzs i c cs = cs) : Gr (H.frz i c) z n cs v b := by
 rcases h with h | ⟨p, o, cap, op, pre, junk, h1, h2, h3, h4, h5, h6, h7⟩
 · exact .inl h
 · refine .inr ⟨p, o, cap, op, AV.frzs i c pre, AV.frzs i c junk, h1, h2, ?_, by rw [frzs_len]; exact h4, h5, by rw [frzs_len]; exact h6, h7⟩
   rw [zaH h3 (hi p h2), zaU, zaU, hc]
theorem Gr_frzV {H : AHeap} {z n : Nat} {cs : List AV} {v : AV} {b : Nat -> Prop} (h : Gr H z n cs v b) {i : Nat} {c : List AV} (hi : ∀ j, b j -> j ≠ i) : AV.frz i c v = v := by
 rcases h with ⟨_, _, rfl⟩ | ⟨p, o, cap, op, pre, junk, rfl, h2, _⟩
 · rfl
 · simp only [AV.frz]; rw [if_neg (hi p h2)]
theorem parse_run {H : AHeap} {i : Nat} {cs : List AV} {me n : Nat} (hi : H.get i = some (.cells (.int .i64 me :: .int .i64 n :: cs))) (b1 : me < 2 ^ 62) (b2 : n < 2 ^ 62) {bv : AV} {b : Bs} (hb : BtA bv b) (hl : b.length <= 1000000) :
  Does Tryz.prog G 68 [.ptr i 0, bv] H (PrsG (parse me n b) H) := by
 refine Does.wf Tryz.call68 fun hw _ => ?_
 have hin := zaa hw hi
 refine zad Tryz.call68 Tryz.func68 rfl (by simp [Tryz.f68]) ?_
 have w1 : IntKind.u64.wrap (me : Int) = me := IntWalk.u64_in _ (by omega)
 have w2 : IntKind.u64.wrap (n : Int) = n := IntWalk.u64_in _ (by omega)
 obtain ⟨u1, R1, e1⟩ : ∃ u R, (Rd.mk b false).U = (u, R) := ⟨_, _, rfl⟩
 obtain ⟨u2, R2, e2⟩ : ∃ u R, R1.U = (u, R) := ⟨_, _, rfl⟩
 obtain ⟨u3, R3, e3⟩ : ∃ u R, R2.U = (u, R) := ⟨_, _, rfl⟩
 obtain ⟨u4, R4, e4⟩ : ∃ u R, R3.U = (u, R) := ⟨_, _, rfl⟩
 obtain ⟨u5, R5, e5⟩ : ∃ u R, R4.U = (u, R) := ⟨_, _, rfl⟩
 obtain ⟨u6, R6, e6⟩ : ∃ u R, R5.U = (u, R) := ⟨_, _, rfl⟩
 obtain ⟨u7, R7, e7⟩ : ∃ u R, R6.U = (u, R) := ⟨_, _, rfl⟩
 have f1 := rdU_b e1 (by simpa using hl)
 have f2 := rdU_b e2 f1.2
 have f3 := rdU_b e3 f2.2
 have f4 := rdU_b e4 f3.2
 have f5 := rdU_b e5 f4.2
 have f6 := rdU_b e6 f5.2
 have f7 := rdU_b e7 f6.2
 have hP : parse me n b = if u1 ≠ me \/ u2 ≠ n \/ 200 < u7 then none else match (rdEns u7 R7).1 with
   | none => none
   | some l => if (rdEns u7 R7).2.bad = false /\ (rdEns u7 R7).2.b.length = 0 /\ u4 <= 1099511627776 /\ u5 <= u4 /\ listed l = true then some ⟨u3, u4, u5, u6, l⟩ else none := by
  unfold parse
  simp only [e1, e2, e3, e4, e5, e6, e7]
  rfl
 rw [hP]
 simp
 refine zac (packRead_does hb (by omega) _) ?_
 rintro r H1 ⟨k, rfl, hk, hr, hs⟩ hw1 _
 have hs' : ∀ j x, H.get j = some x -> H1.get j = some x := fun j x hj => hs j x (by
  have := zaa hw hj
  have e0 : j ≠ H.next := by omega
  simp [e0, hj])
 have hq : H1.get H.next = some (.cells [.int .u64 0, .int .u64 0, .int .u64 0, .int .u64 0, .nilsl]) := hs H.next (.cells [.int .u64 0, .int .u64 0, .int .u64 0, .int .u64 0, .nilsl]) (by simp)
 simp at hk
 have hr : RdAt H1 k ⟨b, false⟩ := hr
 have hkn : k < H1.next := by obtain ⟨v, _, h⟩ := hr; exact zaa hw1 h
 clear hs
 have step : ∀ {Ha Hb : AHeap} {R : Rd}, ((∀ j x, H.get j = some x -> Ha.get j = some x) /\ Ha.get H.next = some (.cells [.int .u64 0, .int .u64 0, .int .u64 0, .int .u64 0, .nilsl]) /\ k < Ha.next) -> RdTo Ha Hb k R -> ((∀ j x, H.get j = some x -> Hb.get j = some x) /\ Hb.get H.next = some (.cells [.int .u64 0, .int .u64 0, .int .u64 0, .int .u64 0, .nilsl]) /\ k < Hb.next) := by
  rintro Ha Hb R ⟨g1, g2, g3⟩ ht
  refine ⟨fun j x hj => ?_, ?_, by rw [ht.next]; exact g3⟩
  · rw [ht.off (by have := zaa hw hj; omega)]; exact g1 j x hj
  · rw [ht.off (by omega)]; exact g2
 have G1 : (∀ j x, H.get j = some x -> H1.get j = some x) /\ H1.get H.next = some (.cells [.int .u64 0, .int .u64 0, .int .u64 0, .int .u64 0, .nilsl]) /\ k < H1.next := ⟨hs', hq, hkn⟩
 clear hs' hq hkn
 simp
 refine zac (rdU_e e1 hr (by simpa using hl)) ?_
 rintro r H2 ⟨rfl, ht⟩ hw2 _
 have G2 := step G1 ht
 have hr := ht.at
 simp
 refine zac (rdU_e e2 hr f1.2) ?_
 rintro r H3 ⟨rfl, ht⟩ hw3 _
 have G3 := step G2 ht
 have hr := ht.at
 simp
 refine zac (rdU_e e3 hr f2.2) ?_
 rintro r H4 ⟨rfl, ht⟩ hw4 _
 have G4 := step G3 ht
 have hr := ht.at
 simp
 refine zac (rdU_e e4 hr f3.2) ?_
 rintro r H5 ⟨rfl, ht⟩ hw5 _
 have G5 := step G4 ht
 have hr := ht.at
 simp
 refine zac (rdU_e e5 hr f4.2) ?_
 rintro r H6 ⟨rfl, ht⟩ hw6 _
 have G6 := step G5 ht
 have hr := ht.at
 simp
 refine zac (rdU_e e6 hr f5.2) ?_
 rintro r H7 ⟨rfl, ht⟩ hw7 _
 have G7 := step G6 ht
 have hr := ht.at
 clear ht
 simp
 have hr : RdAt (H7.push (.cells [.int .u64 u3, .int .u64 u4, .int .u64 u5, .int .u64 u6, .nilsl])) k R6 := by
  obtain ⟨v, a1, a2⟩ := hr
  have := G7.2.2
  have e0 : k ≠ H7.next := by omega
  exact ⟨v, a1, by simp [e0, a2]⟩
 refine zac (rdU_e e7 hr f6.2) ?_
 rintro r H8 ⟨rfl, ht⟩ hw8 _
 have hr := ht.at
 have hx : H8.get H7.next = some (.cells [.int .u64 u3, .int .u64 u4, .int .u64 u5, .int .u64 u6, .nilsl]) := by
  rw [ht.off (by have := G7.2.2; omega)]; simp
 have hnx : H8.next = H7.next + 1 := ht.next
 have G8 : (∀ j x, H.get j = some x -> H8.get j = some x) /\ H8.get H.next = some (.cells [.int .u64 0, .int .u64 0, .int .u64 0, .int .u64 0, .nilsl]) /\ k < H7.next /\ H.next < H7.next := by
  obtain ⟨g1, g2, g3⟩ := G7
  have g4 := zaa hw7 g2
  refine ⟨fun j x hj => ?_, ?_, g3, g4⟩
  · have := zaa hw hj
    rw [ht.off (by omega)]
    have e0 : j ≠ H7.next := by omega
    simp [e0, g1 j x hj]
  · rw [ht.off (by omega)]
    have e0 : H.next ≠ H7.next := by omega
    simp [e0, g2]
 clear G1 G2 G3 G4 G5 G6 G7 ht hw1 hw2 hw3 hw4 hw5 hw6
 obtain ⟨g1, g2, g3, g4⟩ := G8
 have hi8 := g1 i _ hi
 have bad : ∀ X, (∀ j x, H.get j = some x -> (H8.set H.next X).get j = some x) := fun X j x hj => by
  have := zaa hw hj
  have e0 : j ≠ H.next := by omega
  simp [e0, g1 j x hj]
 have c8 : H.next ≠ H8.next := by omega
 by_cases h1 : u1 = me
 case neg =>
  have c1 : ((u1 : Int) != (me : Int)) = true := by rw [bne_iff_ne]; omega
  simp [hi8, w1, w2, c1, h1, g2, PrsG]
  exact ⟨⟨0, 0, 0, 0, .nilsl, ⟨[], .inl ⟨rfl, rfl, rfl⟩, fun _ => rfl⟩, rfl, rfl, rfl, rfl, rfl⟩, bad _⟩
 have c1 : ((u1 : Int) != (me : Int)) = false := by simp [h1]
 by_cases h2 : u2 = n
 case neg =>
  have c2 : ((u2 : Int) != (n : Int)) = true := by rw [bne_iff_ne]; omega
  simp [hi8, w1, w2, c1, c2, h1, h2, g2, PrsG]
  exact ⟨⟨0, 0, 0, 0, .nilsl, ⟨[], .inl ⟨rfl, rfl, rfl⟩, fun _ => rfl⟩, rfl, rfl, rfl, rfl, rfl⟩, bad _⟩
 have c2 : ((u2 : Int) != (n : Int)) = false := by simp [h2]
 by_cases h3 : 200 < u7
 case pos =>
  have c3 : (200 : Int) < u7 := by omega
  simp [hi8, w1, w2, c1, c2, c3, h1, h2, h3, g2, PrsG]
  exact ⟨⟨0, 0, 0, 0, .nilsl, ⟨[], .inl ⟨rfl, rfl, rfl⟩, fun _ => rfl⟩, rfl, rfl, rfl, rfl, rfl⟩, bad _⟩
 have c3 : ¬ (200 : Int) < u7 := by omega
 simp [hi8, w1, w2, c1, c2, c3, h1, h2, h3]
 obtain ⟨q, hq⟩ : ∃ q, q = H7.next := ⟨_, rfl⟩
 rw [<- hq] at hx g3 g4 hnx ⊢
 generalize hX : rdEns u7 R7 = X at *
 refine zam (fun m T' H' => ∃ l b' d' w, l.length + m = u7 /\ ((rdEns m ⟨b', d'⟩).1.map (l ++ ·) = X.1 /\ (rdEns m ⟨b', d'⟩).2 = X.2) /\ b'.length <= 1000000 /\ RdAt H' k ⟨b', d'⟩ /\ Gr H' 3 l.length (entsC l) w (fun j => q < j) /\ (l = [] -> w = .nilsl) /\
  H'.get q = some (.cells [.int .u64 u3, .int .u64 u4, .int .u64 u5, .int .u64 u6, w]) /\ H'.get H.next = some (.cells [.int .u64 0, .int .u64 0, .int .u64 0, .int .u64 0, .nilsl]) /\ (∀ j x, H.get j = some x -> H'.get j = some x) /\ q < H'.next /\
  T' 0 = .ptr i 0 /\ T' 4 = .ptr H.next 0 /\ T' 6 = .ptr k 0 /\ T' 9 = .ptr q 0 /\ T' 51 = .int .u64 u7 /\ T' 52 = .int .u64 l.length) u7 ?_ ?_
 · refine ⟨[], R7.b, R7.bad, .nilsl, by simp, ⟨by rw [hX]; simp, by rw [hX]⟩, f7.2, hr, .inl ⟨rfl, rfl, rfl⟩, fun _ => rfl, hx, g2, g1, by omega, ?_, ?_, ?_, ?_, ?_, ?_⟩ <;> simp [hq]
 rintro m T H' ⟨l, b', d', w, hlm, ⟨hX1, hX2⟩, hb', hrd, hw', hw0, hx', hz', hs', hqn, t0, t4, t6, t9, t51, t52⟩ hw5 _
 cases m with
 | zero =>
   have c4 : ¬ (l.length : Int) < u7 := by omega
   simp only [rdEns, Option.map_some, List.append_nil] at hX1 hX2
   obtain ⟨X1, X2⟩ := X
   simp only at hX1 hX2
   subst hX1
   subst hX2
   have hwc := hw'.cells
   have hws := hw'.sc
   have qz : H.next ≠ q := by omega
   have hwZ : ∀ X, CopG H (H'.set H.next X) l w := fun X => ⟨(hw'.keep (fun j x hj hx => by
    have : j ≠ H.next := by omega
    simp [this, hx])).mono (fun j hj => by omega), hw0⟩
   have bad' : ∀ X, (∀ j x, H.get j = some x -> (H'.set H.next X).get j = some x) := fun X j x hj => by
    have := zaa hw hj
    have e0 : j ≠ H.next := by omega
    simp [e0, hs' j x hj]
   simp [t0, t4, t6, t9, t51, t52, c4]
   cases d' with
   | true =>
     refine zaj [(0, 0), (0, 3)] zah (by kernel_rfl) ?_
     intro es hes
     simp [zaf, -zag, t0, t4, t6, t9, hx', hws, hwc]
     refine ⟨_, _, zaF hrd, Nat.le_refl _, ?_⟩
     refine ad_go (fun T' => T' 4 = .ptr H.next 0 /\ T' 6 = .ptr k 0 /\ T' 9 = .ptr q 0 /\ T' 71 = .agg [.int .u64 u3, .int .u64 u4, .int .u64 u5, .int .u64 u6, w] /\ T' 73 = .bool true) (by simp [t4, t6, t9, hx']) ?_
     rintro T1 ⟨a4, a6, a9, a71, a73⟩
     simp [zaf, -zag, a4, a6, a9, a71, a73, hx', hz', hws, hwc]
     refine ⟨by subst hes; exact ⟨by kernel_rfl, by kernel_rfl⟩, by simp [rds, heapF, t9, hx'], ?_⟩
     simp [PrsG, h1, h2, h3]
     exact ⟨⟨u3, u4, u5, u6, w, ⟨l, hwZ _⟩, rfl, rfl, rfl, rfl, rfl⟩, bad' _⟩
   | false =>
     by_cases hl0 : b' = []
     case neg =>
      refine zaj [(0, 0), (0, 3), (0, 7)] zah (by kernel_rfl) ?_
      intro es hes
      simp [zaf, -zag, t0, t4, t6, t9, hx', hws, hwc]
      refine ⟨_, _, zaF hrd, Nat.le_refl _, ?_⟩
      refine ad_go (fun T' => T' 4 = .ptr H.next 0 /\ T' 6 = .ptr k 0 /\ T' 9 = .ptr q 0 /\ T' 71 = .agg [.int .u64 u3, .int .u64 u4, .int .u64 u5, .int .u64 u6, w] /\ T' 73 = .bool false) (by simp [t4, t6, t9, hx']) ?_
      rintro T1 ⟨a4, a6, a9, a71, a73⟩
      simp [zaf, -zag, a4, a6, a9, a71, a73, hx', hz', hws, hwc]
      refine ⟨_, _, zaC hrd, Nat.le_refl _, ?_⟩
      refine ad_go (fun T' => T' 4 = .ptr H.next 0 /\ T' 6 = .ptr k 0 /\ T' 9 = .ptr q 0 /\ T' 71 = .agg [.int .u64 u3, .int .u64 u4, .int .u64 u5, .int .u64 u6, w] /\ T' 75 = .bool true /\ T' 77 = .int .i64 b'.length) (by simp [a4, a6, a9, a71]) ?_
      rintro T2 ⟨a4, a6, a9, a71, a75, a77⟩
      simp [zaf, -zag, a4, a6, a9, a71, a75, a77, hx', hz', hws, hwc, h1, h2, h3, hl0]
      refine ⟨by subst hes; exact ⟨by kernel_rfl, by kernel_rfl⟩, by simp [rds, heapF, t9, hx'], ?_⟩
      simp [PrsG, h1, h2, h3, hl0]
      exact ⟨⟨u3, u4, u5, u6, w, ⟨l, hwZ _⟩, rfl, rfl, rfl, rfl, rfl⟩, bad' _⟩
     by_cases hv4 : u4 <= 1099511627776
     case neg =>
      have k2 : ¬ (u4 : Int) <= 1099511627776 := by omega
      refine zaj [(0, 0), (0, 3), (0, 7), (11, 7)] zah (by kernel_rfl) ?_
      intro es hes
      simp [zaf, -zag, t0, t4, t6, t9, hx', hws, hwc]
      refine ⟨_, _, zaF hrd, Nat.le_refl _, ?_⟩
      refine ad_go (fun T' => T' 4 = .ptr H.next 0 /\ T' 6 = .ptr k 0 /\ T' 9 = .ptr q 0 /\ T' 71 = .agg [.int .u64 u3, .int .u64 u4, .int .u64 u5, .int .u64 u6, w] /\ T' 73 = .bool false) (by simp [t4, t6, t9, hx']) ?_
      rintro T1 ⟨a4, a6, a9, a71, a73⟩
      simp [zaf, -zag, a4, a6, a9, a71, a73, hx', hz', hws, hwc]
      refine ⟨_, _, zaC hrd, Nat.le_refl _, ?_⟩
      refine ad_go (fun T' => T' 4 = .ptr H.next 0 /\ T' 6 = .ptr k 0 /\ T' 9 = .ptr q 0 /\ T' 71 = .agg [.int .u64 u3, .int .u64 u4, .int .u64 u5, .int .u64 u6, w] /\ T' 75 = .bool true /\ T' 77 = .int .i64 b'.length) (by simp [a4, a6, a9, a71]) ?_
      rintro T2 ⟨a4, a6, a9, a71, a75, a77⟩
      simp [zaf, -zag, a4, a6, a9, a71, a75, a77, hx', hz', hws, hwc, h1, h2, h3, hl0, hv4, k2]
      refine ⟨by subst hes; exact ⟨by kernel_rfl, by kernel_rfl⟩, by simp [rds, heapF, t9, hx'], ?_⟩
      simp [PrsG, h1, h2, h3, hl0, hv4, k2]
      exact ⟨⟨u3, u4, u5, u6, w, ⟨l, hwZ _⟩, rfl, rfl, rfl, rfl, rfl⟩, bad' _⟩
     have k2 : (u4 : Int) <= 1099511627776 := by omega
     by_cases hv5 : u5 <= u4
     case neg =>
      have k3 : ¬ (u5 : Int) <= u4 := by omega
      refine zaj [(0, 0), (0, 3), (0, 7), (11, 7), (16, 7), (18, 7)] zah (by kernel_rfl) ?_
      intro es hes
      simp [zaf, -zag, t0, t4, t6, t9, hx', hws, hwc]
      refine ⟨_, _, zaF hrd, Nat.le_refl _, ?_⟩
      refine ad_go (fun T' => T' 4 = .ptr H.next 0 /\ T' 6 = .ptr k 0 /\ T' 9 = .ptr q 0 /\ T' 71 = .agg [.int .u64 u3, .int .u64 u4, .int .u64 u5, .int .u64 u6, w] /\ T' 73 = .bool false) (by simp [t4, t6, t9, hx']) ?_
      rintro T1 ⟨a4, a6, a9, a71, a73⟩
      simp [zaf, -zag, a4, a6, a9, a71, a73, hx', hz', hws, hwc]
      refine ⟨_, _, zaC hrd, Nat.le_refl _, ?_⟩
      refine ad_go (fun T' => T' 4 = .ptr H.next 0 /\ T' 6 = .ptr k 0 /\ T' 9 = .ptr q 0 /\ T' 71 = .agg [.int .u64 u3, .int .u64 u4, .int .u64 u5, .int .u64 u6, w] /\ T' 75 = .bool true /\ T' 77 = .int .i64 b'.length) (by simp [a4, a6, a9, a71]) ?_
      rintro T2 ⟨a4, a6, a9, a71, a75, a77⟩
      simp [zaf, -zag, a4, a6, a9, a71, a75, a77, hx', hz', hws, hwc, h1, h2, h3, hl0, hv4, k2, hv5, k3]
      refine ⟨by subst hes; exact ⟨by kernel_rfl, by kernel_rfl⟩, by simp [rds, heapF, t9, hx'], ?_⟩
      simp [PrsG, h1, h2, h3, hl0, hv4, k2, hv5, k3]
      exact ⟨⟨u3, u4, u5, u6, w, ⟨l, hwZ _⟩, rfl, rfl, rfl, rfl, rfl⟩, bad' _⟩
     have k3 : (u5 : Int) <= u4 := by omega
     cases hls : listed l with
     | false =>
       refine zaj [(0, 0), (0, 3), (0, 7), (0, 25), (11, 7), (16, 7), (18, 7), (23, 7)] zah (by kernel_rfl) ?_
       intro es hes
       simp [zaf, -zag, t0, t4, t6, t9, hx', hws, hwc]
       refine ⟨_, _, zaF hrd, Nat.le_refl _, ?_⟩
       refine ad_go (fun T' => T' 4 = .ptr H.next 0 /\ T' 6 = .ptr k 0 /\ T' 9 = .ptr q 0 /\ T' 71 = .agg [.int .u64 u3, .int .u64 u4, .int .u64 u5, .int .u64 u6, w] /\ T' 73 = .bool false) (by simp [t4, t6, t9, hx']) ?_
       rintro T1 ⟨a4, a6, a9, a71, a73⟩
       simp [zaf, -zag, a4, a6, a9, a71, a73, hx', hz', hws, hwc]
       refine ⟨_, _, zaC hrd, Nat.le_refl _, ?_⟩
       refine ad_go (fun T' => T' 4 = .ptr H.next 0 /\ T' 6 = .ptr k 0 /\ T' 9 = .ptr q 0 /\ T' 71 = .agg [.int .u64 u3, .int .u64 u4, .int .u64 u5, .int .u64 u6, w] /\ T' 75 = .bool true /\ T' 77 = .int .i64 b'.length) (by simp [a4, a6, a9, a71]) ?_
       rintro T2 ⟨a4, a6, a9, a71, a75, a77⟩
       simp [zaf, -zag, a4, a6, a9, a71, a75, a77, hx', hz', hws, hwc, h1, h2, h3, hl0, hv4, k2, hv5, k3, hls]
       refine ⟨_, _, listed_live hw' (by omega), Nat.le_refl _, ?_⟩
       refine ad_go (fun T' => T' 4 = .ptr H.next 0 /\ T' 6 = .ptr k 0 /\ T' 9 = .ptr q 0 /\ T' 71 = .agg [.int .u64 u3, .int .u64 u4, .int .u64 u5, .int .u64 u6, w] /\ T' 92 = .bool true /\ T' 95 = .bool (listed l)) (by simp [a4, a6, a9, a71, h1, h2, h3, hl0, hv4, k2, hv5, k3, hls]) ?_
       rintro T3 ⟨a4, a6, a9, a71, a92, a95⟩
       simp [zaf, -zag, a4, a6, a9, a71, a92, a95, hx', hz', hws, hwc, h1, h2, h3, hl0, hv4, k2, hv5, k3, hls]
       refine ⟨by subst hes; exact ⟨by kernel_rfl, by kernel_rfl⟩, by simp [rds, heapF, t9, hx'], ?_⟩
       simp [PrsG, h1, h2, h3, hl0, hv4, k2, hv5, k3, hls]
       exact ⟨⟨u3, u4, u5, u6, w, ⟨l, hwZ _⟩, rfl, rfl, rfl, rfl, rfl⟩, bad' _⟩
     | true =>
       refine zaj [(0, 0), (0, 3), (0, 7), (0, 25), (11, 7), (16, 7), (18, 7), (23, 7)] zah (by kernel_rfl) ?_
       intro es hes
       simp [zaf, -zag, t0, t4, t6, t9, hx', hws, hwc]
       refine ⟨_, _, zaF hrd, Nat.le_refl _, ?_⟩
       refine ad_go (fun T' => T' 4 = .ptr H.next 0 /\ T' 6 = .ptr k 0 /\ T' 9 = .ptr q 0 /\ T' 71 = .agg [.int .u64 u3, .int .u64 u4, .int .u64 u5, .int .u64 u6, w] /\ T' 73 = .bool false) (by simp [t4, t6, t9, hx']) ?_
       rintro T1 ⟨a4, a6, a9, a71, a73⟩
       simp [zaf, -zag, a4, a6, a9, a71, a73, hx', hz', hws, hwc]
       refine ⟨_, _, zaC hrd, Nat.le_refl _, ?_⟩
       refine ad_go (fun T' => T' 4 = .ptr H.next 0 /\ T' 6 = .ptr k 0 /\ T' 9 = .ptr q 0 /\ T' 71 = .agg [.int .u64 u3, .int .u64 u4, .int .u64 u5, .int .u64 u6, w] /\ T' 75 = .bool true /\ T' 77 = .int .i64 b'.length) (by simp [a4, a6, a9, a71]) ?_
       rintro T2 ⟨a4, a6, a9, a71, a75, a77⟩
       simp [zaf, -zag, a4, a6, a9, a71, a75, a77, hx', hz', hws, hwc, h1, h2, h3, hl0, hv4, k2, hv5, k3, hls]
       refine ⟨_, _, listed_live hw' (by omega), Nat.le_refl _, ?_⟩
       refine ad_go (fun T' => T' 4 = .ptr H.next 0 /\ T' 6 = .ptr k 0 /\ T' 9 = .ptr q 0 /\ T' 71 = .agg [.int .u64 u3, .int .u64 u4, .int .u64 u5, .int .u64 u6, w] /\ T' 92 = .bool true /\ T' 95 = .bool (listed l)) (by simp [a4, a6, a9, a71, h1, h2, h3, hl0, hv4, k2, hv5, k3, hls]) ?_
       rintro T3 ⟨a4, a6, a9, a71, a92, a95⟩
       simp [zaf, -zag, a4, a6, a9, a71, a92, a95, hx', hz', hws, hwc, h1, h2, h3, hl0, hv4, k2, hv5, k3, hls]
       refine ⟨by subst hes; exact ⟨by kernel_rfl, by kernel_rfl⟩, by simp [rds, heapF, t9, hx'], ?_⟩
       simp [PrsG, h1, h2, h3, hl0, hv4, k2, hv5, k3, hls]
       exact ⟨hwZ _, bad' _⟩
 | succ m =>
   have c4 : (l.length : Int) < u7 := by omega
   have hxs : rdEns (m + 1) ⟨b', d'⟩ = (match getEn (Rd.S ⟨b', d'⟩).1 with | none => (none, (Rd.S ⟨b', d'⟩).2) | some e => ((rdEns m (Rd.S ⟨b', d'⟩).2).1.map (e :: ·), (rdEns m (Rd.S ⟨b', d'⟩).2).2)) := rfl
   rw [hxs] at hX1 hX2
   obtain ⟨sb, Rs, es⟩ : ∃ sb Rs, Rd.S ⟨b', d'⟩ = (sb, Rs) := ⟨_, _, rfl⟩
   have fs := rdS_b es hb'
   rw [es] at hX1 hX2
   simp only at hX1 hX2
   simp [t0, t4, t6, t9, t51, t52, c4]
   refine zac (rdS_e es hrd hb') ?_
   rintro r h ⟨rfl, hto⟩ hw6 _
   have hat := hto.at
   have hnx2 : h.next = H'.next := hto.next
   have hoff : ∀ j, j ≠ k -> h.get j = H'.get j := fun j hj => hto.off hj
   have kq : k < q := g3
   have zq : H.next < q := g4
   have kz : H.next ≠ k := by omega
   have e0 : sb.map (fun b => AV.int .u8 b.toNat) = strCs sb := rfl
   simp [e0]
   obtain ⟨b2', d2'⟩ := Rs
   simp only at fs
   have keepS : ∀ j c, j ≠ h.next -> h.get j = some (.cells c) -> ((h.push (.cells (strCs sb))).frz h.next (strCs sb)).get j = some (.cells (AV.frzs h.next (strCs sb) c)) := fun j c hj hc => zaH (by simp [hj, hc]) hj
   have hfz : ∀ j x, H.get j = some x -> ((h.push (.cells (strCs sb))).frz h.next (strCs sb)).get j = some x := fun j x hx => by
    have hlt := zaa hw hx
    refine frz_old1 hw (by omega) hx ?_
    have e1 : j ≠ h.next := by omega
    have e2 : j ≠ k := by omega
    simp [e1, hoff j e2, hs' j x hx]
   have efz : [AV.sl h.next 0 1 sb.length sb.length true].map (AV.frz h.next (strCs sb)) = [bV sb] := by
    have tk : List.take sb.length (strCs sb) = strCs sb := by rw [<- zae, List.take_length]
    simp [AV.frz, bV, tk]
   have hkk : RdAt ((h.push (.cells (strCs sb))).frz h.next (strCs sb)) k ⟨b2', d2'⟩ := by
    obtain ⟨v, a1, a2⟩ := hat
    exact ⟨_, a1.frz h.next (strCs sb), by rw [keepS k _ (by omega) a2]; simp [AV.frzs, AV.frz]⟩
   have hwG : Gr ((h.push (.cells (strCs sb))).frz h.next (strCs sb)) 3 l.length (entsC l) w (fun j => q < j /\ j < h.next) := by
    rcases hw' with a | ⟨p, o, cap, op, pre, junk, a1, a2, a3, a4, a5, a6, a7⟩
    · exact .inl a
    · have pn := zaa hw5 a3
      have h1 : Gr (h.push (.cells (strCs sb))) 3 l.length (entsC l) w (fun j => q < j /\ j < h.next) := by
       refine .inr ⟨p, o, cap, op, pre, junk, a1, ⟨a2, by omega⟩, ?_, a4, a5, a6, a7⟩
       have n1 : p ≠ h.next := by omega
       have n2 : p ≠ k := by omega
       simp [n1, hoff p n2, a3]
      exact Gr_frz h1 (fun j hj => by omega) (frzs_entsC _ _ _)
   have hwv : AV.frz h.next (strCs sb) w = w := Gr_frzV hwG (fun j hj => by omega)
   have hxq : ((h.push (.cells (strCs sb))).frz h.next (strCs sb)).get q = some (.cells [.int .u64 u3, .int .u64 u4, .int .u64 u5, .int .u64 u6, w]) := by
    rw [keepS q _ (by omega) (by rw [hoff q (by omega)]; exact hx')]
    simp [AV.frzs, AV.frz, hwv]
   have hzq : ((h.push (.cells (strCs sb))).frz h.next (strCs sb)).get H.next = some (.cells [.int .u64 0, .int .u64 0, .int .u64 0, .int .u64 0, .nilsl]) := by
    rw [keepS H.next _ (by omega) (by rw [hoff H.next kz]; exact hz')]
    simp [AV.frzs, AV.frz]
   have hnn : ((h.push (.cells (strCs sb))).frz h.next (strCs sb)).next = h.next + 1 := by simp [AHeap.frz]
   have hwc := hwG.cells
   have hws := hwG.sc
   generalize hH3 : (h.push (.cells (strCs sb))).frz h.next (strCs sb) = H3 at *
   refine zac (Does.lend (i := h.next) (cs := strCs sb) (R := fun r h' => r = enR (getEn sb) /\ h' = H3) (by simp) (by rw [efz, hH3]; exact getEn_does (b := sb) (bv := bV sb) (.bV sb) (by omega) _)) ?_
   rintro x hC ⟨rfl, rfl⟩ hw7 _
   cases hge : getEn sb with
   | none =>
     rw [hge] at hX1 hX2
     simp only [Option.map_none] at hX1
     have n1 : H.next ≠ hC.next := by omega
     simp [enR, t4, hzq, n1, PrsG, h1, h2, h3, hX1.symm]
     refine ⟨⟨0, 0, 0, 0, .nilsl, ⟨[], .inl ⟨rfl, rfl, rfl⟩, fun _ => rfl⟩, rfl, rfl, rfl, rfl, rfl⟩, fun j x hj => ?_⟩
     have := zaa hw hj
     have e1 : j ≠ H.next := by omega
     have e2 : j ≠ hC.next := by omega
     simp [e1, e2, hfz j x hj]
   | some e =>
     rw [hge] at hX1 hX2
     have hr := RowA.rowV e.row
     have wi : IntKind.u64.wrap ((l.length : Int) + 1) = ((l.length + 1 : Nat) : Int) := by rw [IntWalk.u64_in _ (by omega)]; omega
     have hXl : (rdEns m ⟨b2', d2'⟩).1.map ((l ++ [e]) ++ ·) = X.1 := by rw [<- hX1]; simp [Function.comp_def]
     have hec : entsC (l ++ [e]) = entsC l ++ [.int .u64 e.id, .int .u64 e.view, rowV e.row] := by simp [entsC]
     have hqlt := zaa hw7 hxq
     have q1 : q ≠ hC.next := by omega
     have q2 : q ≠ hC.next + 1 := by omega
     have g2 : Gr ((hC.push (.cells [.int .u64 e.id, .int .u64 e.view, rowV e.row])).push (.cells [.int .u64 e.id, .int .u64 e.view, rowV e.row])) 3 l.length (entsC l) w (fun j => q < j /\ j < hC.next) := by
      rcases hwG with ⟨a1, a2, a3⟩ | ⟨p, o, cap, op, pre, junk, a1, a2, a3, a4⟩
      · exact .inl ⟨by omega, a2, a3⟩
      · have pn := zaa hw7 a3
        have p1 : p ≠ hC.next := by omega
        have p2 : p ≠ hC.next + 1 := by omega
        exact .inr ⟨p, o, cap, op, pre, junk, a1, ⟨a2.1, pn⟩, by simp [p1, p2, a3], a4⟩
     obtain ⟨v', eff, f1, f2, f3, f4⟩ := g2.app (elemEn) (m := 1) (x := .sl (hC.next + 1) 0 3 1 1 false) (news := [.int .u64 e.id, .int .u64 e.view, rowV e.row]) (fun _ _ e => by cases e) rfl (by simp [zal]) (by simp [hr.sc]) rfl (by omega) (by omega) (by omega) (by omega) (nx := hC.next + 1 + 1) rfl
     simp [enR, enV, hr.cells, hr.sc, t0, t4, t6, t9, t51, t52, hxq, q1, q2, hwc, hws, -zan]
     rw [f1]
     generalize hH2 : ((hC.push (.cells [.int .u64 e.id, .int .u64 e.view, rowV e.row])).push (.cells [.int .u64 e.id, .int .u64 e.view, rowV e.row])) = H2 at *
     have nx2 : H2.next = hC.next + 1 + 1 := by rw [<- hH2]; rfl
     have hx4 : (H2.eff eff).get q = some (.cells [.int .u64 u3, .int .u64 u4, .int .u64 u5, .int .u64 u6, w]) := by
      rw [f3 q (by omega) (by omega), <- hH2]
      simp [q1, q2, hxq]
     have hv'c := f2.cells
     have hv's := f2.sc
     simp [t0, t4, t6, t9, t51, t52, hx4, hv'c, hv's, -Bool.exists_bool]
     obtain ⟨vk, hvk, hgk⟩ := hkk
     have kn := zaa hw7 hgk
     have k1 : k ≠ hC.next := by omega
     have k2 : k ≠ hC.next + 1 := by omega
     have kq' : k ≠ q := by omega
     have z1 : H.next ≠ q := by omega
     have z2 : H.next ≠ hC.next := by omega
     have z3 : H.next ≠ hC.next + 1 := by omega
     refine ⟨m, by omega, l ++ [e], by simp; omega, b2', d2', ⟨by simpa using hXl, hX2⟩, by omega, ⟨vk, hvk, ?_⟩, v', ?_, by simp, rfl, ?_, fun j x hj => ?_, ?_, by rw [wi]; simp⟩
     · simp only [AHeap.get_set, if_neg kq']
       rw [f3 k (by omega) (by omega), <- hH2]
       simp [k1, k2, hgk]
     · rw [hec, List.length_append]
       exact (f2.keep (fun j x hj hx => by
        have : j ≠ q := by omega
        simp [this, hx])).mono (fun j hj => by omega)
     · rw [if_neg z1, f3 _ (by omega) (by omega), <- hH2]
       simp [z2, z3, hzq]
     · have := zaa hw hj
       have e1 : j ≠ q := by omega
       have e2 : j ≠ hC.next := by omega
       have e3 : j ≠ hC.next + 1 := by omega
       rw [if_neg e1, f3 _ (by omega) (by omega), <- hH2]
       simp [e2, e3, hfz j x hj]
     · omega
theorem parse_does {H : AHeap} {i : Nat} {cs : List AV} {me n : Nat} (hi : H.get i = some (.cells (.int .i64 me :: .int .i64 n :: cs))) (b1 : me < 2 ^ 62) (b2 : n < 2 ^ 62) {bv : AV} {b : Bs} (hb : BtA bv b) (hl : b.length <= 1000000) :
  Does Tryz.prog G 68 [.ptr i 0, bv] H (PrsR (parse me n b) H) := by
 have key : ∀ {H1 : AHeap} {l : List En} {w : AV} {a b c d : Int} {o : Bool}, (∀ j x, H.get j = some x -> H1.get j = some x) -> CopG H H1 l w -> H.Wf -> Ghost H.next (.tuple [.agg [.int .u64 a, .int .u64 b, .int .u64 c, .int .u64 d, w], .bool o]) H1 (.tuple [.agg [.int .u64 a, .int .u64 b, .int .u64 c, .int .u64 d, entsV l], .bool o]) H := by
  intro H1 l w a b c d o hs hg hw
  obtain ⟨hg, hg0⟩ := hg
  rcases hg with ⟨h1, _, rfl⟩ | ⟨p, o', cap, op, pre, junk, rfl, a2, a3, a4, a5, a6, a7⟩
  · obtain rfl := List.length_eq_zero_iff.1 h1
    exact Ghost.back hw (by simp [AV.idLt, AV.allLt, entsV]) hs
  · by_cases h0 : l = []
    · exact absurd (hg0 h0) (by simp)
    · have e : AV.frz p (pre ++ (entsC l ++ junk)) (.sl p o' 3 l.length cap op) = entsV l := by
       have : l.isEmpty = false := by simpa using h0
       simp only [AV.frz, if_true, entsV, this, List.drop_left' a4, List.take_left' a5]
       rfl
      have := (Ghost.frz (n := H.next) (r := .tuple [.agg [.int .u64 a, .int .u64 b, .int .u64 c, .int .u64 d, .sl p o' 3 l.length cap op], .bool o]) a3)
      simp only [AV.frz, AV.frzs] at this e
      rw [e] at this
      exact this.trans (Ghost.back hw (by simp [AV.idLt, AV.allLt, entsV_lt]) (AHeap.frz_old hw a2 hs))
 refine Does.wfs fun hw ha => (parse_run hi b1 b2 hb hl).ghost ?_
 rintro r H1 ⟨h1, h2⟩
 generalize parse me n b = o at *
 cases o with
 | none =>
   obtain ⟨a, b, c, d, w, l, h3, rfl⟩ := h1
   exact ⟨_, _, key h2 h3 hw, ⟨a, b, c, d, l, rfl⟩, rfl⟩
 | some x =>
   obtain ⟨w, h3, rfl⟩ := h1
   exact ⟨_, _, key h2 h3 hw, rfl, rfl⟩
theorem copies_any {l : List En} {v : AV} (hv : EnF v l) (hl : l.length <= 1000000) (hr : ∀ e ∈ l, e.l.length <= 1000000) (H : AHeap) :
  ∃ w H2, Does Tryz.prog G 72 [v] H (fun r h => r = w /\ h = H2) /\ CopG H H2 l w /\ (∀ j, j < H.next -> H2.get j = H.get j) /\ H.next <= H2.next := by
 by_cases h0 : l = []
 · subst h0
   exact ⟨.nilsl, H, copies_does hv hl hr H, ⟨.inl ⟨rfl, rfl, rfl⟩, fun _ => rfl⟩, fun _ _ => rfl, Nat.le_refl _⟩
 · have hp : 0 < l.length := List.length_pos_iff.2 h0
   refine ⟨_, _, copies_x hv hl hp hr H, ⟨.inr ⟨_, 0, _, true, [], [], rfl, by omega, ?_, rfl, zaV l, by simp, Nat.le_refl _⟩, fun h => absurd h h0⟩, fun j hj => ?_, by simp only [AHeap.skip]; omega⟩
   · simp [AHeap.skip]
   · simp only [AHeap.skip]
     rw [if_neg (by omega)]
theorem entsC_sc : ∀ l : List En, (entsC l).all AV.scalar = true
 | [] => rfl
 | e :: l => by
   have := entsC_sc l
   have h2 := (RowA.rowV e.row).sc
   have e1 : entsC (e :: l) = [.int .u64 e.id, .int .u64 e.view, rowV e.row] ++ entsC l := rfl
   rw [e1, List.all_append, this]
   simp [h2]
theorem app_ents {H : AHeap} {l x : List En} {w u : AV} {b : Nat -> Prop} (h : Gr H 3 l.length (entsC l) w b) (hu : EnF u x) (h1 : l.length <= 1000000) (h2 : x.length <= 1000000) {nx : Nat} (hnx : nx = H.next) :
  ∃ v' eff, zan Tryz.prog 48 48 H.get nx w u = some (v', eff) /\ Gr (H.eff eff) 3 (l ++ x).length (entsC (l ++ x)) v' (fun j => b j \/ j = H.next) /\ (∀ j, ¬ b j -> j ≠ H.next -> (H.eff eff).get j = H.get j) /\ H.next <= (H.eff eff).next := by
 subst hnx
 by_cases h0 : x = []
 · subst h0
   rcases h with ⟨a1, a2, rfl⟩ | ⟨p, o, cap, op, pre, junk, rfl, a2, a3, a4, a5, a6, a7⟩
   · refine ⟨.nilsl, .same, ?_, .inl (by simp [a1, a2]), fun j _ _ => rfl, Nat.le_refl _⟩
     rcases hu with ⟨rfl, _⟩ | ⟨ts, rfl⟩ <;> simp [zan, zal, zaq]
   · have hs : AHeap.set H p (.cells (pre ++ (entsC l ++ junk))) = H := by
      obtain ⟨nn, gg⟩ := H
      simp only [AHeap.set]
      congr 1
      funext j
      split
      · rename_i e
        rw [e]; exact a3.symm
      · rfl
     refine ⟨.sl p o 3 l.length cap op, .put p (.cells (pre ++ (entsC l ++ junk))), ?_, ?_, fun j _ _ => by simp only [AHeap.eff, hs], by simp [AHeap.eff]⟩
     · have c1 : o + l.length * 3 <= pre.length + (entsC l ++ junk).length := by simp [a4, a5]
       rcases hu with ⟨rfl, _⟩ | ⟨ts, rfl⟩ <;> simp [zan, zal, zaq, splice_nil, a3, a7] <;> omega
     · simp only [AHeap.eff, hs, List.append_nil]
       exact .inr ⟨p, o, cap, op, pre, junk, rfl, .inl a2, a3, a4, a5, a6, a7⟩
 · have hp : 0 < x.length := List.length_pos_iff.2 h0
   obtain ⟨ts, rfl⟩ := hu.vsl hp
   have := h.app elemEn (m := x.length) (x := .vsl (entsC x ++ ts) x.length) (news := entsC x) (fun _ _ e => by cases e) rfl (by simp only [zal]; rw [show x.length * 3 = (entsC x).length by rw [zaV]]; simp) (entsC_sc x) (zaV x) hp (by omega) (by omega) (by omega) (nx := H.next) rfl
   rw [<- zaM, <- List.length_append] at this
   exact this
theorem slice_take {v : AV} {l : List En} (h : EnF v l) {n : Nat} (hn : n <= l.length) : ∃ w, EnF w (l.take n) /\ aslice Tryz.prog 48 v none (some (.int .i64 n)) none = some w := by
 obtain ⟨w, hw, hx⟩ := h.take n hn
 rcases hx with ⟨rfl, rfl⟩ | ⟨C, rfl, rfl⟩
 · have e0 : l = [] := by
    rcases h with ⟨_, h⟩ | ⟨ts, h⟩
    · exact h
    · cases h
   subst e0
   have : n = 0 := by simpa using hn
   subst this
   exact ⟨.nilsl, hw, by simp [aslice]⟩
 · refine ⟨_, hw, ?_⟩
   by_cases h0 : 0 < l.length
   · simp [aslice, h0, hn]
   · have e0 : l.length = 0 := by omega
     have : n = 0 := by omega
     subst this
     simp [aslice, e0]
def csC (me n : Nat) (c : Cs) (lv : AV) (rest : List AV) : List AV := .int .i64 me :: .int .i64 n :: .int .u64 c.view :: .int .u64 c.last :: lv :: .int .i64 c.agreed :: rest
structure CsOk (c : Cs) : Prop where
 list : c.list.length <= 200
 rows : ∀ e ∈ c.list, e.l.length <= 1000000
 agreed : c.agreed <= c.list.length
structure RcOk (x : Rc) : Prop where
 list : x.list.length <= 200
 rows : ∀ e ∈ x.list, e.l.length <= 1000000
 agreed : x.agreed < 2 ^ 64
def rcV (x : Rc) : AV := .agg [.int .u64 x.kind, .int .u64 x.view, .int .u64 x.last, .int .u64 x.agreed, entsV x.list]
def ApG (o : Option Cs) (H : AHeap) (i me n : Nat) (rest : List AV) (r : AV) (h : AHeap) : Prop := match o with
 | none => r = .bool false /\ ∀ j y, H.get j = some y -> h.get j = some y
 | some c => r = .bool true /\ ∃ lw, (∀ j y, j ≠ i -> H.get j = some y -> h.get j = some y) /\ h.get i = some (.cells (csC me n c lw rest)) /\ (EnF lw c.list \/ Gr h 3 c.list.length (entsC c.list) lw (fun j => H.next <= j)) /\ H.next <= h.next
theorem apply_run {H : AHeap} {i me n : Nat} {c : Cs} {lv : AV} {rest : List AV} (hi : H.get i = some (.cells (csC me n c lv rest))) (hlv : EnF lv c.list) (hc : CsOk c) {x : Rc} (hx : RcOk x) (hr5 : rest.length = 5) :
  Does Tryz.prog G 69 [.ptr i 0, rcV x] H (ApG (apply c x) H i me n rest) := by
 refine Does.wf Tryz.call69 fun hw _ => ?_
 have hin := zaa hw hi
 refine zad Tryz.call69 Tryz.func69 rfl (by simp [Tryz.f69]) ?_
 have e1 : i ≠ H.next := by omega
 have xv := EnF.entsV x.list
 have xs := xv.sc
 have xc := xv.cells
 have xl : alen Tryz.prog 48 (entsV x.list) = some (.int .i64 x.list.length) := xv.alen (e := 62) (by simp)
 have ls := hlv.sc
 have lc := hlv.cells
 unfold csC at hi
 have hg2 : ∀ {h : AHeap} {X : AObj}, h = (H.push X) -> ∀ j y, H.get j = some y -> h.get j = some y := fun {h X} e j y hj => by
  have := zaa hw hj
  have e : j ≠ H.next := by omega
  simp [e, hj, *]
 have hg3 : ∀ {X Y : AObj}, ∀ j y, j ≠ i -> H.get j = some y -> ((H.push X).set i Y).get j = some y := fun {X Y} j y hji hj => by
  have := zaa hw hj
  have e : j ≠ H.next := by omega
  simp [e, hj, hji]
 have hg4 : ∀ {X Y : AObj}, ∀ j y, ¬ j = i -> H.get j = some y -> (if j = i then some X else if j = H.next then some Y else H.get j) = some y := fun {X Y} j y hji hj => by
  have := zaa hw hj
  have e : j ≠ H.next := by omega
  simp [e, hj, hji]
 have hrr : ∃ r0 r1 r2 r3 r4, rest = [r0, r1, r2, r3, r4] := by
  match rest, hr5 with
  | [a, b, c, d, e], _ => exact ⟨a, b, c, d, e, rfl⟩
 obtain ⟨r0, r1, r2, r3, r4, rfl⟩ := hrr
 obtain ⟨O, hA⟩ : ∃ O, O = apply c x := ⟨_, rfl⟩
 rw [<- hA]
 unfold apply at hA
 simp [rcV, xs, xc]
 by_cases k1 : x.kind = 1
 · have k1' : (x.kind : Int) = 1 := by omega
   simp only [k1, if_true] at hA
   simp [k1, k1', xs, xc]
   by_cases v1 : x.view < c.view
   · have v1' : (x.view : Int) < c.view := by omega
     refine zaj [(1, 0), (5, 0)] zah (by kernel_rfl) ?_
     intro es hes
     simp [hi, e1, v1, v1', xs, xc]
     refine ⟨by subst hes; exact ⟨by kernel_rfl, by kernel_rfl⟩, by simp [rds, heapF, hi, e1], ?_⟩
     simp [v1] at hA
     simp [ApG, hA]
     exact hg2 rfl
   · have v1' : ¬ (x.view : Int) < c.view := by omega
     refine zaj [(1, 0), (5, 0), (9, 0)] zah (by kernel_rfl) ?_
     intro es hes
     simp [hi, e1, v1, v1', xs, xc, xl, -alen]
     refine ⟨by subst hes; exact ⟨by kernel_rfl, by kernel_rfl⟩, by simp [rds, heapF, hi, e1, xs, xc], ?_⟩
     by_cases z : 0 < x.list.length
     · have z' : (0 : Int) < x.list.length := by omega
       simp [v1, z] at hA
       simp [z, z', ApG, hA]
       exact hg2 rfl
     · have z' : ¬ (0 : Int) < x.list.length := by omega
       simp [v1, z] at hA
       simp [z, z', ApG, hA, hi, e1, ls, lc, csC]
       exact ⟨hg4, .inl hlv⟩
 by_cases k2 : x.kind = 2
 · have k2' : (x.kind : Int) = 2 := by omega
   simp only [k2, if_true] at hA
   simp [k2, k2', xs, xc]
   by_cases v1 : x.view < c.view
   · have v1' : (x.view : Int) < c.view := by omega
     refine zaj [(1, 0), (5, 0)] zah (by kernel_rfl) ?_
     intro es hes
     simp [hi, e1, v1, v1', xs, xc]
     refine ⟨by subst hes; exact ⟨by kernel_rfl, by kernel_rfl⟩, by simp [rds, heapF, hi, e1], ?_⟩
     simp [v1] at hA
     simp [ApG, hA]
     exact hg2 rfl
   have v1' : ¬ (x.view : Int) < c.view := by omega
   by_cases v2 : x.view < c.last
   · have v2' : (x.view : Int) < c.last := by omega
     refine zaj [(1, 0), (5, 0), (9, 0), (13, 0)] zah (by kernel_rfl) ?_
     intro es hes
     simp [hi, e1, v1, v1', v2, v2', xs, xc]
     refine ⟨by subst hes; exact ⟨by kernel_rfl, by kernel_rfl⟩, by simp [rds, heapF, hi, e1], ?_⟩
     simp [v1, v2] at hA
     simp [ApG, hA]
     exact hg2 rfl
   have v2' : ¬ (x.view : Int) < c.last := by omega
   obtain ⟨w, hw', hsl⟩ := slice_take hlv hc.agreed
   refine zaj [(1, 0), (5, 0), (9, 0), (13, 0), (18, 0), (22, 0), (26, 0)] zah (by kernel_rfl) ?_
   intro es hes
   simp [zaf, -zag, hi, e1, v1, v1', v2, v2', xs, xc, ls, lc, hsl, -aslice]
   refine ⟨_, _, begins_does xv hw' (by have := hx.list; omega) hx.rows _, Nat.le_refl _, ?_⟩
   obtain ⟨B, hB⟩ : ∃ B, B = begins x.list (c.list.take c.agreed) := ⟨_, rfl⟩
   rw [<- hB] at hA ⊢
   refine ad_go (fun T' => T' 0 = .ptr i 0 /\ T' 3 = .ptr H.next 0 /\ T' 46 = .bool false /\ T' 58 = .bool B) (by simp [v1, v1', v2, v2']) ?_
   rintro T1 ⟨a0, a3, a46, a58⟩
   cases B with
   | false =>
     simp [zaf, -zag, a0, a3, a46, a58, hi, e1, xs, xc, ls, lc]
     refine ⟨by subst hes; exact ⟨by kernel_rfl, by kernel_rfl⟩, by simp [rds, heapF, hi, e1, xs, xc, ls, lc], ?_⟩
     simp [v1, v2] at hA
     simp [ApG, hA]
     exact hg2 rfl
   | true =>
     simp [zaf, -zag, a0, a3, a46, a58, hi, e1, xs, xc, ls, lc]
     refine ⟨by subst hes; exact ⟨by kernel_rfl, by kernel_rfl⟩, by simp [rds, heapF, hi, e1, xs, xc, ls, lc], ?_⟩
     simp [v1, v2] at hA
     refine zaj [(4, 0), (6, 0), (6, 12), (8, 0), (8, 12), (8, 15)] zah (by kernel_rfl) ?_
     intro es hes
     simp [a0, a3, hi, e1, xs, xc, ls, lc]
     refine ⟨by subst hes; exact ⟨by kernel_rfl, by kernel_rfl⟩, by simp [rds, heapF, hi, e1, e1.symm, xs, xc, ls, lc], ?_⟩
     simp [ApG, hA, hi, e1, xs, xc, ls, lc, csC]
     exact ⟨hg4, .inl xv⟩
 by_cases k3 : x.kind = 3
 · have k3' : (x.kind : Int) = 3 := by omega
   simp [k3] at hA
   simp [k3, k3', xs, xc]
   obtain ⟨w, H2, hcp, hcg, hco, hcn⟩ := copies_any (G := G) hlv (by have := hc.list; omega) hc.rows (H.push (.cells [.int .u64 3, .int .u64 x.view, .int .u64 x.last, .int .u64 x.agreed, entsV x.list]))
   obtain ⟨v', eff, f1, f2, f3, f4⟩ := app_ents hcg.1 xv (by have := hc.list; omega) (by have := hx.list; omega) (nx := H2.next) rfl
   simp only [AHeap.next_push] at hco hcn f2
   have q1 : H2.get i = _ := (hco i (by omega)).trans (by simp [e1, hi]; rfl)
   have q2 : H2.get H.next = _ := (hco H.next (by omega)).trans (by simp; rfl)
   have ws := hcg.1.sc
   have wc := hcg.1.cells
   refine zaj [(3, 0), (6, 0), (6, 5)] zah (by kernel_rfl) ?_
   intro es hes
   simp [zaf, -zag, hi, e1, ls, lc]
   refine ⟨_, _, hcp, by simpa using hcn, ?_⟩
   refine ad_go (fun T' => T' 0 = .ptr i 0 /\ T' 3 = .ptr H.next 0 /\ T' 82 = w) (by simp) ?_
   rintro T1 ⟨a0, a3, a82⟩
   simp [zaf, -zag, a0, a3, a82, q1, q2, xs, xc, ws, wc, -zan]
   rw [f1]
   simp [zaf, -zag, a0, a3, a82, q1, q2, xs, xc, ws, wc, -zan]
   refine ⟨by subst hes; exact ⟨by kernel_rfl, by kernel_rfl⟩, by simp [rds, heapF, hi, e1, e1.symm, xs, xc, ls, lc, q1, q2], ?_⟩
   have vs := f2.sc
   have vc := f2.cells
   have hk2 : ∀ j y, H.get j = some y -> (H2.eff eff).get j = some y := fun j y hj => by
    have := zaa hw hj
    rw [f3 j (by simp; omega) (by omega), hco j (by omega)]
    have e : j ≠ H.next := by omega
    simp [e, hj]
   have q3 := hk2 i _ hi
   refine zab (listed_live f2 (by simp; have := hc.list; have := hx.list; omega)) ?_
   rintro r h ⟨rfl, rfl⟩
   obtain ⟨B, hB⟩ : ∃ B, B = listed (c.list ++ x.list) := ⟨_, rfl⟩
   rw [<- hB] at hA ⊢
   cases B with
   | false =>
     simp at hA
     simp [ApG, hA]
     exact hk2
   | true =>
     simp at hA
     simp [a0, a3, q3, ls, lc, vs, vc, ApG, hA, csC]
     refine ⟨fun j y hji hj => ?_, .inr ?_, by omega⟩
     · rw [if_neg hji]; exact hk2 j y hj
     · have f2' := f2.mono (b' := fun j => H.next <= j) (fun j hj => by omega)
       rw [List.length_append] at f2'
       refine f2'.keep fun j y hj hy => ?_
       have : j ≠ i := by omega
       simp [this, hy]
 by_cases k4 : x.kind = 4
 · have k4' : (x.kind : Int) = 4 := by omega
   have wl : IntKind.u64.wrap (x.list.length : Int) = x.list.length := IntWalk.u64_in _ (by have := hx.list; omega)
   rw [if_neg k1, if_neg k2, if_neg k3, if_pos k4] at hA
   simp [k4, k4', xs, xc, xl, wl, -alen]
   by_cases z : x.list.length < x.agreed
   · have z' : (x.list.length : Int) < x.agreed := by omega
     rw [if_pos z] at hA
     simp [z, z', ApG, hA]
     exact hg2 rfl
   · have z' : ¬ (x.list.length : Int) < x.agreed := by omega
     rw [if_neg z] at hA
     have wa : IntKind.i64.wrap (x.agreed : Int) = x.agreed := IntWalk.i64_in _ (by have := hx.list; omega)
     simp [z, z']
     refine zaj [(5, 0), (7, 0), (7, 16), (9, 0), (9, 16), (9, 19), (12, 0), (12, 16), (12, 19), (12, 22)] zah (by kernel_rfl) ?_
     intro es hes
     simp [hi, e1, xs, xc, ls, lc, wa]
     refine ⟨by subst hes; exact ⟨by kernel_rfl, by kernel_rfl⟩, by simp [rds, heapF, hi, e1, e1.symm, xs, xc, ls, lc], ?_⟩
     simp [ApG, hA, hi, e1, xs, xc, ls, lc, csC]
     exact ⟨hg4, .inl xv⟩
 have k1' : ¬ (x.kind : Int) = 1 := by omega
 have k2' : ¬ (x.kind : Int) = 2 := by omega
 have k3' : ¬ (x.kind : Int) = 3 := by omega
 have k4' : ¬ (x.kind : Int) = 4 := by omega
 simp [k1, k2, k3, k4] at hA
 simp [k1', k2', k3', k4', xs, xc, ApG, hA]
 exact hg2 rfl
def ApR (o : Option Cs) (H : AHeap) (i me n : Nat) (rest : List AV) (r : AV) (h : AHeap) : Prop := match o with
 | none => r = .bool false /\ h = H
 | some c => r = .bool true /\ ∃ lw, EnF lw c.list /\ h.get i = some (.cells (csC me n c lw rest)) /\ ∀ j y, j ≠ i -> H.get j = some y -> h.get j = some y
theorem apply_does {H : AHeap} {i me n : Nat} {c : Cs} {lv : AV} {rest : List AV} (hi : H.get i = some (.cells (csC me n c lv rest))) (hlv : EnF lv c.list) (hc : CsOk c) {x : Rc} (hx : RcOk x) (hr5 : rest.length = 5) :
  Does Tryz.prog G 69 [.ptr i 0, rcV x] H (ApR (apply c x) H i me n rest) := by
 refine Does.wfs fun hw ha => (apply_run hi hlv hc hx hr5).ghost ?_
 intro r H1 h1
 have hin := zaa hw hi
 cases hap : apply c x with
 | none =>
   rw [hap] at h1
   obtain ⟨rfl, h2⟩ := h1
   exact ⟨_, H, Ghost.back hw rfl h2, rfl, rfl⟩
 | some c' =>
   rw [hap] at h1
   obtain ⟨rfl, lw, h2, h3, h4, h5⟩ := h1
   rcases h4 with h4 | ⟨_, a2, rfl⟩ | ⟨p, o, cap, op, pre, junk, rfl, a2, a3, a4, a5, a6, a7⟩
   · exact ⟨_, _, Ghost.refl, rfl, lw, h4, h3, h2⟩
   · refine ⟨_, _, Ghost.refl, rfl, .nilsl, .inl ⟨rfl, ?_⟩, h3, h2⟩
     have := zaV c'.list
     rw [a2] at this
     simp at this
     exact List.length_eq_zero_iff.1 (by omega)
   · have e : AV.frz p (pre ++ (entsC c'.list ++ junk)) (.sl p o 3 c'.list.length cap op) = .vsl (entsC c'.list) c'.list.length := by
      simp only [AV.frz, if_true, List.drop_left' a4, List.take_left' a5]
     refine ⟨_, _, Ghost.frz a3, rfl, _, .inr ⟨[], by rw [List.append_nil]⟩, ?_, fun j y hj hy => frz_old1 hw a2 hy (h2 j y hj hy)⟩
     rw [zaH h3 (by omega)]
     have := (hw i _ hi).2
     simp only [AObj.cellsList, csC, AV.allLt, Bool.and_eq_true] at this
     simp only [csC, AV.frzs, AV.frzs_lt a2 _ this.2.2.2.2.2.2, e]
     rfl
end Go.Proofs.YtekbjlihciedjaaGreatDoor
