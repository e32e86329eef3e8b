/-
  Own library of this claim, part 4: texts one behind the other.
-/
import Derived.Test.YtekbjlihciedjaaGreatDoorLibRepRefusesC
set_option maxRecDepth 100000
set_option maxHeartbeats 8000000
set_option linter.unusedVariables false
set_option linter.unusedSimpArgs false
namespace Go.Rp
open Go Go.Abs
theorem unle_lt : ∀ b : Bs, unle b < 256 ^ b.length
 | [] => by simp [unle]
 | x :: r => by
   have h1 := unle_lt r
   have h2 : x.toNat < 256 := x.toNat_lt
   rw [unle, List.length_cons, Nat.pow_succ]
   omega
theorem unle_or {m x : Nat} (hm : m < 2 ^ 56) (hx : x < 256) :
  IntKind.u64.wrap ((((IntKind.u64.wrap ((m : Int) * 2 ^ min 8 IntKind.u64.bits) % 2 ^ IntKind.u64.bits).toNat ||| x % 2 ^ IntKind.u64.bits : Nat)) : Int) = ((x + 256 * m : Nat) : Int) := by
 have b1 : (2 : Int) ^ min 8 IntKind.u64.bits = 256 := rfl
 have b2 : (2 : Int) ^ IntKind.u64.bits = 18446744073709551616 := by rfl
 have b4 : x % 2 ^ IntKind.u64.bits = x := Nat.mod_eq_of_lt (Nat.lt_of_lt_of_le hx (by decide))
 rw [b1, b2, b4]
 simp only [wrap_u64]
 have e1 : ((m : Int) * 256 % 18446744073709551616 % 18446744073709551616).toNat = 2 ^ 8 * m := by omega
 have e2 := Nat.two_pow_add_eq_or_of_lt (i := 8) (show x < 2 ^ 8 from hx) m
 rw [e1, <- e2]
 omega
theorem drop_get {b : Bs} {i : Nat} {x : UInt8} (h : b[i]? = some x) : b.drop i = x :: b.drop (i + 1) := by
 have hl : i < b.length := by
  rcases Nat.lt_or_ge i b.length with q | q
  · exact q
  · rw [List.getElem?_eq_none q] at h; simp at h
 rw [List.getElem?_eq_getElem hl] at h
 rw [List.drop_eq_getElem_cons hl, Option.some.inj h]
theorem strCs_at {b : Bs} {ts : List AV} {i : Nat} {x : UInt8} (h : b[i]? = some x) : (strCs b ++ ts)[i]? = some (.int .u8 x.toNat) := by
 have hl : i < b.length := by
  rcases Nat.lt_or_ge i b.length with q | q
  · exact q
  · rw [List.getElem?_eq_none q] at h; simp at h
 rw [List.getElem?_append_left (by rw [zac]; exact hl)]
 simp [strCs, h]
theorem shr8 (u : Nat) : (u : Int).fdiv (2 ^ 8) = ((u / 256 : Nat) : Int) := by
 rw [Int.fdiv_eq_ediv_of_nonneg _ (by decide)]
 omega
def Buf (H0 H : AHeap) (i : Nat) (v : AV) (bs : Bs) : Prop := ∃ i' cap op junk, v = .sl i' 0 1 bs.length cap op /\ (i' = i \/ H0.next <= i') /\ H.get i' = some (.cells (strCs bs ++ junk)) /\ bs.length + junk.length = cap /\
 (∀ j x, j ≠ i -> H0.get j = some x -> H.get j = some x) /\ H0.next <= H.next
theorem crc_in (s : BitVec 32) (x : UInt8) : IntKind.u32.wrap ((s.toNat % 2 ^ IntKind.u32.bits ^^^ (IntKind.u32.wrap (x.toNat : Int) % 2 ^ IntKind.u32.bits).toNat : Nat) : Int) = ((s.toNat ^^^ x.toNat : Nat) : Int) := by
 have hs := s.isLt
 have hx : x.toNat < 256 := x.toNat_lt
 have b2 : (2 : Int) ^ IntKind.u32.bits = 4294967296 := by rfl
 have e1 : s.toNat % 2 ^ IntKind.u32.bits = s.toNat := Nat.mod_eq_of_lt hs
 have e2 : (IntKind.u32.wrap (x.toNat : Int) % 4294967296).toNat = x.toNat := by rw [IntKind.wrap_u32]; omega
 have h3 : s.toNat ^^^ x.toNat < 2 ^ 32 := Nat.xor_lt_two_pow hs (by omega)
 rw [b2, e1, e2, IntKind.wrap_u32]
 omega
theorem crc_bit (s : BitVec 32) : IntKind.u32.wrap (((((s.toNat : Int).fdiv (2 ^ min 1 IntKind.u32.bits) % 2 ^ IntKind.u32.bits).toNat ^^^
  (IntKind.u32.wrap ((3988292384 % 2 ^ IntKind.u32.bits &&& (IntKind.u32.wrap (-IntKind.u32.wrap ((s.toNat % 2 ^ IntKind.u32.bits &&& 1 % 2 ^ IntKind.u32.bits : Nat) : Int)) % 2 ^ IntKind.u32.bits).toNat : Nat) : Int) % 2 ^ IntKind.u32.bits).toNat : Nat)) : Int) = ((crcBit s).toNat : Int) := by
 have hs := s.isLt
 have b1 : (2 : Int) ^ min 1 IntKind.u32.bits = 2 := rfl
 have b2 : (2 : Int) ^ IntKind.u32.bits = 4294967296 := by rfl
 have b3 : 1 % 2 ^ IntKind.u32.bits = 1 := rfl
 have b5 : 3988292384 % 2 ^ IntKind.u32.bits = 3988292384 := rfl
 have e1 : s.toNat % 2 ^ IntKind.u32.bits = s.toNat := Nat.mod_eq_of_lt hs
 have e2 : ((s.toNat : Int).fdiv 2 % 4294967296).toNat = s.toNat / 2 := by rw [Int.fdiv_eq_ediv_of_nonneg _ (by decide)]; omega
 have e3 : IntKind.u32.wrap ((s.toNat % 2 : Nat) : Int) = ((s.toNat % 2 : Nat) : Int) := by rw [IntKind.wrap_u32]; omega
 have e4 : (IntKind.u32.wrap (-((s.toNat % 2 : Nat) : Int)) % 4294967296).toNat = (2 ^ 32 - s.toNat % 2) % 2 ^ 32 := by rw [IntKind.wrap_u32]; omega
 rw [b1, b2, b3, b5, e1, and1, e2, e3, e4]
 obtain ⟨q, hq⟩ : ∃ q, q = (3988292384 &&& (2 ^ 32 - s.toNat % 2) % 2 ^ 32) := ⟨_, rfl⟩
 have hq2 : q < 2 ^ 32 := by rw [hq]; exact Nat.and_lt_two_pow _ (Nat.mod_lt _ (by decide))
 have e5 : (IntKind.u32.wrap (q : Int) % 4294967296).toNat = q := by rw [IntKind.wrap_u32]; omega
 rw [<- hq, e5]
 have e6 : (crcBit s).toNat = s.toNat / 2 ^^^ q := by
  rw [hq, crcBit, BitVec.toNat_xor, BitVec.toNat_ushiftRight, BitVec.toNat_and, BitVec.toNat_neg, BitVec.toNat_and, Nat.shiftRight_eq_div_pow, Nat.pow_one]
  congr 2
  have : (1#32).toNat = 1 := rfl
  rw [this, and1]
 have h3 : s.toNat / 2 ^^^ q < 2 ^ 32 := Nat.xor_lt_two_pow (by omega) hq2
 rw [e6, IntKind.wrap_u32]
 omega
theorem crc_not (s : BitVec 32) : IntKind.u32.wrap ((((if IntKind.u32.signed = true then -1 else IntKind.u32.max) % 2 ^ IntKind.u32.bits).toNat ^^^ s.toNat % 2 ^ IntKind.u32.bits : Nat) : Int) = ((~~~ s).toNat : Int) := by
 have hs := s.isLt
 have e1 : s.toNat % 2 ^ IntKind.u32.bits = s.toNat := Nat.mod_eq_of_lt hs
 have e2 : ((if IntKind.u32.signed = true then -1 else IntKind.u32.max) % 2 ^ IntKind.u32.bits).toNat = 2 ^ 32 - 1 := by rfl
 have e3 : s.toNat ^^^ (2 ^ 32 - 1) = 2 ^ 32 - 1 - s.toNat := by
  have e : (s ^^^ BitVec.allOnes 32).toNat = s.toNat ^^^ (2 ^ 32 - 1) := by rw [BitVec.toNat_xor, BitVec.toNat_allOnes]
  rw [<- e, BitVec.xor_allOnes, BitVec.toNat_not]
 rw [e1, e2, Nat.xor_comm, e3, BitVec.toNat_not, IntKind.wrap_u32]
 omega
theorem optAll_ints {get : Nat -> Option AObj} {n : Nat} : ∀ b : Bs, zaw ((strCs b).map (AV.res get (n + 1))) = some (strCs b)
 | [] => rfl
 | x :: b => by
   have := optAll_ints (get := get) (n := n) b
   have e : strCs (x :: b) = .int .u8 x.toNat :: strCs b := rfl
   rw [e, List.map_cons]
   have e2 : AV.res get (n + 1) (.int .u8 x.toNat) = some (.int .u8 x.toNat) := rfl
   rw [e2, zaw, this]
   rfl
theorem res_buf {get : Nat -> Option AObj} {i o len cap : Nat} {op : Bool} {b : Bs} {junk : List AV} (hg : get i = some (.cells (strCs b ++ junk))) (hl : o + len <= b.length) :
  AV.res get 2 (.sl i o 1 len cap op) = some (bV ((b.drop o).take len)) := by
 have e : (((strCs b ++ junk).drop o).take (len * 1)) = strCs ((b.drop o).take len) := by
  rw [drop_strCs (by omega), Nat.mul_one, List.take_append_of_le_length (by rw [zac, List.length_drop]; omega)]
  unfold strCs
  rw [List.map_take]
 have e2 : ((b.drop o).take len).length = len := by rw [List.length_take, List.length_drop]; omega
 rw [show AV.res get 2 (.sl i o 1 len cap op) = (match get i with | some (.cells cs) => (zaw (((cs.drop o).take (len * 1)).map (AV.res get 1))).map (.vsl · len) | _ => none) from rfl, hg]
 simp only [e]
 rw [optAll_ints (n := 0), Option.map_some, bV, e2]
theorem res_buf0 {get : Nat -> Option AObj} {i cap : Nat} {op : Bool} {b : Bs} {junk : List AV} (hg : get i = some (.cells (strCs b ++ junk))) : AV.res get 2 (.sl i 0 1 b.length cap op) = some (bV b) := by
 have := res_buf (cap := cap) (op := op) (o := 0) (len := b.length) hg (by omega)
 simpa using this
theorem BtA.len {bv : AV} {bs : Bs} (hb : BtA bv bs) : zar bv = some bs.length := by rcases hb with ⟨rfl, rfl⟩ | ⟨ts, rfl⟩ <;> rfl
theorem BtA.first {bv : AV} {bs : Bs} (hb : BtA bv bs) (get : Nat -> Option AObj) : zaj get 1 bs.length bv = some (strCs bs) := by
 rcases hb with ⟨rfl, rfl⟩ | ⟨ts, rfl⟩
 · rfl
 · simp [zaj, zac]
theorem BtA.sc {bv : AV} {bs : Bs} (hb : BtA bv bs) : bv.scalar = true := by rcases hb with ⟨rfl, rfl⟩ | ⟨ts, rfl⟩ <;> rfl
theorem BtA.ni {bv : AV} {bs : Bs} (hb : BtA bv bs) : ∀ k n, bv ≠ .int k n := by
 intro k n
 rcases hb with ⟨rfl, rfl⟩ | ⟨ts, rfl⟩ <;> simp
theorem za7 (l : Bs) : (strCs l).all AV.scalar = true := by simp [strCs]
theorem BtA.first0 {bv : AV} {bs : Bs} (hb : BtA bv bs) (h0 : bs.length = 0) (get : Nat -> Option AObj) : zaj get 1 0 bv = some [] := by
 have e : bs = [] := List.length_eq_zero_iff.1 h0
 subst e
 exact hb.first get
theorem take_strCs (bs : Bs) : List.take bs.length (strCs bs) = strCs bs := by rw [<- zac, List.take_length]
theorem BtA.cells {bv : AV} {bs : Bs} (hb : BtA bv bs) : bv.cells = [bv] := by rcases hb with ⟨rfl, rfl⟩ | ⟨ts, rfl⟩ <;> rfl
end Go.Rp
namespace Go.Proofs.YtekbjlihciedjaaGreatDoor
open Go Go.Abs Go.Rp
variable {G : Nat -> Option AV}
theorem sumNum_does {bv : AV} {b : Bs} (hb : BtA bv b) (hl : b.length <= 8) (H : AHeap) : Does Tryz.prog G 144 [bv] H fun r h => r = .int .u64 (unle b) /\ h = H := by
 refine zad Tryz.call144 Tryz.func144 rfl (by simp [Tryz.f144]) ?_
 have hlv : alen Tryz.prog 22 bv = some (.int .i64 b.length) := by
  rcases hb with ⟨rfl, rfl⟩ | ⟨ts, rfl⟩ <;> simp [alen]
 have w1 : IntKind.i64.wrap ((b.length : Int) - 1) = (b.length : Int) - 1 := IntWalk.i64_in _ (by omega)
 simp [hlv, w1, -alen]
 refine zaG (fun m T' H' => H' = H /\ m <= b.length /\ T' 0 = bv /\ T' 3 = .int .u64 (unle (b.drop m)) /\ T' 4 = .int .i64 ((m : Int) - 1)) b.length ?_ ?_
 · exact ⟨rfl, Nat.le_refl _, by simp, by simp [unle], by simp⟩
 rintro m T H1 ⟨rfl, hm, t0, t3, t4⟩
 cases m with
 | zero => simp [t0, t3, t4]
 | succ m =>
   obtain ⟨ts, rfl⟩ : ∃ ts, bv = .vsl (strCs b ++ ts) b.length := by
    rcases hb with ⟨_, h⟩ | h
    · rw [h] at hm; simp at hm
    · exact h
   have he : b[m]? = some b[m] := List.getElem?_eq_getElem (by omega)
   generalize b[m] = x at he
   have hat := strCs_at (ts := ts) he
   have hd := drop_get he
   have hx : x.toNat < 256 := x.toNat_lt
   have h1 := unle_lt (b.drop (m + 1))
   have h2 : unle (b.drop (m + 1)) < 2 ^ 56 := by
    refine Nat.lt_of_lt_of_le h1 ?_
    rw [show (2 : Nat) ^ 56 = 256 ^ 7 by decide]
    exact Nat.pow_le_pow_right (by omega) (by rw [List.length_drop]; omega)
   have h3 : unle (b.drop m) = x.toNat + 256 * unle (b.drop (m + 1)) := by rw [hd, unle]
   generalize unle (b.drop (m + 1)) = q at *
   have w2 := unle_or h2 hx
   have w3 : IntKind.u64.wrap (x.toNat : Int) = (x.toNat : Int) := IntWalk.u64_in _ (by omega)
   have w4 : IntKind.i64.wrap ((m : Int) - 1) = (m : Int) - 1 := IntWalk.i64_in _ (by omega)
   have c1 : ((m + 1 : Nat) : Int) - 1 = m := by omega
   rw [c1] at t4
   have c2 : (m : Int) < b.length := by omega
   simp [t0, t3, t4, hat, c2, w2, w3, w4]
   exact ⟨m, by omega, by omega, by rw [h3]; omega, rfl⟩
theorem put_run {H : AHeap} {i : Nat} {bv : AV} {bs : Bs} (hb : Buf H H i bv bs) (hl : bs.length <= 1000000000) {u : Nat} (hu : u < 2 ^ 64) {k : Nat} (hk : k <= 8) :
  Does Tryz.prog G 211 [bv, .int .u64 u, .int .i64 k] H fun r h => Buf H h i r (bs ++ le k u) := by
 refine Does.wf Tryz.call211 fun hw _ => ?_
 refine zad Tryz.call211 Tryz.func211 rfl (by simp [Tryz.f211]) ?_
 simp
 refine zai (fun m T' H' => ∃ so u', m <= k /\ u' < 2 ^ 64 /\ le k u = so ++ le m u' /\ so.length + m = k /\ Buf H H' i (T' 0) (bs ++ so) /\ T' 1 = .int .u64 u' /\ T' 7 = .int .i64 k /\ T' 8 = .int .i64 ((k - m : Nat) : Int)) k ?_ ?_
 · exact ⟨[], u, Nat.le_refl _, hu, rfl, by simp, by simpa using hb, by simp, by simp, by simp⟩
 rintro m T H1 ⟨so, u', hm, hu', he, hsm, ⟨i', cap, op, junk, t0, hi, hg, hj, hs, hn⟩, t1, t7, t8⟩ hw1 _
 cases m with
 | zero =>
   have c1 : ¬ ((k - 0 : Nat) : Int) < k := by omega
   have e0 : le k u = so := by simpa [le] using he
   simp [t0, t1, t7, t8]
   exact ⟨i', cap, op, junk, by rw [e0]; simp, hi, by rw [e0]; exact hg, by rw [e0]; exact hj, hs, hn⟩
 | succ m =>
   have n1 : i' ≠ H1.next := by have := zaa hw1 hg; omega
   have c1 : ((k - (m + 1) : Nat) : Int) < k := by omega
   obtain ⟨q, hq⟩ : ∃ q, q = k - (m + 1) := ⟨_, rfl⟩
   rw [<- hq] at t8 c1
   have w1 : IntKind.i64.wrap ((q : Int) + 1) = ((k - m : Nat) : Int) := by rw [IntWalk.i64_in _ (by omega)]; omega
   have tk : List.take (bs.length + so.length) (strCs (bs ++ so) ++ junk) = strCs (bs ++ so) := take_cs (by simp)
   have dk : List.drop (bs.length + so.length + 1) (strCs (bs ++ so) ++ junk) = junk.drop 1 := drop_cs (by simp)
   have hsh := shr8 u'
   simp at hj
   have hle : le (m + 1) u' = UInt8.ofNat (u' % 256) :: le m (u' / 256) := rfl
   rw [hle] at he
   have w3 : (AV.int .u8 (IntKind.u8.wrap (u' : Int))) = .int .u8 (UInt8.ofNat (u' % 256)).toNat := by rw [IntKind.wrap_u8]; simp
   have hfin : ∀ {H2 : AHeap} {j' cap' : Nat} {op' : Bool} {junk' : List AV}, (j' = i \/ H.next <= j') -> H2.get j' = some (.cells (strCs (bs ++ so) ++ AV.int .u8 (IntKind.u8.wrap (u' : Int)) :: junk')) -> bs.length + so.length + 1 + junk'.length = cap' ->
     (∀ j x, j ≠ i -> H.get j = some x -> H2.get j = some x) -> H.next <= H2.next ->
     ∃ m_1, m_1 < m + 1 /\ m_1 <= k /\ ∃ so_1 u_1, u_1 < 18446744073709551616 /\ le k u = so_1 ++ le m_1 u_1 /\ so_1.length + m_1 = k /\ Buf H H2 i (.sl j' 0 1 (bs.length + so.length + 1) cap' op') (bs ++ so_1) /\ (u' : Int).fdiv (2 ^ min 8 IntKind.u64.bits) = u_1 /\ ((k - m : Nat) : Int) = ((k - m_1 : Nat) : Int) := by
    intro H2 j' cap' op' junk' h1 h2 h3 h4 h5
    refine ⟨m, by omega, by omega, so ++ [UInt8.ofNat (u' % 256)], u' / 256, by omega, by rw [he]; simp, by simp; omega, ⟨j', cap', op', junk', by simp; omega, h1, ?_, by simp; omega, h4, h5⟩, hsh, rfl⟩
    rw [h2, w3]
    simp [strCs]
   have hold : ∀ j x, j ≠ i -> H.get j = some x -> j ≠ i' /\ j < H1.next /\ H1.get j = some x := by
    intro j x h1 h2
    have h3 := hs j x h1 h2
    have h4 := zaa hw1 h3
    have h5 := zaa hw h2
    exact ⟨by rcases hi with h | h <;> omega, h4, h3⟩
   by_cases hc : bs.length + so.length + 1 <= cap
   · have hc2 : bs.length + so.length + 1 <= bs.length + so.length + junk.length := by omega
     simp [t0, t1, t7, t8, c1, w1, hg, n1, hc, hc2, tk, dk, zac]
     refine hfin (junk' := junk.tail) hi (by simp) (by simp; omega) (fun j x h1 h2 => ?_) (by simp; omega)
     obtain ⟨h3, h4, h5⟩ := hold j x h1 h2
     have h6 : j ≠ H1.next := by omega
     simp [h3, h5, h6]
   · have hc2 : bs.length + so.length + 1 <= 140737488355328 := by omega
     have hc3 : bs.length + so.length + 1 <= 4611686018427387904 := by omega
     cases op
     · simp [t0, t1, t7, t8, c1, w1, hg, n1, hc, hc2, hc3, tk, dk, zac]
       refine hfin (.inr (by omega)) (by simp; rfl) (by simp) (fun j x h1 h2 => ?_) (by simp; omega)
       obtain ⟨h3, h4, h5⟩ := hold j x h1 h2
       have h6 : j ≠ H1.next := by omega
       have h7 : j ≠ H1.next + 1 := by omega
       simp [h3, h5, h6, h7]
     · simp [t0, t1, t7, t8, c1, w1, hg, n1, hc, hc2, hc3, tk, dk, zac]
       refine hfin (.inr (by omega)) (by simp; rfl) (by simp) (fun j x h1 h2 => ?_) (by simp; omega)
       obtain ⟨h3, h4, h5⟩ := hold j x h1 h2
       have h6 : j ≠ H1.next := by omega
       have h7 : j ≠ H1.next + 1 := by omega
       simp [h3, h5, h6, h7]
theorem crcS_does {bv : AV} {b : Bs} (hb : BtA bv b) (hl : b.length <= 1000000000) (H : AHeap) : Does Tryz.prog G 212 [bv] H fun r h => r = .int .u32 (crc b).toNat /\ h = H := by
 refine zad Tryz.call212 Tryz.func212 rfl (by simp [Tryz.f212]) ?_
 have hlv : alen Tryz.prog 22 bv = some (.int .i64 b.length) := by
  rcases hb with ⟨rfl, rfl⟩ | ⟨ts, rfl⟩ <;> simp [alen]
 simp [hlv, -alen]
 refine zaG (fun m T' H' => ∃ (i : Nat) (s : BitVec 32), i + m = b.length /\ H' = H /\ T' 6 = bv /\ T' 7 = .int .i64 b.length /\ T' 8 = .int .i64 i /\ T' 3 = .int .u32 s.toNat /\ b.foldl crcByte (~~~ 0#32) = (b.drop i).foldl crcByte s) b.length ?_ ?_
 · exact ⟨0, ~~~ 0#32, by simp, rfl, by simp, by simp, by simp, by simp, by simp⟩
 rintro m T H1 ⟨i, s, him, rfl, t6, t7, t8, t3, hf⟩
 by_cases hi : i < b.length
 · obtain ⟨ts, rfl⟩ : ∃ ts, bv = .vsl (strCs b ++ ts) b.length := by
    rcases hb with ⟨_, h⟩ | h
    · rw [h] at hi; simp at hi
    · exact h
   have he : b[i]? = some b[i] := List.getElem?_eq_getElem hi
   generalize b[i] = x at he
   have hat := strCs_at (ts := ts) he
   have hd := drop_get he
   rw [hd, List.foldl_cons] at hf
   have c2 : (i : Int) < b.length := by omega
   simp [t6, t7, t8, t3, hat, c2, hi]
   refine zaG (fun m' T' H' => ∃ (j : Nat) (s' : BitVec 32), j + m' = 8 /\ H' = H1 /\ T' 6 = .vsl (strCs b ++ ts) b.length /\ T' 7 = .int .i64 b.length /\ T' 8 = .int .i64 i /\ T' 16 = .int .i64 j /\ T' 3 = .int .u32 s'.toNat /\ crcByte s x = crcBits m' s') 8 ?_ ?_
   · refine ⟨0, s ^^^ BitVec.ofNat 32 x.toNat, rfl, rfl, by simp [t6], by simp [t7], by simp [t8], by simp, ?_, rfl⟩
     simp [t3]
     exact crc_in s x
   · rintro m' T H1 ⟨j, s', hj, rfl, t6, t7, t8, t16, t3, hc⟩
     by_cases hj8 : j < 8
     · obtain ⟨m', rfl⟩ : ∃ q, m' = q + 1 := ⟨m' - 1, by omega⟩
       rw [crcBits] at hc
       have c3 : (j : Int) < 8 := by omega
       simp [t6, t7, t8, t3, t16, c3]
       refine ⟨m', by omega, j + 1, by omega, ?_, crcBit s', crc_bit s', hc⟩
       rw [IntWalk.i64_in _ (by omega)]; push_cast; rfl
     · have hj0 : m' = 0 := by omega
       subst hj0
       have c3 : ¬ (j : Int) < 8 := by omega
       have w1 : IntKind.i64.wrap ((i : Int) + 1) = ((i + 1 : Nat) : Int) := by rw [IntWalk.i64_in _ (by omega)]; omega
       simp [t6, t7, t8, t3, t16, c3, w1]
       rw [crcBits] at hc
       rw [hc] at hf
       exact ⟨m - 1, by omega, i + 1, by omega, by push_cast; rfl, s', rfl, hf⟩
 · have hi' : ¬ (i : Int) < b.length := by omega
   have hd : b.drop i = [] := List.drop_eq_nil_of_le (by omega)
   rw [hd] at hf
   simp [t6, t7, t8, t3, hi, hi']
   rw [crc_not, crc]
   rw [hf]; rfl
theorem crcS_live {H : AHeap} {i cap : Nat} {op : Bool} {b : Bs} {junk : List AV} (hg : H.get i = some (.cells (strCs b ++ junk))) (hl : b.length <= 1000000000) :
  Does Tryz.prog G 212 [.sl i 0 1 b.length cap op] H fun r h => r = .int .u32 (crc b).toNat /\ h = H :=
 (Does.borrow (n := 2) (.res (res_buf0 hg) .nil) (crcS_does (.bV b) hl _) (by rintro r _ ⟨rfl, _⟩; rfl)).mono fun r h ⟨⟨_, h1, _⟩, h2⟩ => ⟨h1, h2⟩
theorem crc2_does {hv tv : AV} {hd tx : Bs} (hh : BtA hv hd) (ht : BtA tv tx) (hl : hd.length + tx.length <= 1000000000) (H : AHeap) :
  Does Tryz.prog G 145 [hv, tv] H fun r h => r = .int .u64 (crc (hd ++ tx)).toNat /\ h = H := by
 refine Does.forgot (R := fun r h => r = .int .u64 (crc (hd ++ tx)).toNat /\ ∀ j x, H.get j = some x -> h.get j = some x) ?_ (fun hw ha r H1 ⟨h1, h2⟩ => ⟨h2, by rw [h1]; rfl, h1, rfl⟩)
 refine Does.wf Tryz.call145 fun hw _ => ?_
 refine zad Tryz.call145 Tryz.func145 rfl (by simp [Tryz.f145]) ?_
 have h1 := hh.len
 have h2 := hh.first
 have h3 := hh.sc
 have h4 := hh.ni
 have t1 := ht.len
 have t2 := ht.first
 have t3 := ht.sc
 have t4 := ht.ni
 have c1 : hd.length <= 140737488355328 := by omega
 have c2 : hd.length <= 4611686018427387904 := by omega
 have c3 : tx.length <= 140737488355328 := by omega
 have c4 : tx.length <= 4611686018427387904 := by omega
 have c5 : hd.length + tx.length <= 140737488355328 := by omega
 have c6 : hd.length + tx.length <= 4611686018427387904 := by omega
 have hc : ∀ (H2 : AHeap) (i cap : Nat) (op : Bool) (b : Bs) (junk : List AV), b = hd ++ tx -> H2.get i = some (.cells (strCs b ++ junk)) ->
  Does Tryz.prog G 212 [.sl i 0 1 b.length cap op] H2 fun r h => r = .int .u32 (crc (hd ++ tx)).toNat /\ h = H2 := by
  rintro H2 i cap op b junk rfl hg
  exact crcS_live hg (by simpa using hl)
 have hfin : ∀ (H2 : AHeap) (i n cap : Nat) (op : Bool) (b : Bs) (junk : List AV) {R' : Hid (AV -> AHeap -> Prop)}, n = b.length -> b = hd ++ tx -> H2.get i = some (.cells (strCs b ++ junk)) -> (R'.v (.int .u32 (crc (hd ++ tx)).toNat) H2) ->
  @DoesH Tryz.prog G 212 [.sl i 0 1 n cap op] H2 R' := by
  rintro H2 i n cap op b junk R' rfl hb hg hr
  refine zab (hc H2 i cap op b junk hb hg) ?_
  rintro r h ⟨rfl, rfl⟩
  exact hr
 have w1 : IntKind.u64.wrap (((crc (hd ++ tx)).toNat : Nat) : Int) = ((crc (hd ++ tx)).toNat : Nat) := IntWalk.u64_in _ (by have := (crc (hd ++ tx)).isLt; omega)
 have hold : ∀ j x, H.get j = some x -> j ≠ H.next /\ j ≠ H.next + 1 /\ j ≠ H.next + 1 + 1 := fun j x hj => by have l := zaa hw hj; omega
 by_cases hd0 : hd.length = 0
 · have hde : hd = [] := List.length_eq_zero_iff.1 hd0
   have h2 := hh.first0 hd0
   by_cases tx0 : tx.length = 0
   · have txe : tx = [] := List.length_eq_zero_iff.1 tx0
     have t2 := ht.first0 tx0
     simp [h1, h2, h3, t1, t2, t3, hd0, tx0, za7, zac, -zaj, -zar]
     refine hfin _ _ _ _ _ [] [] rfl (by rw [hde, txe]; rfl) (by simp [strCs]) ?_
     simp [w1]
     intro j x hj
     obtain ⟨e0, e1, e2⟩ := hold j x hj
     simp [e0, e1, e2, hj]
   · have tx1 : ¬ tx.length <= 0 := by omega
     simp [h1, h2, h3, t1, t2, t3, hd0, tx0, tx1, c3, c4, za7, zac, -zaj, -zar]
     refine hfin _ _ _ _ _ tx [] rfl (by rw [hde]; rfl) (by simp) ?_
     simp [w1]
     intro j x hj
     obtain ⟨e0, e1, e2⟩ := hold j x hj
     simp [e0, e1, e2, hj]
 · have hd1 : ¬ hd.length <= 0 := by omega
   by_cases tx0 : tx.length = 0
   · have txe : tx = [] := List.length_eq_zero_iff.1 tx0
     have t2 := ht.first0 tx0
     simp [h1, h2, h3, t1, t2, t3, hd0, hd1, tx0, c1, c2, za7, zac, take_strCs, -zaj, -zar]
     refine hfin _ _ _ _ _ hd [] rfl (by rw [txe]; simp) (by simp [take_strCs, zac]) ?_
     simp [w1]
     intro j x hj
     obtain ⟨e0, e1, e2⟩ := hold j x hj
     simp [e0, e1, e2, hj]
   · have tx1 : ¬ hd.length + tx.length <= hd.length := by omega
     simp [h1, h2, h3, t1, t2, t3, hd0, hd1, tx0, tx1, c1, c2, c5, c6, za7, zac, take_strCs, -zaj, -zar]
     refine hfin _ _ _ _ _ (hd ++ tx) [] (by simp) rfl (by simp [strCs]) ?_
     simp [w1]
     intro j x hj
     obtain ⟨e0, e1, e2⟩ := hold j x hj
     simp [e0, e1, e2, hj]
theorem crc2_live {H : AHeap} {i cap : Nat} {op : Bool} {b : Bs} {junk : List AV} {tv : AV} {tx : Bs} (hg : H.get i = some (.cells (strCs b ++ junk))) (hb : 1 <= b.length) (ht : BtA tv tx) (hl : b.length + tx.length <= 1000000000) :
  Does Tryz.prog G 145 [.sl i 1 1 (b.length - 1) cap op, tv] H fun r h => r = .int .u64 (crc (b.drop 1 ++ tx)).toNat /\ h = H := by
 have e : (b.drop 1).take (b.length - 1) = b.drop 1 := by rw [List.take_of_length_le (by simp)]
 have hr := res_buf (cap := cap) (op := op) (o := 1) (len := b.length - 1) hg (by omega)
 rw [e] at hr
 exact (Does.borrow (n := 2) (.res hr (.keep _ .nil)) (crc2_does (.bV (b.drop 1)) ht (by simp; omega) _) (by rintro r _ ⟨rfl, _⟩; rfl)).mono fun r h ⟨⟨_, h1, _⟩, h2⟩ => ⟨h1, h2⟩
theorem bufNext {H0 H : AHeap} {i : Nat} {v : AV} {bs : Bs} (h : Buf H0 H i v bs) : ∃ i' cap op junk, v = .sl i' 0 1 bs.length cap op /\ (i' = i \/ H0.next <= i') /\ H.get i' = some (.cells (strCs bs ++ junk)) /\ bs.length + junk.length = cap /\ Buf H H i' v bs /\ (∀ j x, j ≠ i -> H0.get j = some x -> H.get j = some x) /\ H0.next <= H.next := by
 obtain ⟨i', cap, op, junk, h1, h2, h3, h4, h5, h6⟩ := h
 exact ⟨i', cap, op, junk, h1, h2, h3, h4, ⟨i', cap, op, junk, h1, .inl rfl, h3, h4, fun _ _ _ h => h, Nat.le_refl _⟩, h5, h6⟩
theorem frame_run {n : Nat} (hn : n < 2 ^ 64) {bv : AV} {b : Bs} (hb : BtA bv b) (hl : b.length <= 60000) (H : AHeap) :
  Does Tryz.prog G 141 [.int .u64 n, bv] H fun r H1 => ∃ i cap op junk, r = .sl i 0 1 (frame n b).length cap op /\ H.next <= i /\ H1.get i = some (.cells (strCs (frame n b) ++ junk)) /\ ∀ j x, H.get j = some x -> H1.get j = some x := by
 refine Does.wf Tryz.call141 fun hw _ => ?_
 have h1 := hb.len
 have h2 := hb.first
 have h3 := hb.sc
 have h4 := hb.ni
 have h5 : alen Tryz.prog 22 bv = some (.int .i64 b.length) := by
  rcases hb with ⟨rfl, rfl⟩ | ⟨ts, rfl⟩ <;> simp [alen]
 have c1 : ¬ (60000 : Int) < b.length := by omega
 have w1 : IntKind.u64.wrap (b.length : Int) = (b.length : Int) := IntWalk.u64_in _ (by omega)
 have hold : ∀ j x, H.get j = some x -> j < H.next := fun j x hj => zaa hw hj
 refine zad Tryz.call141 Tryz.func141 rfl (by simp [Tryz.f141]) ?_
 simp [h5, c1, w1, -alen]
 refine zae (put_run (i := H.next) (bs := [90]) (u := b.length) (k := 4) ⟨H.next, 1, false, [], rfl, .inl rfl, by simp [strCs], rfl, fun _ _ _ h => h, Nat.le_refl _⟩ (by simp) (by omega) (by omega)) ?_
 intro r1 G1 hb1 hw1 _
 obtain ⟨i1, cap1, op1, junk1, rfl, hi1, hg1, hj1, hB1, hs1, hn1⟩ := bufNext hb1
 simp
 refine zae (put_run (u := n) (k := 8) hB1 (by simp [le_len]) hn (by omega)) ?_
 intro r2 G2 hb2 hw2 _
 obtain ⟨i2, cap2, op2, junk2, rfl, hi2, hg2, hj2, hB2, hs2, hn2⟩ := bufNext hb2
 have hl2 : ([90] ++ le 4 b.length ++ le 8 n).length = 13 := by simp [le_len]
 have hd2 : ([90] ++ le 4 b.length ++ le 8 n).drop 1 = head n b.length := rfl
 have hf2 : ∀ t : Bs, ([90] ++ le 4 b.length ++ le 8 n) ++ t = 90 :: (head n b.length ++ t) := fun t => by simp [head]
 generalize ([90] ++ le 4 b.length ++ le 8 n) = X at *
 have c2 : 1 < cap2 := by omega
 have c3 : 1 <= cap2 := by omega
 have e12 : X.length - 1 = 12 := by omega
 have hcr := crc2_live (G := G) (cap := cap2 - 1) (op := op2) hg2 (by omega) hb (by omega)
 rw [e12, hd2] at hcr
 rw [hl2]
 simp [c2, c3]
 refine zab hcr ?_
 rintro r G3 ⟨rfl, rfl⟩
 generalize hc : crc (head n b.length ++ b) = c
 have hclt := c.isLt
 simp
 have hp := put_run (G := G) (u := c.toNat) (k := 4) hB2 (by omega) (by omega) (by omega)
 rw [hl2] at hp
 refine zae hp ?_
 intro r3 G4 hb3 hw3 _
 obtain ⟨i3, cap3, op3, junk3, rfl, hi3, hg3, hj3, hB3, hs3, hn3⟩ := bufNext hb3
 have hl3 : (X ++ le 4 c.toNat).length = 17 := by simp [le_len, hl2]
 have hfr : frame n b = (X ++ le 4 c.toNat) ++ b := by rw [List.append_assoc, hf2, frame, hc]
 generalize X ++ le 4 c.toNat = Y at *
 have hkeep : ∀ j x, H.get j = some x -> j ≠ i3 /\ G4.get j = some x /\ j < G4.next := by
  intro j x hj
  have k0 := hold j x hj
  have k1 : (H.push (AObj.cells [AV.int .u8 90])).get j = some x := by
   show (if j = H.next then _ else H.get j) = some x
   rw [if_neg (by omega)]; exact hj
  have hn1' : H.next + 1 <= G1.next := hn1
  have hi1' : i1 = H.next \/ H.next + 1 <= i1 := hi1
  have k2 := hs1 j x (by omega) k1
  have k3 := zaa hw1 k2
  have k4 := hs2 j x (by omega) k2
  have k5 := zaa hw2 k4
  have k6 := hs3 j x (by omega) k4
  exact ⟨by omega, k6, zaa hw3 k6⟩
 have hi3' : H.next <= i3 := by
  have hn1' : H.next + 1 <= G1.next := hn1
  have hi1' : i1 = H.next \/ H.next + 1 <= i1 := hi1
  omega
 have n3 := zaa hw3 hg3
 have tk : List.take 17 (strCs Y ++ junk3) = strCs Y := take_cs (by omega)
 have dk : List.drop (17 + b.length) (strCs Y ++ junk3) = junk3.drop b.length := drop_cs (by omega)
 have hlf : (frame n b).length = 17 + b.length := frame_len n b
 by_cases hcap : 17 + b.length <= cap3
 · have hc2 : b.length <= junk3.length := by omega
   simp [h1, h2, h3, hg3, hl3, hcap, hc2, tk, dk, za7, zac, -zaj, -zar]
   refine ⟨i3, ⟨rfl, hlf.symm⟩, hi3', ⟨junk3.drop b.length, by rw [if_pos rfl, hfr, strCs_app, List.append_assoc]⟩, fun j x hj => ?_⟩
   obtain ⟨k1, k2, _⟩ := hkeep j x hj
   rw [if_neg k1]; exact k2
 · have hc3 : 17 + b.length <= 140737488355328 := by omega
   have hc4 : 17 + b.length <= 4611686018427387904 := by omega
   cases op3
   · simp [h1, h2, h3, hg3, hl3, hcap, hc3, hc4, tk, dk, za7, zac, -zaj, -zar]
     refine ⟨G4.next, ⟨rfl, hlf.symm⟩, by omega, ⟨[], by rw [if_pos rfl, hfr, strCs_app, List.append_nil]⟩, fun j x hj => ?_⟩
     obtain ⟨k1, k2, k3⟩ := hkeep j x hj
     rw [if_neg (by omega)]; exact k2
   · simp [h1, h2, h3, hg3, hl3, hcap, hc3, hc4, tk, dk, za7, zac, -zaj, -zar]
     refine ⟨G4.next, ⟨rfl, hlf.symm⟩, by omega, ⟨[], by simp [hfr, strCs_app]⟩, fun j x hj => ?_⟩
     obtain ⟨k1, k2, k3⟩ := hkeep j x hj
     have k4 : j ≠ G4.next := by omega
     simp [k1, k2, k4]
theorem frame_does {n : Nat} (hn : n < 2 ^ 64) {bv : AV} {b : Bs} (hb : BtA bv b) (hl : b.length <= 60000) (H : AHeap) :
  Does Tryz.prog G 141 [.int .u64 n, bv] H fun r h => r = bV (frame n b) /\ h = H := fresh_bytes (frame_run hn hb hl H)
theorem zag : Tryz.prog.follows .mixedOrders = true := by kernel_rfl
theorem cutBt {b : Bs} {ts : List AV} {l h : Nat} (h1 : l <= h) (h2 : h <= b.length) : BtA (.vsl (List.drop l (strCs b ++ ts)) (h - l)) ((b.drop l).take (h - l)) := by
 refine .inr ⟨strCs ((b.drop l).drop (h - l)) ++ ts, ?_⟩
 rw [drop_strCs (by omega), <- List.append_assoc, <- strCs_app, List.take_append_drop]
 rw [List.length_take, List.length_drop, Nat.min_eq_left (by omega)]
theorem take_run {bv : AV} {b : Bs} (hb : BtA bv b) (hl : b.length <= 1000000000) (H : AHeap) :
  Does Tryz.prog G 95 [bv] H fun r H1 => ∃ tv, r = .tuple [.int .u64 (take b).1, tv, .int .i64 (take b).2.2] /\ (∀ j x, H.get j = some x -> H1.get j = some x) /\
   ((tv = .nilsl /\ (take b).2.1 = []) \/ ∃ i cap op, tv = .sl i 0 1 (take b).2.1.length cap op /\ H.next <= i /\ H1.get i = some (.cells (strCs (take b).2.1))) := by
 refine Does.wf Tryz.call95 fun hw _ => ?_
 have hlv : alen Tryz.prog 22 bv = some (.int .i64 b.length) := by
  rcases hb with ⟨rfl, rfl⟩ | ⟨ts, rfl⟩ <;> simp [alen]
 refine zad Tryz.call95 Tryz.func95 rfl (by simp [Tryz.f95]) ?_
 by_cases hA : b.length < 17
 · have e : take b = (0, [], 0) := by unfold take; rw [if_pos (.inl hA)]
   have c1 : (b.length : Int) < 17 := by omega
   simp [hlv, c1, e, -alen]
 obtain ⟨ts, rfl⟩ : ∃ ts, bv = .vsl (strCs b ++ ts) b.length := by
  rcases hb with ⟨_, h⟩ | h
  · rw [h] at hA; simp at hA
  · exact h
 have c1 : ¬ (b.length : Int) < 17 := by omega
 have h0 : b[0]? = some b[0] := List.getElem?_eq_getElem (by omega)
 generalize b[0] = x0 at h0
 have hat := strCs_at (ts := ts) h0
 have c2 : 0 < b.length := by omega
 by_cases hB : x0 = 90
 case neg =>
  have e : take b = (0, [], 0) := by
   unfold take
   rw [if_pos]
   right; rw [h0]; simpa using hB
  have hx : ((x0.toNat : Int) != 90) = true := by
   rw [bne_iff_ne]
   intro h
   apply hB
   apply UInt8.toNat.inj
   have : x0.toNat = 90 := by omega
   rw [this]; rfl
  simp [c1, c2, hat, hx, e]
 subst hB
 have hx : (((90 : UInt8).toNat : Int) != 90) = false := by decide
 have e0 : ¬ (b.length < 17 \/ b[0]? ≠ some 90) := by rw [h0]; simp; omega
 have w1 : IntKind.i64.wrap ((b.length : Int) - 17) = ((b.length - 17 : Nat) : Int) := by rw [IntWalk.i64_in _ (by omega)]; omega
 have hn1 := fun H' => sumNum_does (G := G) (cutBt (b := b) (ts := ts) (l := 1) (h := 5) (by omega) (by omega)) (by simp; omega) H'
 have hn2 := fun H' => sumNum_does (G := G) (cutBt (b := b) (ts := ts) (l := 13) (h := 17) (by omega) (by omega)) (by simp; omega) H'
 have hn3 := fun H' => sumNum_does (G := G) (cutBt (b := b) (ts := ts) (l := 5) (h := 13) (by omega) (by omega)) (by simp; omega) H'
 have hcut := cutBt (b := b) (ts := ts) (l := 1) (h := 13) (by omega) (by omega)
 have c5 : (5 : Int) <= b.length := by omega
 have c13 : (13 : Int) <= b.length := by omega
 have c17 : (17 : Int) <= b.length := by omega
 have d1 : 1 < b.length := by omega
 have d5 : 5 < b.length := by omega
 have d13 : 13 < b.length := by omega
 obtain ⟨m, hm⟩ : ∃ m, m = unle ((b.drop 1).take 4) := ⟨_, rfl⟩
 have hm32 : m < 2 ^ 32 := by
  have := unle_lt ((b.drop 1).take 4)
  have e4 : ((b.drop 1).take 4).length = 4 := by rw [List.length_take, List.length_drop]; omega
  rw [e4] at this
  rw [hm]; simpa using this
 simp [c1, c2, hat, hx, c5, d1, -List.drop_one]
 refine zab (hn1 H) ?_
 rintro r H1 ⟨rfl, rfl⟩
 have hmm : unle (List.take (5 - 1) (List.drop 1 b)) = m := hm.symm
 rw [hmm]
 have w2 : IntKind.u64.wrap ((b.length - 17 : Nat) : Int) = ((b.length - 17 : Nat) : Int) := IntWalk.u64_in _ (by omega)
 by_cases hC : 60000 < m \/ b.length - 17 < m
 · have e : take b = (0, [], 0) := by
    unfold take
    rw [if_neg e0]
    simp only
    rw [<- hm, if_pos hC]
   by_cases hC1 : 60000 < m
   · have hC1' : (60000 : Int) < m := by omega
     simp [c1, c2, hat, hx, c5, d1, hC1, hC1', e, -List.drop_one]
   · have hC1' : ¬ (60000 : Int) < m := by omega
     have hC2' : ((b.length - 17 : Nat) : Int) < m := by omega
     have hC2 : b.length - 17 < m := by omega
     simp [c1, c2, hat, hx, c5, d1, hC1, hC1', hC2, hC2', w1, w2, e, -List.drop_one]
 have hC1 : ¬ 60000 < m := by omega
 have hC1' : ¬ (60000 : Int) < m := by omega
 have hC2' : ¬ ((b.length - 17 : Nat) : Int) < m := by omega
 have hC2 : ¬ b.length - 17 < m := by omega
 have w3 : IntKind.i64.wrap (m : Int) = (m : Int) := IntWalk.i64_in _ (by omega)
 have w4 : IntKind.i64.wrap (17 + (m : Int)) = ((17 + m : Nat) : Int) := by rw [IntWalk.i64_in _ (by omega)]; omega
 obtain ⟨z, hz⟩ : ∃ z, z = 17 + m := ⟨_, rfl⟩
 rw [<- hz] at w4
 have hzl : z <= b.length := by omega
 have hz17 : (17 : Int) <= z := by omega
 have hzl' : (z : Int) <= b.length := by omega
 have htx := cutBt (b := b) (ts := ts) (l := 17) (h := z) (by omega) (by omega)
 simp [c1, c2, hat, hx, c5, d1, hC1, hC1', hC2, hC2', w1, w2, w3, w4, c17, hzl, hz17, hzl', -List.drop_one]
 obtain ⟨tx, htx0⟩ : ∃ tx, tx = (b.drop 17).take m := ⟨_, rfl⟩
 have hzm : z - 17 = m := by omega
 have htl : tx.length = m := by rw [htx0, List.length_take, List.length_drop]; omega
 rw [hzm] at htx
 rw [<- htx0] at htx
 have htv : ∃ tv, (if 17 < b.length then some (AV.vsl (List.drop 17 (strCs b ++ ts)) (z - 17)) else some (AV.vsl [] 0)) = some tv /\ BtA tv tx := by
  by_cases h : 17 < b.length
  · exact ⟨_, if_pos h, by rw [hzm]; exact htx⟩
  · have : tx = [] := List.length_eq_zero_iff.1 (by omega)
    exact ⟨_, if_neg h, by rw [this]; exact .inr ⟨[], rfl⟩⟩
 obtain ⟨tv, e1, htv⟩ := htv
 rw [e1]
 have g1 := htv.len
 have g2 := htv.first
 have g3 := htv.sc
 have g4 := htv.ni
 rw [htl] at g1 g2
 have k1 : m <= 140737488355328 := by omega
 have k2 : m <= 4611686018427387904 := by omega
 have htk : take b = if unle ((b.drop 13).take 4) ≠ (crc ((b.drop 1).take 12 ++ tx)).toNat then (0, [], 0) else (unle ((b.drop 5).take 8), tx, 17 + m) := by
  unfold take
  rw [if_neg e0]
  simp only
  rw [<- hm, if_neg hC, <- htx0]
 have hold : ∀ j x, H1.get j = some x -> j ≠ H1.next /\ j ≠ H1.next + 1 := fun j x hj => by have l := zaa hw hj; omega
 have hcrl : ((b.drop 1).take 12).length = 12 := by rw [List.length_take, List.length_drop]; omega
 have hlive : ∀ (H2 : AHeap) (i cap : Nat) (op : Bool) (junk : List AV), H2.get i = some (.cells (strCs tx ++ junk)) ->
   Does Tryz.prog G 145 [.vsl (List.drop 1 (strCs b ++ ts)) 12, .sl i 0 1 m cap op] H2 fun r h => r = .int .u64 (crc ((b.drop 1).take 12 ++ tx)).toNat /\ h = H2 := by
  intro H2 i cap op junk hg
  have hr := res_buf0 (cap := cap) (op := op) hg
  rw [htl] at hr
  exact (Does.borrow (n := 2) (.keep _ (.res hr .nil)) (crc2_does hcut (.bV tx) (by rw [hcrl]; omega) _) (by rintro r _ ⟨rfl, _⟩; rfl)).mono fun r h ⟨⟨_, h1, _⟩, h2⟩ => ⟨h1, h2⟩
 generalize hcc : (crc ((b.drop 1).take 12 ++ tx)).toNat = cc at htk hlive
 generalize hu4 : unle ((b.drop 13).take 4) = u4 at htk
 have hn2' : ∀ H', Does Tryz.prog G 144 [AV.vsl (List.drop 13 (strCs b ++ ts)) 4] H' fun r h => r = .int .u64 u4 /\ h = H' := fun H' => (hn2 H').mono fun r h ⟨h1, h2⟩ => ⟨by rw [h1, <- hu4], h2⟩
 by_cases hm0 : m = 0
 · have txe : tx = [] := List.length_eq_zero_iff.1 (by omega)
   have g2' := htv.first0 (by omega)
   subst hm0
   simp [g1, g2', g3, za7, zac, -zaj, -zar]
   refine aw_still zag (by kernel_rfl) ?_
   intro es hes
   simp [c13, c17, d13, d1, -List.drop_one]
   refine ⟨_, hn2' _, as_cont ?_⟩
   simp [c13, c17, d13, d1, -List.drop_one]
   refine ⟨_, hlive _ _ _ _ [] (by simp [txe, strCs]), as_cont ?_⟩
   simp [c13, c17, d13, d1, -List.drop_one]
   subst hes
   refine ⟨by kernel_rfl, ?_⟩
   by_cases hq : u4 = cc
   · have hq' : ((u4 : Int) != (cc : Int)) = false := by simp [hq]
     rw [if_neg (by simpa using hq)] at htk
     simp [hq', c5, c13, d5, -List.drop_one]
     refine zab (hn3 _) ?_
     rintro r H2 ⟨rfl, rfl⟩
     simp [htk]
     refine ⟨_, ⟨rfl, by omega⟩, fun j x hj => ?_, .inr ⟨H1.next, ⟨0, .inl (by rw [htl])⟩, Nat.le_refl _, by simp [txe, strCs]⟩⟩
     obtain ⟨q1, q2⟩ := hold j x hj
     simp [q1, q2, hj]
   · have hq' : ((u4 : Int) != (cc : Int)) = true := by rw [bne_iff_ne]; omega
     rw [if_pos hq] at htk
     simp [hq', htk]
     intro j x hj
     obtain ⟨q1, q2⟩ := hold j x hj
     simp [q1, q2, hj]
 · have hm1 : ¬ m <= 0 := by omega
   simp [g1, g2, g3, hm0, hm1, k1, k2, za7, zac, htl, -zaj, -zar]
   refine aw_still zag (by kernel_rfl) ?_
   intro es hes
   simp [c13, c17, d13, d1, -List.drop_one]
   refine ⟨_, hn2' _, as_cont ?_⟩
   simp [c13, c17, d13, d1, -List.drop_one]
   refine ⟨_, hlive _ _ _ _ [] (by simp), as_cont ?_⟩
   simp [c13, c17, d13, d1, -List.drop_one]
   subst hes
   refine ⟨by kernel_rfl, ?_⟩
   by_cases hq : u4 = cc
   · have hq' : ((u4 : Int) != (cc : Int)) = false := by simp [hq]
     rw [if_neg (by simpa using hq)] at htk
     simp [hq', c5, c13, d5, -List.drop_one]
     refine zab (hn3 _) ?_
     rintro r H2 ⟨rfl, rfl⟩
     simp [htk]
     refine ⟨_, ⟨rfl, by omega⟩, fun j x hj => ?_, .inr ⟨H1.next + 1, ⟨m, .inr (by rw [htl])⟩, by omega, by simp⟩⟩
     obtain ⟨q1, q2⟩ := hold j x hj
     simp [q1, q2, hj]
   · have hq' : ((u4 : Int) != (cc : Int)) = true := by rw [bne_iff_ne]; omega
     rw [if_pos hq] at htk
     simp [hq', htk]
     intro j x hj
     obtain ⟨q1, q2⟩ := hold j x hj
     simp [q1, q2, hj]
theorem take_len (b : Bs) : (take b).2.1.length <= b.length := by
 unfold take
 split
 · simp
 · simp only
   split
   · simp
   · split
     · simp
     · simp only [List.length_take, List.length_drop]; omega
theorem take_does' {bv : AV} {b : Bs} (hb : BtA bv b) (hl : b.length <= 1000000000) (H : AHeap) :
  Does Tryz.prog G 95 [bv] H fun r h => ∃ tv, (BtA tv (take b).2.1 /\ ∀ n, AV.idLt n tv = true) /\ r = .tuple [.int .u64 (take b).1, tv, .int .i64 (take b).2.2] /\ h = H := by
 refine Does.wfs fun hw ha => (take_run hb hl H).ghost fun r H1 ⟨tv, hr, hs, ht⟩ => ?_
 rcases ht with ⟨rfl, e⟩ | ⟨i, cap, op, rfl, hi, hg⟩
 · exact ⟨r, H, Ghost.back hw (by rw [hr]; rfl) hs, .nilsl, ⟨by rw [e]; exact .nil, fun _ => rfl⟩, hr, rfl⟩
 · have e1 : r.frz i (strCs (take b).2.1) = .tuple [.int .u64 (take b).1, bV (take b).2.1, .int .i64 (take b).2.2] := by
    rw [hr]
    simp [AV.frz, AV.frzs, take_strCs, bV]
   refine ⟨r.frz i (strCs (take b).2.1), H, (Ghost.frz hg).trans (Ghost.back hw ?_ (AHeap.frz_old hw hi hs)), bV _, ⟨.bV _, fun n => by simp [AV.idLt, bV, strCs_lt]⟩, e1, rfl⟩
   rw [e1]
   simp [AV.idLt, AV.allLt, bV, strCs_lt]
theorem take_does {bv : AV} {b : Bs} (hb : BtA bv b) (hl : b.length <= 1000000000) (H : AHeap) :
  Does Tryz.prog G 95 [bv] H fun r h => ∃ tv, BtA tv (take b).2.1 /\ r = .tuple [.int .u64 (take b).1, tv, .int .i64 (take b).2.2] /\ h = H :=
 (take_does' hb hl H).mono fun r h ⟨tv, h1, h2, h3⟩ => ⟨tv, h1.1, h2, h3⟩
inductive Bts : List AV -> List Bs -> Prop
 | nil : Bts [] []
 | cons {v : AV} {b : Bs} {vs : List AV} {l : List Bs} (h : BtA v b) (t : Bts vs l) : Bts (v :: vs) (b :: l)
theorem Bts.len {vs : List AV} {l : List Bs} (h : Bts vs l) : vs.length = l.length := by
 induction h with
 | nil => rfl
 | cons h t ih => simp [ih]
theorem Bts.snoc {vs : List AV} {l : List Bs} (h : Bts vs l) {v : AV} {b : Bs} (hv : BtA v b) : Bts (vs ++ [v]) (l ++ [b]) := by
 induction h with
 | nil => exact .cons hv .nil
 | cons h t ih => exact .cons h ih
theorem cloneB_run {b : Bs} {ts : List AV} (hl : b.length <= 1000000000) (H : AHeap) : Does Tryz.prog G 26 [.vsl (strCs b ++ ts) b.length] H fun r H1 =>
  ∃ i cap op junk, r = .sl i 0 1 b.length cap op /\ H.next <= i /\ H1.get i = some (.cells (strCs b ++ junk)) /\ ∀ j x, H.get j = some x -> H1.get j = some x := by
 refine Does.wf Tryz.call26 fun hw _ => ?_
 have k1 : b.length <= 140737488355328 := by omega
 have k2 : b.length <= 4611686018427387904 := by omega
 have hold : ∀ j x, H.get j = some x -> j ≠ H.next /\ j ≠ H.next + 1 := fun j x hj => by have l := zaa hw hj; omega
 refine zad Tryz.call26 Tryz.func26 rfl (by simp [Tryz.f26]) ?_
 by_cases h0 : b.length = 0
 · have hb : b = [] := List.length_eq_zero_iff.1 h0
   subst hb
   simp [strCs]
   intro j x hj
   obtain ⟨e0, e1⟩ := hold j x hj
   simp [e0, hj]
 · have h1 : ¬ b.length <= 0 := by omega
   simp [h0, h1, k1, k2, za7, zac]
   intro j x hj
   obtain ⟨e0, e1⟩ := hold j x hj
   simp [e0, e1, hj]
theorem cloneB_does {bv : AV} {b : Bs} (hb : BtA bv b) (hl : b.length <= 1000000000) (H : AHeap) : Does Tryz.prog G 26 [bv] H fun r h => BtA r b /\ h = H := by
 rcases hb with ⟨rfl, rfl⟩ | ⟨ts, rfl⟩
 · refine zad Tryz.call26 Tryz.func26 rfl (by simp [Tryz.f26]) ?_
   simp
   exact .nil
 · exact (fresh_bytes (cloneB_run hl H)).mono fun r h ⟨h1, h2⟩ => ⟨by rw [h1]; exact .bV b, h2⟩
theorem growB_does {n : Nat} (hl : n <= 2000000000) (H : AHeap) : Does Tryz.prog G 306 [.nilsl, .int .i64 n] H fun r h =>
  (n = 0 /\ r = .nilsl /\ h = H) \/ (0 < n /\ r = .sl H.next 0 1 0 n true /\ h = H.push (.cells (arep [.int .u8 0] n))) := by
 refine zad Tryz.call306 Tryz.func306 rfl (by simp [Tryz.f306]) ?_
 have c1 : ¬ (n : Int) < 0 := by omega
 have w0 : IntKind.i64.wrap 0 = 0 := by decide
 have w1 : IntKind.i64.wrap (n : Int) = n := IntWalk.i64_in _ (by omega)
 by_cases h0 : n = 0
 · subst h0
   simp [w0]
 · have c2 : (0 : Int) < n := by omega
   have c3 : 0 < n := by omega
   have c4 : n <= 140737488355328 := by omega
   have c5 : (n : Int) <= 4611686018427387904 := by omega
   simp [azeros, c1, c2, c3, c4, c5, w0, w1, h0, -arep]
theorem concatB_run {H : AHeap} {q : Nat} {av bv : AV} {a b : Bs} (ha : BtA av a) (hb : BtA bv b) (hq : H.get q = some (.cells [av, bv])) (hl : a.length + b.length <= 1000000000) :
  Does Tryz.prog G 252 [.sl q 0 1 2 2 false] H fun r H1 => (∀ j x, H.get j = some x -> H1.get j = some x) /\ ((r = .nilsl /\ a ++ b = []) \/
  ∃ i cap op junk, r = .sl i 0 1 (a ++ b).length cap op /\ H.next <= i /\ H1.get i = some (.cells (strCs (a ++ b) ++ junk)) /\ 0 < a.length + b.length) := by
 refine Does.wf Tryz.call252 fun hw _ => ?_
 refine zad Tryz.call252 Tryz.func252 rfl (by simp [Tryz.f252]) ?_
 have hal : ∀ {v : AV} {l : Bs}, BtA v l -> alen Tryz.prog 22 v = some (.int .i64 l.length) := by
  intro v l h
  rcases h with ⟨rfl, rfl⟩ | ⟨ts, rfl⟩ <;> simp [alen]
 have ha1 := hal ha
 have hb1 := hal hb
 have w1 : IntKind.i64.wrap (a.length : Int) = a.length := IntWalk.i64_in _ (by omega)
 obtain ⟨N, hN⟩ : ∃ N, N = a.length + b.length := ⟨_, rfl⟩
 have w2 : IntKind.i64.wrap ((a.length : Int) + b.length) = (N : Int) := by rw [IntWalk.i64_in _ (by omega)]; omega
 have w3 : IntKind.i64.wrap 1 = 1 := by decide
 have w4 : IntKind.i64.wrap 2 = 2 := by decide
 have c1 : ¬ (a.length : Int) < 0 := by omega
 have c2 : ¬ (N : Int) < 0 := by omega
 simp [hq]
 refine zaG (fun m T' H' => H' = H /\ T' 0 = .sl q 0 1 2 2 false /\ T' 9 = .sl q 0 1 2 2 false /\ T' 10 = .int .i64 2 /\ (m = 2 /\ T' 11 = .int .i64 0 /\ T' 3 = .int .i64 0 \/ m = 1 /\ T' 11 = .int .i64 1 /\ T' 3 = .int .i64 a.length \/ m = 0 /\ T' 11 = .int .i64 2 /\ T' 3 = .int .i64 (N : Int))) 2 ?_ ?_
 · exact ⟨rfl, by simp, by simp, by simp, .inl ⟨rfl, by simp, by simp⟩⟩
 rintro m T H1 ⟨rfl, t0, t9, t10, ⟨rfl, t11, t3⟩ | ⟨rfl, t11, t3⟩ | ⟨rfl, t11, t3⟩⟩
 · simp [t0, t9, t10, t11, t3, hq, ha1, w1, w3, c1, -alen]
 · simp [t0, t9, t10, t11, t3, hq, hb1, w2, w4, c2, -alen]
 simp [t0, t9, t10, t11, t3, hq, -alen]
 refine zae (growB_does (n := N) (by omega) H1) ?_
 have hold : ∀ j x, H1.get j = some x -> j ≠ H1.next := fun j x hj => by have l := zaa hw hj; omega
 have a1 := ha.len
 have a2 := ha.first
 have a3 := ha.sc
 have a4 := ha.ni
 have b1 := hb.len
 have b2 := hb.first
 have b3 := hb.sc
 have b4 := hb.ni
 rintro r H2 (⟨hN0, rfl, rfl⟩ | ⟨hN0, rfl, rfl⟩) hw2 _
 · have hal0 : a.length = 0 := by omega
   have hbl0 : b.length = 0 := by omega
   have a2' := ha.first0 hal0
   have b2' := hb.first0 hbl0
   rw [hal0] at a1
   rw [hbl0] at b1
   simp [t0]
   refine zaG (fun m T' H' => H' = H2 /\ T' 25 = .sl q 0 1 2 2 false /\ T' 26 = .int .i64 2 /\ T' 6 = .nilsl /\ (m = 2 /\ T' 27 = .int .i64 0 \/ m = 1 /\ T' 27 = .int .i64 1 \/ m = 0 /\ T' 27 = .int .i64 2)) 2 ?_ ?_
   · exact ⟨rfl, by simp, by simp, by simp, .inl ⟨rfl, by simp⟩⟩
   rintro m T H1 ⟨rfl, t25, t26, t6, ⟨rfl, t27⟩ | ⟨rfl, t27⟩ | ⟨rfl, t27⟩⟩
   · simp [t25, t26, t27, t6, hq, w3, a1, a2', a3, -zaj, -zar]
   · simp [t25, t26, t27, t6, hq, w4, b1, b2', b3, -zaj, -zar]
   · simp [t25, t26, t27, t6]
     exact ⟨List.length_eq_zero_iff.1 hal0, List.length_eq_zero_iff.1 hbl0⟩
 · simp [t0, -arep]
   have hq2 := hold _ _ hq
   refine zaG (fun m T' H' => T' 25 = .sl q 0 1 2 2 false /\ T' 26 = .int .i64 2 /\ (∀ j x, H1.get j = some x -> H'.get j = some x) /\
    (m = 2 /\ T' 27 = .int .i64 0 /\ T' 6 = .sl H1.next 0 1 0 N true /\ H'.get H1.next = some (.cells (strCs [] ++ arep [.int .u8 0] N)) \/
     m = 1 /\ T' 27 = .int .i64 1 /\ T' 6 = .sl H1.next 0 1 a.length N true /\ H'.get H1.next = some (.cells (strCs a ++ (arep [.int .u8 0] N).drop a.length)) \/
     m = 0 /\ T' 27 = .int .i64 2 /\ T' 6 = .sl H1.next 0 1 N N true /\ ∃ junk, H'.get H1.next = some (.cells (strCs (a ++ b) ++ junk)))) 2 ?_ ?_
   · refine ⟨by simp, by simp, fun j x hj => ?_, .inl ⟨rfl, by simp, by simp, by simp [strCs, -arep]⟩⟩
     simp [hold j x hj, hj]
   rintro m T H3 ⟨t25, t26, hs, ⟨rfl, t27, t6, hg⟩ | ⟨rfl, t27, t6, hg⟩ | ⟨rfl, t27, t6, junk, hg⟩⟩
   · have hq3 := hs _ _ hq
     have k1 : a.length <= N := by omega
     simp [t25, t26, t27, t6, hq3, hg, w3, a1, a2, a3, k1, arep_len, za7, zac, strCs, -arep, -zaj, -zar]
     intro j x hj
     simp [hold j x hj]
     exact hs j x hj
   · have hq3 := hs _ _ hq
     have k1 : a.length + b.length <= N := by omega
     have k2 : b.length <= N - a.length := by omega
     simp [t25, t26, t27, t6, hq3, hg, w4, b1, b2, b3, k1, k2, arep_len, za7, zac, -arep, -zaj, -zar]
     refine ⟨fun j x hj => ?_, hN.symm, _, by rw [strCs_app, List.append_assoc]⟩
     simp [hold j x hj]
     exact hs j x hj
   · simp [t25, t26, t27, t6]
     exact ⟨hs, H1.next, ⟨rfl, hN⟩, Nat.le_refl _, ⟨junk, hg⟩, by omega⟩
def FlAt (n s : AV) (f : Fl) : Prop := BtA n f.now /\ BtA s f.synced
def dkV (n0 s0 n1 s1 n2 s2 : AV) (d : Dk) : List AV := [n0, s0, .bool d.f0.other, n1, s1, .bool d.f1.other, n2, s2, .bool d.f2.other, .bool d.off, .bool d.crashed, .int .i64 d.fuse, .int .i64 d.lives]
def DkC (cs : List AV) (d : Dk) : Prop := ∃ n0 s0 n1 s1 n2 s2, cs = dkV n0 s0 n1 s1 n2 s2 d /\ FlAt n0 s0 d.f0 /\ FlAt n1 s1 d.f1 /\ FlAt n2 s2 d.f2
def DkAt (H : AHeap) (k : Nat) (d : Dk) : Prop := ∃ cs, DkC cs d /\ H.get k = some (.cells cs)
def DkTo (H h : AHeap) (k : Nat) (d : Dk) : Prop := ∃ cs, DkC cs d /\ h = H.set k (.cells cs)
theorem DkTo.at {H h : AHeap} {k : Nat} {d : Dk} (t : DkTo H h k d) : DkAt h k d := by
 obtain ⟨cs, h1, rfl⟩ := t
 exact ⟨cs, h1, by simp⟩
theorem DkTo.off {H h : AHeap} {k : Nat} {d : Dk} (t : DkTo H h k d) {j : Nat} (hj : j ≠ k) : h.get j = H.get j := by
 obtain ⟨cs, h1, rfl⟩ := t
 simp [hj]
def dkOk (d : Dk) : Prop := 0 <= d.fuse /\ d.fuse <= 9223372036854775807 /\ 0 <= d.lives /\ d.lives <= 1000000000 /\ d.f0.now.length <= 262144 /\ d.f1.now.length <= 262144 /\ d.f2.now.length <= 262144 /\ d.f0.synced.length <= 262144 /\ d.f1.synced.length <= 262144 /\ d.f2.synced.length <= 262144
theorem set_self {H : AHeap} {k : Nat} {x : AObj} (h : H.get k = some x) : H.set k x = H := by
 refine AHeap.ext' rfl fun i => ?_
 simp only [AHeap.get_set]
 split
 · rename_i e; rw [e, h]
 · rfl
theorem may_does {H : AHeap} {k : Nat} {d : Dk} (hk : DkAt H k d) {n : Nat} (hn : n < 3) : Does Tryz.prog G 24 [.ptr k 0, .int .i64 n] H fun r h => r = .int .i64 (if d.off = true then 4 else 0) /\ h = H := by
 obtain ⟨cs, ⟨n0, s0, n1, s1, n2, s2, rfl, _⟩, hk⟩ := hk
 refine zad Tryz.call24 Tryz.func24 rfl (by simp [Tryz.f24]) ?_
 have c1 : ¬ (n : Int) < 0 := by omega
 have c2 : ¬ (3 : Int) <= n := by omega
 obtain ⟨f0, f1, f2, off, crashed, fuse, lives⟩ := d
 cases off <;> simp [c1, c2, hk, dkV]
theorem blown_does {H : AHeap} {k : Nat} {d : Dk} (hk : DkAt H k d) (hd : dkOk d) : Does Tryz.prog G 27 [.ptr k 0] H fun r h => r = .bool d.blown.1 /\ DkTo H h k d.blown.2 := by
 obtain ⟨cs, ⟨n0, s0, n1, s1, n2, s2, rfl, hf⟩, hk⟩ := hk
 obtain ⟨d1, d2, d3, d4, _⟩ := hd
 refine zad Tryz.call27 Tryz.func27 rfl (by simp [Tryz.f27]) ?_
 obtain ⟨f0, f1, f2, off, crashed, fuse, lives⟩ := d
 simp only at d1 d2 d3 d4 hf
 have w1 : IntKind.i64.wrap (fuse - 1) = fuse - 1 := IntWalk.i64_in _ (by omega)
 by_cases h0 : fuse = 0
 · subst h0
   simp [hk, dkV, Dk.blown]
   exact ⟨_, ⟨n0, s0, n1, s1, n2, s2, rfl, hf⟩, (set_self hk).symm⟩
 · by_cases h1 : 0 < fuse - 1
   · have h1' : 1 < fuse := by omega
     simp [hk, dkV, Dk.blown, h0, h1, h1', w1]
     exact ⟨_, ⟨n0, s0, n1, s1, n2, s2, rfl, hf⟩, rfl⟩
   · have h1' : ¬ 1 < fuse := by omega
     simp [hk, dkV, Dk.blown, h0, h1, h1', w1]
     exact ⟨_, ⟨n0, s0, n1, s1, n2, s2, rfl, hf⟩, rfl⟩
theorem dkOk_blown {d : Dk} (h : dkOk d) : dkOk d.blown.2 := by
 obtain ⟨h1, h2, h3, h4, h5⟩ := h
 unfold Dk.blown
 split
 · exact ⟨h1, h2, h3, h4, h5⟩
 · split
   · exact ⟨by simp only; omega, by simp only; omega, h3, h4, h5⟩
   · exact ⟨by simp only; omega, by simp only; omega, h3, h4, h5⟩
theorem file_len {d : Dk} (hd : dkOk d) (n : Nat) : (d.file n).now.length <= 262144 := by
 obtain ⟨_, _, _, _, h0, h1, h2, _⟩ := hd
 unfold Dk.file
 split
 · exact h0
 · split
   · exact h1
   · exact h2
theorem nowAt {H : AHeap} {k : Nat} {d : Dk} (hk : DkAt H k d) {n : Nat} (hn : n < 3) : ∃ cs v, H.get k = some (.cells cs) /\ cs.length = 13 /\ cs[3 * n]? = some v /\ BtA v (d.file n).now /\ DkC cs d := by
 obtain ⟨cs, hc, hg⟩ := hk
 have hc' := hc
 obtain ⟨n0, s0, n1, s1, n2, s2, rfl, h0, h1, h2⟩ := hc
 match n, hn with
 | 0, _ => exact ⟨_, n0, hg, rfl, rfl, h0.1, hc'⟩
 | 1, _ => exact ⟨_, n1, hg, rfl, rfl, h1.1, hc'⟩
 | 2, _ => exact ⟨_, n2, hg, rfl, rfl, h2.1, hc'⟩
theorem settle_does {H : AHeap} {k : Nat} {d : Dk} (hk : DkAt H k d) (hd : dkOk d) {n : Nat} (hn : n < 3) :
  Does Tryz.prog G 28 [.ptr k (n * 3)] H fun r h => DkTo H h k (d.setF n (d.file n).settle) := by
 have hfl := file_len hd n
 obtain ⟨cs, ⟨n0, s0, n1, s1, n2, s2, rfl, h0, h1, h2⟩, hg⟩ := hk
 refine zad Tryz.call28 Tryz.func28 rfl (by simp [Tryz.f28]) ?_
 obtain ⟨f0, f1, f2, off, crashed, fuse, lives⟩ := d
 match n, hn with
 | 0, _ =>
   simp [hg, dkV]
   refine zab (cloneB_does h0.1 (by simp [Dk.file] at hfl; simp only; omega) _) ?_
   rintro r h ⟨hr, rfl⟩
   simp [hg, dkV, hr.cells, hr.sc]
   exact ⟨_, ⟨n0, r, n1, s1, n2, s2, rfl, ⟨h0.1, hr⟩, h1, h2⟩, by simp [dkV, Dk.setF, Dk.file, Fl.settle]⟩
 | 1, _ =>
   simp [hg, dkV]
   refine zab (cloneB_does h1.1 (by simp [Dk.file] at hfl; simp only; omega) _) ?_
   rintro r h ⟨hr, rfl⟩
   simp [hg, dkV, hr.cells, hr.sc]
   exact ⟨_, ⟨n0, s0, n1, r, n2, s2, rfl, h0, ⟨h1.1, hr⟩, h2⟩, by simp [dkV, Dk.setF, Dk.file, Fl.settle]⟩
 | 2, _ =>
   simp [hg, dkV]
   refine zab (cloneB_does h2.1 (by simp [Dk.file] at hfl; simp only; omega) _) ?_
   rintro r h ⟨hr, rfl⟩
   simp [hg, dkV, hr.cells, hr.sc]
   exact ⟨_, ⟨n0, s0, n1, s1, n2, r, rfl, h0, h1, ⟨h2.1, hr⟩⟩, by simp [dkV, Dk.setF, Dk.file, Fl.settle]⟩
theorem sync_does {H : AHeap} {k : Nat} {d : Dk} (hk : DkAt H k d) (hd : dkOk d) {n : Nat} (hn : n < 3) :
  Does Tryz.prog G 9 [.ptr k 0, .int .i64 n] H fun r h => r = .int .i64 (d.sync n).1 /\ DkTo H h k (d.sync n).2 := by
 refine zad Tryz.call9 Tryz.func9 rfl (by simp [Tryz.f9]) ?_
 simp
 refine zab (may_does hk hn) ?_
 rintro r h ⟨rfl, rfl⟩
 by_cases hoff : d.off = true
 · have e : d.sync n = (4, d) := by simp [Dk.sync, hoff]
   simp [hoff, e]
   obtain ⟨cs, hc, hg⟩ := hk
   exact ⟨cs, hc, (set_self hg).symm⟩
 simp [hoff]
 refine zab (blown_does hk hd) ?_
 rintro r h2 ⟨rfl, ht⟩
 have hx : d.sync n = if d.blown.1 = true then (4, d.blown.2) else (0, d.blown.2.setF n (d.blown.2.file n).settle) := by simp [Dk.sync, hoff]
 have hd2 := dkOk_blown hd
 generalize d.blown = y at *
 obtain ⟨y1, y2⟩ := y
 simp only at *
 cases y1
 case true =>
  simp [hx]
  exact ht
 have hat := ht.at
 obtain ⟨cs, v, hg, hcl, hv, hbv, hC⟩ := nowAt hat hn
 have c1 : (n : Int) < 3 := by omega
 have c2 : n * 3 <= cs.length := by omega
 simp [hg, c1, c2, hn]
 refine zab (settle_does hat hd2 hn) ?_
 rintro r h3 ht3
 simp [hx]
 obtain ⟨cs', hc', rfl⟩ := ht3
 obtain ⟨cs'', hc'', rfl⟩ := ht
 exact ⟨cs', hc', by simp⟩
theorem dkOk_setF {d : Dk} (h : dkOk d) (n : Nat) {f : Fl} (h1 : f.now.length <= 262144) (h2 : f.synced.length <= 262144) : dkOk (d.setF n f) := by
 obtain ⟨k1, k2, k3, k4, k5, k6, k7, k8, k9, k10⟩ := h
 unfold Dk.setF
 split
 · exact ⟨k1, k2, k3, k4, h1, k6, k7, h2, k9, k10⟩
 · split
   · exact ⟨k1, k2, k3, k4, k5, h1, k7, k8, h2, k10⟩
   · exact ⟨k1, k2, k3, k4, k5, k6, h1, k8, k9, h2⟩
theorem synced_len {d : Dk} (hd : dkOk d) (n : Nat) : (d.file n).synced.length <= 262144 := by
 obtain ⟨_, _, _, _, _, _, _, h0, h1, h2⟩ := hd
 unfold Dk.file
 split
 · exact h0
 · split
   · exact h1
   · exact h2
theorem power_does {H : AHeap} {k : Nat} {d : Dk} (hk : DkAt H k d) : Does Tryz.prog G 79 [.ptr k 0] H fun r h => r = .bool (!d.off) /\ h = H := by
 obtain ⟨cs, ⟨n0, s0, n1, s1, n2, s2, rfl, h0, h1, h2⟩, hg⟩ := hk
 refine zad Tryz.call79 Tryz.func79 rfl (by simp [Tryz.f79]) ?_
 simp [hg, dkV]
theorem lives_does {H : AHeap} {k : Nat} {d : Dk} (hk : DkAt H k d) : Does Tryz.prog G 33 [.ptr k 0] H fun r h => r = .int .i64 d.lives /\ h = H := by
 obtain ⟨cs, ⟨n0, s0, n1, s1, n2, s2, rfl, h0, h1, h2⟩, hg⟩ := hk
 refine zad Tryz.call33 Tryz.func33 rfl (by simp [Tryz.f33]) ?_
 simp [hg, dkV]
def LsL (H : AHeap) (v : AV) (l : List Bs) : Prop := (v = .nilsl /\ l = []) \/ ∃ i op vs, v = .sl i 0 1 l.length l.length op /\ H.get i = some (.cells vs) /\ Bts vs l
theorem LsL.len {H : AHeap} {v : AV} {l : List Bs} (h : LsL H v l) : alen Tryz.prog 87 v = some (.int .i64 l.length) := by
 rcases h with ⟨rfl, rfl⟩ | ⟨i, op, vs, rfl, _⟩ <;> simp [alen]
theorem LsL.keep {H H' : AHeap} {v : AV} {l : List Bs} (h : LsL H v l) (hk : ∀ i op, v = .sl i 0 1 l.length l.length op -> H'.get i = H.get i) : LsL H' v l := by
 rcases h with h | ⟨i, op, vs, rfl, hg, hv⟩
 · exact .inl h
 · exact .inr ⟨i, op, vs, rfl, by rw [hk i op rfl]; exact hg, hv⟩
structure Lg where
 l : List Bs
 synced : Int
 lives : Int
 done : Bool
def lgV (k : Nat) (lv : AV) (L : Lg) : List AV := [.ptr k 0, lv, .int .i64 L.synced, .int .i64 L.lives, .bool L.done]
def LgAt (H : AHeap) (g k : Nat) (lv : AV) (L : Lg) : Prop := H.get g = some (.cells (lgV k lv L)) /\ LsL H lv L.l
theorem Lg.ne_g {H : AHeap} {g k : Nat} {lv : AV} {L : Lg} (h : LgAt H g k lv L) {i : Nat} {op : Bool} (e : lv = .sl i 0 1 L.l.length L.l.length op) : i ≠ g := by
 obtain ⟨h1, h2⟩ := h
 rintro rfl
 rcases h2 with ⟨rfl, _⟩ | ⟨j, op', vs, e2, hg, hv⟩
 · cases e
 · rw [e] at e2; cases e2
   rw [h1] at hg
   simp only [Option.some.injEq, AObj.cells.injEq] at hg
   rw [<- hg] at hv
   unfold lgV at hv
   generalize L.l = ll at hv
   cases hv with | cons h t => rcases h with ⟨h, _⟩ | ⟨ts, h⟩ <;> cases h
theorem Lg.ne_k {H : AHeap} {k : Nat} {d : Dk} (hk : DkAt H k d) {v : AV} {l : List Bs} (h2 : LsL H v l) {i : Nat} {op : Bool} (e : v = .sl i 0 1 l.length l.length op) : i ≠ k := by
 obtain ⟨cs, ⟨n0, s0, n1, s1, n2, s2, rfl, _⟩, hg⟩ := hk
 rintro rfl
 rcases h2 with ⟨rfl, _⟩ | ⟨j, op', vs, e2, hg', hv⟩
 · cases e
 · rw [e] at e2; cases e2
   rw [hg] at hg'
   simp only [Option.some.injEq, AObj.cells.injEq] at hg'
   rw [<- hg'] at hv
   unfold dkV at hv
   cases hv with | cons h t => cases t with | cons h t => cases t with | cons h t => rcases h with ⟨h, _⟩ | ⟨ts, h⟩ <;> cases h
theorem lgOff_does {H : AHeap} {g k : Nat} {lv : AV} {L : Lg} {d : Dk} (hg : LgAt H g k lv L) (hk : DkAt H k d) (hd : L.done = false) (ho : d.off = false) :
  Does Tryz.prog G 142 [.ptr g 0] H fun r h => r = .bool (d.lives != L.lives) /\ h = H.set g (.cells (lgV k lv { L with done := d.lives != L.lives })) := by
 have hpw := fun H' (h : DkAt H' k d) => power_does (G := G) h
 have hlv := fun H' (h : DkAt H' k d) => lives_does (G := G) h
 refine zad Tryz.call142 Tryz.func142 rfl (by simp [Tryz.f142]) ?_
 obtain ⟨l, synced, lives, done⟩ := L
 simp only at hd
 subst hd
 simp
 refine zam [(4, 0), (9, 0), (17, 11), (22, 11), (22, 19)] zag (by kernel_rfl) ?_
 intro es hes
 simp [hg.1, lgV]
 refine ⟨_, _, (hpw H hk), Nat.le_refl _, ?_⟩
 simp [hg.1, lgV, ho]
 refine ⟨_, _, (hlv H hk), Nat.le_refl _, ?_⟩
 simp [hg.1, lgV, ho]
 refine ⟨by subst hes; exact ⟨by kernel_rfl, by kernel_rfl⟩, ?_⟩
 simp [rds, heapF, hg.1, lgV]
theorem lgTell_does {H : AHeap} {g k : Nat} {lv : AV} {L : Lg} (hg : LgAt H g k lv L) (e : Int) :
  Does Tryz.prog G 143 [.ptr g 0, .int .i64 e] H fun r h => r = .int .i64 e /\ h = H.set g (.cells (lgV k lv { L with done := L.done || decide (e = 4) })) := by
 refine zad Tryz.call143 Tryz.func143 rfl (by simp [Tryz.f143]) ?_
 obtain ⟨l, synced, lives, done⟩ := L
 cases done <;> simp [hg.1, lgV]
theorem lgSync_does {H : AHeap} {g k : Nat} {lv : AV} {L : Lg} {d : Dk} (hg : LgAt H g k lv L) (hk : DkAt H k d) (hd : L.done = false) (ho : d.off = false) (hok : dkOk d) (hfu : d.fuse = 0) (hgk : g ≠ k) (hlv : d.lives = L.lives) :
  Does Tryz.prog G 133 [.ptr g 0] H fun r h => r = .int .i64 0 /\ LgAt h g k lv { L with synced := L.l.length } /\ DkAt h k (d.sync 0).2 /\ h.next = H.next /\ ∀ j, j ≠ g -> j ≠ k -> h.get j = H.get j := by
 have hne : (d.lives != L.lives) = false := by simp [hlv]
 have hs0 : (d.sync 0).1 = 0 := by simp [Dk.sync, ho, Dk.blown, hfu]
 refine zad Tryz.call133 Tryz.func133 rfl (by simp [Tryz.f133]) ?_
 simp
 refine zab (lgOff_does hg hk hd ho) ?_
 rintro r h ⟨rfl, rfl⟩
 have e1 : H.set g (.cells (lgV k lv { L with done := d.lives != L.lives })) = H := by
  refine set_self ?_
  rw [hg.1, hne]
  obtain ⟨l, synced, lives, done⟩ := L
  simp only at hd; subst hd; rfl
 rw [e1]
 simp [hne, hg.1, lgV]
 refine zab (sync_does (n := 0) hk hok (by decide)) ?_
 rintro r h ⟨rfl, ht⟩
 have hk2 := ht.at
 have hoff := fun {j : Nat} (hj : j ≠ k) => ht.off hj
 have hg2 : LgAt h g k lv L := by
  refine ⟨by rw [hoff hgk]; exact hg.1, hg.2.keep fun i op e => hoff ?_⟩
  exact Lg.ne_k hk hg.2 e
 simp
 refine zab (lgTell_does hg2 _) ?_
 rintro r h2 ⟨rfl, rfl⟩
 have hll := hg.2.len
 simp [hs0, lgV, hll, -alen]
 refine ⟨⟨by simp [lgV], hg2.2.keep fun i op e => ?_⟩, ?_, ?_, fun j h1 h2 => ?_⟩
 · have := Lg.ne_g hg e
   simp [this]
 · obtain ⟨cs, hc, hcg⟩ := hk2
   exact ⟨cs, hc, by simp [Ne.symm hgk, hcg]⟩
 · obtain ⟨cs, hc, rfl⟩ := ht
   rfl
 · rw [if_neg h1]; exact hoff h2
def catV (a b : Bs) : AV := if a.length + b.length = 0 then .nilsl else bV (a ++ b)
theorem BtA.cat (a b : Bs) : BtA (catV a b) (a ++ b) := by
 unfold catV
 split
 · rename_i h
   have e1 : a = [] := List.length_eq_zero_iff.1 (by omega)
   have e2 : b = [] := List.length_eq_zero_iff.1 (by omega)
   rw [e1, e2]; exact .nil
 · exact .bV _
theorem concatB_x {H : AHeap} {q : Nat} {av bv : AV} {a b : Bs} (ha : BtA av a) (hb : BtA bv b) (hq : H.get q = some (.cells [av, bv])) (hl : a.length + b.length <= 1000000000) :
  Does Tryz.prog G 252 [.sl q 0 1 2 2 false] H fun r h => r = catV a b /\ h = H := by
 refine Does.wfs fun hw _ => (concatB_run ha hb hq hl).ghost fun r H1 ⟨hs, ht⟩ => ?_
 rcases ht with ⟨rfl, e⟩ | ⟨i, cap, op, junk, rfl, hi, hg, h0⟩
 · have e1 : a.length + b.length = 0 := by rw [<- List.length_append, e]; rfl
   exact ⟨_, H, Ghost.back hw rfl hs, by rw [catV, if_pos e1], rfl⟩
 · have e1 : AV.frz i (strCs (a ++ b) ++ junk) (.sl i 0 1 (a ++ b).length cap op) = bV (a ++ b) := by
    simp only [AV.frz, if_true, List.drop_zero, Nat.mul_one, bV]
    rw [List.take_left' (zac _)]
   refine ⟨_, H, (Ghost.frz hg).trans (Ghost.back hw ?_ (AHeap.frz_old hw hi hs)), by rw [e1, catV, if_neg (by omega)], rfl⟩
   rw [e1]
   simp [AV.idLt, bV, strCs_lt]
theorem change0_does {H : AHeap} {k : Nat} {d : Dk} (hk : DkAt H k d) (hf : d.fuse = 0) {bv : AV} {b : Bs} (hb : BtA bv b) (hl : b.length <= 262144) :
  ∃ cs, DkC cs (d.change 0 b false).2 /\ (d.change 0 b false).1 = 0 /\ Does Tryz.prog G 25 [.ptr k 0, .int .i64 0, bv, .bool false] H fun r h => r = .int .i64 0 /\ h = H.set k (.cells cs) := by
 obtain ⟨cs, ⟨n0, s0, n1, s1, n2, s2, rfl, h0, h1, h2⟩, hg⟩ := hk
 have hbs := hb.sc
 have hbc := hb.cells
 have hlv : alen Tryz.prog 22 bv = some (.int .i64 b.length) := by
  rcases hb with ⟨rfl, rfl⟩ | ⟨ts, rfl⟩ <;> simp [alen]
 have hA : ¬ 262144 < b.length := by omega
 have hA' : ¬ (262144 : Int) < b.length := by omega
 obtain ⟨⟨fn0, fs0, fo0⟩, f1, f2, off, crashed, fuse, lives⟩ := d
 simp only at hf
 subst hf
 have hx : (Dk.change ⟨⟨fn0, fs0, fo0⟩, f1, f2, off, crashed, 0, lives⟩ 0 b false) = (0, ⟨⟨b, fs0, fo0⟩, f1, f2, off, crashed, 0, lives⟩) := by
  simp [Dk.change, hA, Dk.blown, Dk.setF, Dk.file]
 rw [hx]
 refine ⟨dkV bv s0 n1 s1 n2 s2 ⟨⟨b, fs0, fo0⟩, f1, f2, off, crashed, 0, lives⟩, ⟨bv, s0, n1, s1, n2, s2, rfl, ⟨hb, h0.2⟩, h1, h2⟩, rfl, ?_⟩
 have hbl : Does Tryz.prog G 27 [.ptr k 0] H fun r h => r = .bool false /\ h = H := by
  refine zad Tryz.call27 Tryz.func27 rfl (by simp [Tryz.f27]) ?_
  simp [hg, dkV]
 refine zad Tryz.call25 Tryz.func25 rfl (by simp [Tryz.f25]) ?_
 simp [hlv, hA', -alen]
 refine zab hbl ?_
 rintro r h ⟨rfl, rfl⟩
 cases fo0 <;> simp [hg, dkV, hbs, hbc] <;> refine zam [(8, 0)] zag (by kernel_rfl) ?_ <;> intro es hes <;> simp [rds, heapF, hg, dkV] <;> subst hes <;> exact ⟨by kernel_rfl, by kernel_rfl⟩
theorem append0_does {H : AHeap} {k : Nat} {d : Dk} (hw : H.Wf) (hk : DkAt H k d) (hf : d.fuse = 0) (ho : d.off = false) {bv : AV} {b : Bs} (hb : BtA bv b) (hl : d.f0.now.length + b.length <= 262144) :
  ∃ x cs, DkC cs (d.append 0 b).2 /\ (d.append 0 b).1 = 0 /\ Does Tryz.prog G 208 [.ptr k 0, .int .i64 0, bv] H fun r h => r = .int .i64 0 /\ h = (H.push x).set k (.cells cs) := by
 have hlv : alen Tryz.prog 22 bv = some (.int .i64 b.length) := by
  rcases hb with ⟨rfl, rfl⟩ | ⟨ts, rfl⟩ <;> simp [alen]
 have hA : ¬ 262144 < b.length := by omega
 have hA' : ¬ (262144 : Int) < b.length := by omega
 have e : d.append 0 b = d.change 0 (d.f0.now ++ b) false := by simp [Dk.append, ho, hA, Dk.file]
 obtain ⟨cs0, v, hg, hcl, hv, hbv, hC⟩ := nowAt hk (show 0 < 3 by omega)
 have hbv : BtA v d.f0.now := hbv
 have hv' : cs0[0]? = some v := hv
 have k1 : k ≠ H.next := by have := zaa hw hg; omega
 obtain ⟨cs, hcs, he0, hdo⟩ := change0_does (G := G) (H := H.push (.cells [v, bv])) (k := k) (d := d) ⟨cs0, hC, by simp [k1, hg]⟩ hf (BtA.cat d.f0.now b) (by simp; omega)
 rw [e]
 refine ⟨.cells [v, bv], cs, hcs, he0, ?_⟩
 refine zad Tryz.call208 Tryz.func208 rfl (by simp [Tryz.f208]) ?_
 simp
 refine zab (may_does (n := 0) hk (by decide)) ?_
 rintro r h ⟨rfl, rfl⟩
 simp [ho, hlv, hA', hg, hv', hb.cells, hb.sc, hbv.cells, hbv.sc, k1, -alen]
 refine zab (concatB_x hbv hb (by simp) (by omega)) ?_
 rintro r h2 ⟨rfl, rfl⟩
 simp
 refine zab hdo ?_
 rintro r h3 ⟨rfl, rfl⟩
 simp
def LgAdded (H : AHeap) (g k : Nat) (lv : AV) (L : Lg) (d : Dk) (b : Bs) (r : AV) (h : AHeap) : Prop :=
 r = .int .i64 0 /\ ∃ i' j vs cap op, h.get g = some (.cells (lgV k (.sl i' 0 1 (L.l.length + 1) (L.l.length + 1) true) L)) /\ h.get i' = some (.cells (vs ++ [.sl j 0 1 b.length cap op])) /\ h.get j = some (.cells (strCs b)) /\ Bts vs L.l /\ j ≠ i' /\
   H.next <= i' /\ H.next <= j /\ DkAt h k (d.append 0 (frame L.l.length b)).2 /\ ∀ j x, j ≠ g -> j ≠ k -> (∀ op, lv ≠ .sl j 0 1 L.l.length L.l.length op) -> H.get j = some x -> h.get j = some x
theorem lgAdd_run {H : AHeap} {g k : Nat} {lv : AV} {L : Lg} {d : Dk} (hg : LgAt H g k lv L) (hk : DkAt H k d) (hd : L.done = false) (ho : d.off = false) (hf : d.fuse = 0) (hgk : g ≠ k) (hlv : d.lives = L.lives)
  {bv : AV} {b : Bs} (hb : BtA bv b) (hl : b.length <= 60000) (hdl : d.f0.now.length + (17 + b.length) <= 262144) (hn : L.l.length <= 1000000) :
  Does Tryz.prog G 132 [.ptr g 0, bv] H (LgAdded H g k lv L d b) := by
 refine Does.wf Tryz.call132 fun hw _ => ?_
 have hne : (d.lives != L.lives) = false := by simp [hlv]
 have h1 := hb.len
 have h2 := hb.first
 have h3 := hb.sc
 have h4 := hb.ni
 have h5 : alen Tryz.prog 22 bv = some (.int .i64 b.length) := by
  rcases hb with ⟨rfl, rfl⟩ | ⟨ts, rfl⟩ <;> simp [alen]
 have hll := hg.2.len
 have c1 : ¬ (60000 : Int) < b.length := by omega
 have w1 : IntKind.u64.wrap (L.l.length : Int) = (L.l.length : Int) := IntWalk.u64_in _ (by omega)
 obtain ⟨x, cs, hcs, he0, happ⟩ := append0_does (G := G) hw hk hf ho (.bV (frame L.l.length b)) (by rw [frame_len]; omega)
 have hfr := frame_does (G := G) (n := L.l.length) (by omega) hb hl H
 refine zad Tryz.call132 Tryz.func132 rfl (by simp [Tryz.f132]) ?_
 simp [h5, c1, -alen]
 refine zab (lgOff_does hg hk hd ho) ?_
 rintro r h ⟨rfl, rfl⟩
 have e1 : H.set g (.cells (lgV k lv { L with done := d.lives != L.lives })) = H := by
  refine set_self ?_
  rw [hg.1, hne]
  obtain ⟨l, synced, lives, done⟩ := L
  simp only at hd; subst hd; rfl
 rw [e1]
 have gn : g < H.next := zaa hw hg.1
 have gn1 : g ≠ H.next := by omega
 simp [hne]
 refine zam [(4, 0), (4, 13), (8, 0)] zag (by kernel_rfl) ?_
 intro es hes
 simp [zak, -zal, hg.1, lgV, hll, w1, -alen]
 refine ⟨_, _, hfr, Nat.le_refl _, ?_⟩
 refine ad_go (fun T' => T' 0 = .ptr g 0 /\ T' 1 = bv /\ T' 13 = .ptr g 0 /\ T' 17 = .ptr k 0 /\ T' 25 = bV (frame L.l.length b)) (by simp [hg.1, lgV]) ?_
 rintro T1 ⟨t0, t1, t13, t17, t25⟩
 simp [zak, -zal, t0, t1, t13, t17, t25]
 refine ⟨_, _, happ, by simp, ?_⟩
 refine ad_go (fun T' => T' 0 = .ptr g 0 /\ T' 1 = bv /\ T' 13 = .ptr g 0 /\ T' 26 = .int .i64 0) (by simp [t0, t1, t13]) ?_
 rintro T2 ⟨t0, t1, t13, t26⟩
 have hg2 : LgAt ((H.push x).set k (.cells cs)) g k lv L := by
  refine ⟨by simp [hgk, gn1, hg.1], hg.2.keep fun i op e => ?_⟩
  have n1 := Lg.ne_k hk hg.2 e
  have n2 : i ≠ H.next := by
   rcases hg.2 with ⟨h, _⟩ | ⟨i', op', vs, e', hgi, _⟩
   · rw [h] at e; cases e
   · rw [e] at e'; cases e'
     have := zaa hw hgi; omega
  simp [n1, n2]
 simp [zak, -zal, t0, t1, t13, t26]
 refine ⟨_, _, lgTell_does hg2 0, by simp, ?_⟩
 refine ad_go (fun T' => T' 0 = .ptr g 0 /\ T' 1 = bv /\ T' 27 = .int .i64 0) (by simp [t0, t1]) ?_
 rintro T3 ⟨t0, t1, t27⟩
 have e2 : ((H.push x).set k (.cells cs)).set g (.cells (lgV k lv { L with done := L.done || decide ((0 : Int) = 4) })) = (H.push x).set k (.cells cs) := by
  refine set_self ?_
  rw [hg2.1]
  obtain ⟨l, synced, lives, done⟩ := L
  simp only at hd; subst hd; rfl
 rw [e2]
 simp [zak, -zal, t0, t1, t27]
 refine ⟨by subst hes; exact ⟨by kernel_rfl, by kernel_rfl⟩, ?_, ?_⟩
 · simp [rds, heapF, hg.1, hgk, gn1, lgV, hll, -alen]
 have hk2 : DkAt ((H.push x).set k (.cells cs)) k (d.append 0 (frame L.l.length b)).2 := ⟨cs, hcs, by simp⟩
 have kn : k < H.next := by obtain ⟨c, _, hc⟩ := hk; exact zaa hw hc
 have hold : ∀ j y, j ≠ g -> j ≠ k -> H.get j = some y -> j < H.next /\ ((H.push x).set k (.cells cs)).get j = some y := by
  intro j y h1 h2 h3
  have := zaa hw h3
  exact ⟨this, by simp [h2]; rw [if_neg (by omega)]; exact h3⟩
 have hnx : ((H.push x).set k (.cells cs)).next = H.next + 1 := rfl
 generalize (H.push x).set k (.cells cs) = H5 at *
 refine zam [(4, 0), (4, 8)] zag (by kernel_rfl) ?_
 clear hes
 intro es hes
 have hlen : (L.l.length + 1) * 24 <= 140737488355328 := by omega
 have hlen2 : L.l.length + 1 <= 4611686018427387904 := by omega
 have hlen3 : ¬ L.l.length + 1 <= L.l.length := by omega
 have hb1 : b.length <= 140737488355328 := by omega
 have hb2 : b.length <= 4611686018427387904 := by omega
 have gn5 : g ≠ H5.next := by omega
 have gn6 : g ≠ H5.next + 1 := by omega
 have gn7 : g ≠ H5.next + 1 + 1 := by omega
 have gn8 : g ≠ H5.next + 1 + 1 + 1 := by omega
 have hg5 := hg2.1
 have q1 : ∀ i o z n c op, zar (.sl i o z n c op) = some n := fun _ _ _ _ _ _ => rfl
 have q2 : ∀ (get : Nat -> Option AObj) (z n i o z' n' c : Nat) (op : Bool), zaj get z n (.sl i o z' n' c op) = match get i with
  | some (.cells cs) => if o + n * z <= cs.length then some ((cs.drop o).take (n * z)) else none
  | _ => none := fun _ _ _ _ _ _ _ _ _ => rfl
 have hkeep : ∀ {H6 : AHeap} {vs : List AV} {i' j cap : Nat} {op : Bool}, H6.get g = some (.cells (lgV k (.sl i' 0 1 (L.l.length + 1) (L.l.length + 1) true) L)) -> H6.get i' = some (.cells (vs ++ [.sl j 0 1 b.length cap op])) -> H6.get j = some (.cells (strCs b)) -> Bts vs L.l -> j ≠ i' ->
   H.next <= i' -> H.next <= j -> (∀ j' y, j' ≠ g -> (∀ op, lv ≠ .sl j' 0 1 L.l.length L.l.length op) -> j' < H5.next -> H5.get j' = some y -> H6.get j' = some y) -> LgAdded H g k lv L d b (.int .i64 0) H6 := by
  intro H6 vs i' j cap op k1 k2 k3 k4 k5 k6 k7 k8
  refine ⟨rfl, i', j, vs, cap, op, k1, k2, k3, k4, k5, k6, k7, ?_, fun j' y h1 h2 h3 h4 => ?_⟩
  · obtain ⟨c, hc, hcg⟩ := hk2
    exact ⟨c, hc, k8 k _ (Ne.symm hgk) (fun op e => Lg.ne_k hk hg.2 e rfl) (by omega) hcg⟩
  · obtain ⟨h5, h6⟩ := hold j' y h1 h2 h4
    exact k8 j' y h1 h3 (by omega) h6
 by_cases hb0 : b.length = 0
 · have hbe : b = [] := List.length_eq_zero_iff.1 hb0
   have h2' := hb.first0 hb0
   rcases hg2.2 with ⟨rfl, hl0⟩ | ⟨i, op, vs, rfl, hgi, hvs⟩
   · simp [t0, t1, hg5, lgV, h1, h2', h3, hb0, q1, q2, gn5, gn6, gn7, gn8, -zaj, -zar]
     refine ⟨by subst hes; exact ⟨by kernel_rfl, by kernel_rfl⟩, ?_, ?_⟩
     · simp [rds, heapF, hg5, lgV, gn5, gn6, gn7, gn8]
     refine hkeep (vs := []) (i' := H5.next + 1 + 1) (j := H5.next) (cap := 0) (op := false) ?_ ?_ ?_ (by rw [hl0]; exact .nil) (by omega) (by omega) (by omega) (fun j' y h1 h2 h3 h4 => ?_)
     · simp [lgV, hbe, hl0]
     · simp [Ne.symm gn7, Ne.symm gn8, hbe, hl0]
     · simp [Ne.symm gn5, Ne.symm gn6, strCs, (by omega : ¬ H5.next + 1 = H5.next + 1 + 1 + 1), hbe, hl0] <;> omega
     · have e5 : j' ≠ H5.next := by omega
       have e6 : j' ≠ H5.next + 1 := by omega
       have e7 : j' ≠ H5.next + 1 + 1 := by omega
       have e8 : j' ≠ H5.next + 1 + 1 + 1 := by omega
       simp [h1, e5, e6, e7, e8, h4]
   · have hvl := hvs.len
     have in5 := Lg.ne_g hg2 rfl
     have in6 : i < H5.next := by
      rcases hg.2 with ⟨h, _⟩ | ⟨i', op', vs', e', hgi', _⟩
      · cases h
      · cases e'; have := zaa hw hgi'; omega
     have i1 : i ≠ H5.next := by omega
     have i2 : i ≠ H5.next + 1 := by omega
     have i3 : i ≠ H5.next + 1 + 1 := by omega
     have tkv : List.take L.l.length vs = vs := by rw [<- hvl, List.take_length]
     cases op
     · simp [t0, t1, hg5, lgV, h1, h2', h3, hb0, q1, q2, gn5, gn6, gn7, gn8, i1, i2, i3, hgi, hvl, hlen, hlen2, hlen3, tkv, in5, Ne.symm in5, -zaj, -zar]
       refine ⟨by subst hes; exact ⟨by kernel_rfl, by kernel_rfl⟩, ?_, ?_⟩
       · simp [rds, heapF, hg5, lgV, gn5, gn6, gn7, gn8]
       refine hkeep (vs := vs) (i' := H5.next + 1 + 1) (j := H5.next) (cap := 0) (op := false) ?_ ?_ ?_ hvs (by omega) (by omega) (by omega) (fun j' y h1 h2 h3 h4 => ?_)
       · simp [lgV, hbe]
       · simp [Ne.symm gn7, Ne.symm gn8, hbe]
       · simp [Ne.symm gn5, Ne.symm gn6, strCs, (by omega : ¬ H5.next + 1 = H5.next + 1 + 1 + 1), hbe] <;> omega
       · have e5 : j' ≠ H5.next := by omega
         have e6 : j' ≠ H5.next + 1 := by omega
         have e7 : j' ≠ H5.next + 1 + 1 := by omega
         have e8 : j' ≠ H5.next + 1 + 1 + 1 := by omega
         simp [h1, e5, e6, e7, e8, h4]
     · simp [t0, t1, hg5, lgV, h1, h2', h3, hb0, q1, q2, gn5, gn6, gn7, gn8, i1, i2, i3, hgi, hvl, hlen, hlen2, hlen3, tkv, in5, Ne.symm in5, -zaj, -zar]
       refine ⟨by subst hes; exact ⟨by kernel_rfl, by kernel_rfl⟩, ?_, ?_⟩
       · simp [rds, heapF, hg5, lgV, gn5, gn6, gn7, gn8, Ne.symm in5]
       refine hkeep (vs := vs) (i' := H5.next + 1 + 1) (j := H5.next) (cap := 0) (op := false) ?_ ?_ ?_ hvs (by omega) (by omega) (by omega) (fun j' y h1 h2 h3 h4 => ?_)
       · simp [lgV, hbe]
       · simp [Ne.symm gn7, Ne.symm gn8, hbe]
       · simp [Ne.symm gn5, Ne.symm gn6, strCs, (by omega : ¬ H5.next + 1 = H5.next + 1 + 1 + 1), hbe, Ne.symm i1, Ne.symm i2] <;> omega
       · have e5 : j' ≠ H5.next := by omega
         have e6 : j' ≠ H5.next + 1 := by omega
         have e7 : j' ≠ H5.next + 1 + 1 := by omega
         have e8 : j' ≠ H5.next + 1 + 1 + 1 := by omega
         have e9 : j' ≠ i := by rintro rfl; exact h2 true rfl
         simp [h1, e5, e6, e7, e8, h4, e9]
 · have hb3 : ¬ b.length <= 0 := by omega
   rcases hg2.2 with ⟨rfl, hl0⟩ | ⟨i, op, vs, rfl, hgi, hvs⟩
   · simp [t0, t1, hg5, lgV, h1, h2, hb3, hb1, hb2, za7, zac, h3, hb0, q1, q2, gn5, gn6, gn7, gn8, -zaj, -zar]
     refine ⟨by subst hes; exact ⟨by kernel_rfl, by kernel_rfl⟩, ?_, ?_⟩
     · simp [rds, heapF, hg5, lgV, gn5, gn6, gn7, gn8]
     refine hkeep (vs := []) (i' := H5.next + 1 + 1 + 1) (j := H5.next + 1) (cap := b.length) (op := true) ?_ ?_ ?_ (by rw [hl0]; exact .nil) (by omega) (by omega) (by omega) (fun j' y h1 h2 h3 h4 => ?_)
     · simp [lgV, hl0]
     · simp [Ne.symm gn7, Ne.symm gn8, hl0]
     · simp [Ne.symm gn5, Ne.symm gn6, strCs, (by omega : ¬ H5.next + 1 = H5.next + 1 + 1 + 1), hl0] <;> omega
     · have e5 : j' ≠ H5.next := by omega
       have e6 : j' ≠ H5.next + 1 := by omega
       have e7 : j' ≠ H5.next + 1 + 1 := by omega
       have e8 : j' ≠ H5.next + 1 + 1 + 1 := by omega
       simp [h1, e5, e6, e7, e8, h4]
   · have hvl := hvs.len
     have in5 := Lg.ne_g hg2 rfl
     have in6 : i < H5.next := by
      rcases hg.2 with ⟨h, _⟩ | ⟨i', op', vs', e', hgi', _⟩
      · cases h
      · cases e'; have := zaa hw hgi'; omega
     have i1 : i ≠ H5.next := by omega
     have i2 : i ≠ H5.next + 1 := by omega
     have i3 : i ≠ H5.next + 1 + 1 := by omega
     have tkv : List.take L.l.length vs = vs := by rw [<- hvl, List.take_length]
     cases op
     · simp [t0, t1, hg5, lgV, h1, h2, hb3, hb1, hb2, za7, zac, h3, hb0, q1, q2, gn5, gn6, gn7, gn8, i1, i2, i3, hgi, hvl, hlen, hlen2, hlen3, tkv, in5, Ne.symm in5, -zaj, -zar]
       refine ⟨by subst hes; exact ⟨by kernel_rfl, by kernel_rfl⟩, ?_, ?_⟩
       · simp [rds, heapF, hg5, lgV, gn5, gn6, gn7, gn8]
       refine hkeep (vs := vs) (i' := H5.next + 1 + 1 + 1) (j := H5.next + 1) (cap := b.length) (op := true) ?_ ?_ ?_ hvs (by omega) (by omega) (by omega) (fun j' y h1 h2 h3 h4 => ?_)
       · simp [lgV]
       · simp [Ne.symm gn7, Ne.symm gn8]
       · simp [Ne.symm gn5, Ne.symm gn6, strCs, (by omega : ¬ H5.next + 1 = H5.next + 1 + 1 + 1)] <;> omega
       · have e5 : j' ≠ H5.next := by omega
         have e6 : j' ≠ H5.next + 1 := by omega
         have e7 : j' ≠ H5.next + 1 + 1 := by omega
         have e8 : j' ≠ H5.next + 1 + 1 + 1 := by omega
         simp [h1, e5, e6, e7, e8, h4]
     · simp [t0, t1, hg5, lgV, h1, h2, hb3, hb1, hb2, za7, zac, h3, hb0, q1, q2, gn5, gn6, gn7, gn8, i1, i2, i3, hgi, hvl, hlen, hlen2, hlen3, tkv, in5, Ne.symm in5, -zaj, -zar]
       refine ⟨by subst hes; exact ⟨by kernel_rfl, by kernel_rfl⟩, ?_, ?_⟩
       · simp [rds, heapF, hg5, lgV, gn5, gn6, gn7, gn8, Ne.symm in5]
       refine hkeep (vs := vs) (i' := H5.next + 1 + 1 + 1) (j := H5.next + 1) (cap := b.length) (op := true) ?_ ?_ ?_ hvs (by omega) (by omega) (by omega) (fun j' y h1 h2 h3 h4 => ?_)
       · simp [lgV]
       · simp [Ne.symm gn7, Ne.symm gn8]
       · simp [Ne.symm gn5, Ne.symm gn6, strCs, (by omega : ¬ H5.next + 1 = H5.next + 1 + 1 + 1), Ne.symm i1, Ne.symm i2] <;> omega
       · have e5 : j' ≠ H5.next := by omega
         have e6 : j' ≠ H5.next + 1 := by omega
         have e7 : j' ≠ H5.next + 1 + 1 := by omega
         have e8 : j' ≠ H5.next + 1 + 1 + 1 := by omega
         have e9 : j' ≠ i := by rintro rfl; exact h2 true rfl
         simp [h1, e5, e6, e7, e8, h4, e9]
end Go.Proofs.YtekbjlihciedjaaGreatDoor
namespace Go.Rp
open Go Go.Abs
theorem frzs_append (i : Nat) (c : List AV) : ∀ a b : List AV, AV.frzs i c (a ++ b) = AV.frzs i c a ++ AV.frzs i c b
 | [], b => rfl
 | x :: a, b => by simp only [List.cons_append, AV.frzs, frzs_append i c a b]
theorem frzs_strCs (i : Nat) (c : List AV) : ∀ b : Bs, AV.frzs i c (strCs b) = strCs b
 | [] => rfl
 | x :: b => by
   have e : strCs (x :: b) = .int .u8 x.toNat :: strCs b := rfl
   rw [e]
   simp only [AV.frzs, AV.frz, frzs_strCs i c b]
theorem BtA.frz {v : AV} {bs : Bs} (h : BtA v bs) (i : Nat) (c : List AV) : BtA (v.frz i c) bs := by
 rcases h with ⟨rfl, rfl⟩ | ⟨ts, rfl⟩
 · exact .nil
 · refine .inr ⟨AV.frzs i c ts, ?_⟩
   simp only [AV.frz, frzs_append, frzs_strCs]
theorem frz_old1 {H0 H : AHeap} (hw : H0.Wf) {i : Nat} (hi : H0.next <= i) {cs : List AV} {j : Nat} {x : AObj} (h0 : H0.get j = some x) (h : H.get j = some x) : (H.frz i cs).get j = some x := by
 have h1 := hw j x h0
 simp only [AHeap.frz]
 rw [if_neg (by omega), h]
 cases x with
 | cells c => simp only; rw [AV.frzs_lt hi c h1.2]
 | row t c => simp only; rw [AV.frzs_lt hi c h1.2]
 | map es =>
   have h2 := h1.2
   rw [AObj.cellsList, AV.allLt_append, Bool.and_eq_true] at h2
   have e1 := AV.frzs_fst i cs es
   have e2 := AV.frzs_snd i cs es
   rw [AV.frzs_lt hi _ h2.1] at e1
   rw [AV.frzs_lt hi _ h2.2] at e2
   simp only
   congr 2
   exact pairs_ext e1 e2
end Go.Rp
namespace Go.Proofs.YtekbjlihciedjaaGreatDoor
open Go Go.Abs Go.Rp
variable {G : Nat -> Option AV}
theorem Bts.frz {vs : List AV} {l : List Bs} (h : Bts vs l) (i : Nat) (c : List AV) : Bts (AV.frzs i c vs) l := by
 induction h with
 | nil => exact .nil
 | cons h t ih => exact .cons (h.frz i c) ih
theorem DkC.frz {cs : List AV} {d : Dk} (h : DkC cs d) (i : Nat) (c : List AV) : DkC (AV.frzs i c cs) d := by
 obtain ⟨n0, s0, n1, s1, n2, s2, rfl, h0, h1, h2⟩ := h
 exact ⟨_, _, _, _, _, _, rfl, ⟨h0.1.frz i c, h0.2.frz i c⟩, ⟨h1.1.frz i c, h1.2.frz i c⟩, ⟨h2.1.frz i c, h2.2.frz i c⟩⟩
def LgAdd (H : AHeap) (g k : Nat) (lv : AV) (L : Lg) (d : Dk) (b : Bs) (r : AV) (h : AHeap) : Prop :=
 r = .int .i64 0 /\ ∃ i', LgAt h g k (.sl i' 0 1 (L.l.length + 1) (L.l.length + 1) true) { L with l := L.l ++ [b] } /\ H.next <= i' /\ DkAt h k (d.append 0 (frame L.l.length b)).2 /\
   ∀ j x, j ≠ g -> j ≠ k -> (∀ op, lv ≠ .sl j 0 1 L.l.length L.l.length op) -> H.get j = some x -> h.get j = some x
theorem lgAdd_does {H : AHeap} {g k : Nat} {lv : AV} {L : Lg} {d : Dk} (hg : LgAt H g k lv L) (hk : DkAt H k d) (hd : L.done = false) (ho : d.off = false) (hf : d.fuse = 0) (hgk : g ≠ k) (hlv : d.lives = L.lives)
  {bv : AV} {b : Bs} (hb : BtA bv b) (hl : b.length <= 60000) (hdl : d.f0.now.length + (17 + b.length) <= 262144) (hn : L.l.length <= 1000000) :
  Does Tryz.prog G 132 [.ptr g 0, bv] H (LgAdd H g k lv L d b) := by
 refine Does.frz1 (lgAdd_run hg hk hd ho hf hgk hlv hb hl hdl hn) ?_
 rintro hw _ r H1 ⟨rfl, i', j, vs, cap, op, k1, k2, k3, k4, k5, k6, k7, ⟨cs, hC, hcs⟩, k9⟩
 have gj : g ≠ j := by have := zaa hw hg.1; omega
 have kj : k ≠ j := by obtain ⟨c, _, hc⟩ := hk; have := zaa hw hc; omega
 have e1 : (strCs b).take b.length = strCs b := take_strCs b
 refine ⟨j, strCs b, k7, k3, rfl, i', ⟨?_, .inr ⟨i', true, AV.frzs j (strCs b) vs ++ [bV b], by simp, ?_, (k4.frz j (strCs b)).snoc (.bV b)⟩⟩, k6, ⟨_, hC.frz j (strCs b), frz_get hcs kj⟩, fun j' x h1 h2 h3 h4 => frz_old1 hw k7 h4 (k9 j' x h1 h2 h3 h4)⟩
 · rw [frz_get k1 gj]
   simp [lgV, AV.frzs, AV.frz, kj, Ne.symm k5]
 · rw [frz_get k2 (Ne.symm k5)]
   simp [frzs_append, AV.frzs, AV.frz, e1, bV]
theorem Bts.get {vs : List AV} {l : List Bs} (h : Bts vs l) : ∀ {n : Nat} {b : Bs}, l[n]? = some b -> ∃ v, vs[n]? = some v /\ BtA v b := by
 induction h with
 | nil => intro n b h; simp at h
 | cons h t ih =>
   intro n b hn
   cases n with
   | zero => simp at hn; subst hn; exact ⟨_, rfl, h⟩
   | succ n => simpa using ih (by simpa using hn)
theorem sync_zero {d : Dk} (ho : d.off = false) (hf : d.fuse = 0) (n : Nat) : d.sync n = (0, d.setF n (d.file n).settle) := by simp [Dk.sync, ho, Dk.blown, hf]
def ints (l : List Int) : List AV := l.map (.int .i64 ·)
theorem zaS (l : List Int) : (ints l).length = l.length := by simp [ints]
theorem ints_lt (n : Nat) : ∀ l : List Int, AV.allLt n (ints l) = true
 | [] => rfl
 | v :: l => by
   have := ints_lt n l
   simp only [ints, List.map_cons, AV.allLt] at this ⊢
   rw [this]; rfl
theorem ints_sc (l : List Int) : (ints l).all AV.scalar = true := by simp [ints]
def RowA (v : AV) (row : Option (List Int)) : Prop := (v = .nilsl /\ row = none) \/ ∃ ts l, v = .vsl (ints l ++ ts) l.length /\ row = some l
def rowV : Option (List Int) -> AV
 | none => .nilsl
 | some l => .vsl (ints l) l.length
theorem RowA.rowV (row : Option (List Int)) : RowA (rowV row) row := by
 cases row with
 | none => exact .inl ⟨rfl, rfl⟩
 | some l => exact .inr ⟨[], l, by simp [Proofs.YtekbjlihciedjaaGreatDoor.rowV], rfl⟩
theorem cloneRow_does {v : AV} {row : Option (List Int)} (hv : RowA v row) (hl : (row.getD []).length <= 1000000000) (H : AHeap) :
  Does Tryz.prog G 84 [v] H fun r h => r = rowV row /\ h = H := by
 rcases hv with ⟨rfl, rfl⟩ | ⟨ts, l, rfl, rfl⟩
 · refine zad Tryz.call84 Tryz.func84 rfl (by simp [Tryz.f84]) ?_
   simp [rowV]
 · have hl : l.length <= 1000000000 := hl
   refine fresh_sl (z := 1) (by simp [ints]) (ints_lt _ _) ?_
   refine Does.wf Tryz.call84 fun hw _ => ?_
   have k1 : l.length * 8 <= 140737488355328 := by omega
   have k2 : l.length <= 4611686018427387904 := by omega
   have hold : ∀ j x, H.get j = some x -> j ≠ H.next /\ j ≠ H.next + 1 := fun j x hj => by have l := zaa hw hj; omega
   refine zad Tryz.call84 Tryz.func84 rfl (by simp [Tryz.f84]) ?_
   by_cases h0 : l.length = 0
   · have hb : l = [] := List.length_eq_zero_iff.1 h0
     subst hb
     simp [ints]
     intro j x hj
     obtain ⟨e0, e1⟩ := hold j x hj
     simp [e0, hj]
   · have h1 : ¬ l.length <= 0 := by omega
     have tk : List.take l.length (ints l ++ ts) = ints l := List.take_left' (zaS l)
     simp [h0, h1, k1, k2, tk, ints_sc, zaS]
     intro j x hj
     obtain ⟨e0, e1⟩ := hold j x hj
     simp [e0, e1, hj]
def enV (e : En) (v : AV) : AV := .agg [.int .u64 e.id, .int .u64 e.view, v]
theorem RowA.cells {v : AV} {row : Option (List Int)} (h : RowA v row) : v.cells = [v] := by rcases h with ⟨rfl, _⟩ | ⟨ts, l, rfl, _⟩ <;> rfl
theorem RowA.sc {v : AV} {row : Option (List Int)} (h : RowA v row) : v.scalar = true := by rcases h with ⟨rfl, _⟩ | ⟨ts, l, rfl, _⟩ <;> rfl
theorem rowV_lt (n : Nat) (row : Option (List Int)) : AV.idLt n (rowV row) = true := by
 cases row with
 | none => rfl
 | some l => simp [rowV, AV.idLt, ints_lt]
theorem copyEn_does {e : En} {v : AV} (hv : RowA v e.row) (hl : e.l.length <= 1000000000) (H : AHeap) : Does Tryz.prog G 50 [enV e v] H fun r h => r = enV e (rowV e.row) /\ h = H := by
 refine Does.forgot (R := fun r h => r = enV e (rowV e.row) /\ ∀ j x, H.get j = some x -> h.get j = some x) ?_ (fun hw ha r H1 ⟨h1, h2⟩ => ⟨h2, by rw [h1]; simp [enV, AV.idLt, AV.allLt, rowV_lt], h1, rfl⟩)
 refine Does.wf Tryz.call50 fun hw _ => ?_
 have hr := RowA.rowV e.row
 refine zad Tryz.call50 Tryz.func50 rfl (by simp [Tryz.f50]) ?_
 simp [enV]
 refine zab (cloneRow_does hv hl _) ?_
 rintro r h ⟨rfl, rfl⟩
 simp [hr.cells, hr.sc, enV]
 intro j x hj
 have := zaa hw hj
 have e0 : j ≠ H.next := by omega
 have e1 : j ≠ H.next + 1 := by omega
 simp [e0, e1, hj]
theorem encIs_le {l : List Int} (h : ∀ v ∈ l, i64 v) : (encIs l).length <= 10 * l.length := by
 induction l with
 | nil => simp [encIs]
 | cons v l ih =>
   have h1 := ih fun x hx => h x (by simp [hx])
   have h2 := zan (zig_lt (h v (by simp)))
   simp [encIs, encI] at h1 ⊢
   omega
theorem encIs_app (a b : List Int) : encIs (a ++ b) = encIs a ++ encIs b := by simp [encIs]
theorem putEn_does {e : En} {v : AV} (hv : RowA v e.row) (hok : e.ok) (hl : e.l.length <= 1000000) (H : AHeap) : Does Tryz.prog G 210 [enV e v] H fun r h => r = bV (encEn e) /\ h = H := by
 refine Does.forgot (R := fun r h => r = bV (encEn e) /\ ∀ j x, H.get j = some x -> h.get j = some x) ?_ (fun hw ha r H1 ⟨h1, h2⟩ => ⟨h2, by rw [h1]; simp [AV.idLt, bV, strCs_lt], h1, rfl⟩)
 refine Does.wf Tryz.call210 fun hw _ => ?_
 obtain ⟨o1, o2, o3, o4⟩ := hok
 have l1 := zan o1
 have l2 := zan o2
 have l3 := zan (u := e.l.length) (by omega)
 refine zad Tryz.call210 Tryz.func210 rfl (by simp [Tryz.f210]) ?_
 have hc := hv.cells
 have hs := hv.sc
 have hlv : alen Tryz.prog 45 v = some (.int .i64 e.l.length) := by
  rcases hv with ⟨rfl, h⟩ | ⟨ts, l, rfl, h⟩
  · simp [alen, En.l, h]
  · simp [alen, En.l, h]
 have w1 : IntKind.u64.wrap (e.l.length : Int) = (e.l.length : Int) := IntWalk.u64_in _ (by omega)
 simp [enV]
 refine zam [(1, 0), (4, 0), (4, 3)] zag (by kernel_rfl) ?_
 intro es hes
 simp [zak, -zal, hc, hs]
 refine ⟨_, _, zaQ (bs := []) o1 .nil (by simp) _, Nat.le_refl _, ?_⟩
 refine ad_go (fun T' => T' 1 = .ptr H.next 0 /\ T' 8 = bV ([] ++ encU e.id)) (by simp) ?_
 rintro T1 ⟨t1, t8⟩
 simp [zak, -zal, t1, t8, hc, hs]
 refine ⟨_, _, zaQ (bs := [] ++ encU e.id) o2 (.bV _) (by simp; omega) _, Nat.le_refl _, ?_⟩
 refine ad_go (fun T' => T' 1 = .ptr H.next 0 /\ T' 11 = bV (encU e.id ++ encU e.view)) (by simp [t1]) ?_
 rintro T2 ⟨t1, t11⟩
 simp [zak, -zal, t1, t11, hc, hs, hlv, w1, -alen]
 refine ⟨by subst hes; exact ⟨by kernel_rfl, by kernel_rfl⟩, ?_, ?_⟩
 · simp [rds, heapF, hc]
 refine zab (zaQ (u := e.l.length) (by omega) (.bV (encU e.id ++ encU e.view)) (by simp; omega) _) ?_
 rintro r h ⟨rfl, rfl⟩
 simp [t1, hc, hs, hlv, -alen]
 have hkeep : ∀ j y, H.get j = some y -> j ≠ H.next := fun j y hj => by have := zaa hw hj; omega
 have hle := encIs_le o4
 refine zaG (fun m T' H' => ∃ i : Nat, i + m = e.l.length /\ H' = H.push (.cells [.int .u64 e.id, .int .u64 e.view, v]) /\ T' 19 = v /\ T' 20 = .int .i64 e.l.length /\ T' 21 = .int .i64 i /\ T' 3 = bV (encU e.id ++ (encU e.view ++ (encU e.l.length ++ encIs (e.l.take i))))) e.l.length ?_ ?_
 · exact ⟨0, by simp, rfl, by simp, by simp, by simp, by simp [encIs]⟩
 rintro m T H1 ⟨i, him, rfl, t19, t20, t21, t3⟩
 by_cases hi : i < e.l.length
 · obtain ⟨ts, rfl⟩ : ∃ ts, v = .vsl (ints e.l ++ ts) e.l.length := by
    rcases hv with ⟨_, h⟩ | ⟨ts, l, h, h2⟩
    · have : e.l = [] := by simp [En.l, h]
      rw [this] at hi; simp at hi
    · have hel : e.l = l := by simp [En.l, h2]
      exact ⟨ts, by rw [hel]; exact h⟩
   have he : e.l[i]? = some e.l[i] := List.getElem?_eq_getElem hi
   have hmem : e.l[i] ∈ e.l := List.getElem_mem hi
   have htk : e.l.take (i + 1) = e.l.take i ++ [e.l[i]] := by rw [List.take_add_one, he]; rfl
   generalize e.l[i] = x at *
   have hat : (ints e.l ++ ts)[i]? = some (.int .i64 x) := by
    rw [List.getElem?_append_left (by rw [zaS]; exact hi)]
    simp [ints, he]
   have hii : (i : Int) < e.l.length := by omega
   have wi : IntKind.i64.wrap ((i : Int) + 1) = ((i + 1 : Nat) : Int) := by rw [IntWalk.i64_in _ (by omega)]; omega
   have hl2 : (encIs (e.l.take i)).length <= 10 * e.l.length := by
    have := encIs_le (l := e.l.take i) fun v hv => o4 v (List.mem_of_mem_take hv)
    rw [List.length_take] at this; omega
   simp [t19, t20, t21, t3, hat, hii, hi]
   refine zab (packI_does (o4 x hmem) (.bV (encU e.id ++ (encU e.view ++ (encU e.l.length ++ encIs (e.l.take i))))) (by simp; omega) _) ?_
   rintro r h ⟨rfl, rfl⟩
   simp [t19, t20, t21, wi]
   exact ⟨m - 1, by omega, i + 1, by omega, by push_cast; rfl, by rw [htk, encIs_app]; simp [encIs]⟩
 · have hii : ¬ (i : Int) < e.l.length := by omega
   have e0 : i = e.l.length := by omega
   simp [t19, t20, t21, t3, hii, hi]
   refine ⟨by rw [e0, List.take_length]; simp [encEn], fun j y hj => ?_⟩
   simp [hkeep j y hj, hj]
def rdV (v : AV) (b : Bs) : AV := match rdU b with
 | none => .nilsl
 | some (_, t) => if t.length = 0 then .vsl [] 0 else match v with
   | .vsl cs _ => .vsl (cs.drop (b.length - t.length)) t.length
   | w => w
theorem rdV_len {i n : Nat} (h : i < n) : n - (n - (i + 1)) = i + 1 := by omega
theorem rdGo_suf : ∀ (b : Bs) (i a u : Nat) (t : Bs), rdGo i a b = some (u, t) -> t <:+ b
 | [], _, _, _, _, h => by simp [rdGo] at h
 | x :: r, i, a, u, t, h => by
   rw [rdGo] at h
   split at h
   · simp at h
   · split at h
     · exact (rdGo_suf r _ _ u t h).trans (List.suffix_cons x r)
     · split at h
       · simp at h
       · simp only [Option.some.injEq, Prod.mk.injEq] at h
         obtain ⟨rfl, rfl⟩ := h
         exact List.suffix_cons x r
theorem rdV_bt {v : AV} {b : Bs} {bad : Bool} (hv : BtA v b) : BtA (rdV v b) (Rd.U ⟨b, bad⟩).2.b := by
 unfold rdV Rd.U
 simp only
 cases h : rdU b with
 | none => exact .nil
 | some x =>
   obtain ⟨u, t⟩ := x
   have hs := List.suffix_iff_eq_drop.1 (rdGo_suf b 0 0 u t h)
   have hle := (rdGo_suf b 0 0 u t h).length_le
   simp only
   by_cases h0 : t.length = 0
   · rw [if_pos h0]
     have : t = [] := List.length_eq_zero_iff.1 h0
     subst this
     exact .inr ⟨[], rfl⟩
   · rw [if_neg h0]
     rcases hv with ⟨rfl, rfl⟩ | ⟨ts, rfl⟩
     · simp at hle; exact absurd (by rw [hle]; rfl) h0
     · refine .inr ⟨ts, ?_⟩
       simp only
       rw [drop_strCs (by omega), <- hs]
theorem rdU_exact {H : AHeap} {k : Nat} {v : AV} {b : Bs} {bad : Bool} (hv : BtA v b) (hk : H.get k = some (.cells [v, .bool bad])) (hl : b.length <= 1000000000) : Does Tryz.prog G 62 [.ptr k 0] H fun x h => x = .int .u64 (Rd.U ⟨b, bad⟩).1 /\ h = H.set k (.cells [rdV v b, .bool (Rd.U ⟨b, bad⟩).2.bad]) := by
 refine zad Tryz.call62 Tryz.func62 rfl (by simp [Tryz.f62]) ?_
 simp
 refine zaG (fun m T' H' => ∃ i a : Nat, i + m = 9 /\ H' = H /\ T' 0 = .ptr k 0 /\ T' 6 = .int .i64 i /\ T' 3 = .int .u64 a /\ a < 2 ^ (7 * i) /\ rdU b = rdGo i a (b.drop i)) 9 ?_ ?_
 · exact ⟨0, 0, rfl, rfl, by simp, by simp, by simp, by simp, rfl⟩
 rintro m T H1 ⟨i, a, him, rfl, t0, t6, t3, ha, hr⟩
 have i10 : (i : Int) < 10 := by omega
 by_cases hi : i < b.length
 · obtain ⟨ts, rfl⟩ : ∃ ts, v = .vsl (strCs b ++ ts) b.length := by
    rcases hv with ⟨_, h⟩ | h
    · rw [h] at hi; simp at hi
    · exact h
   have hi' : ¬ b.length <= i := by omega
   have hii : (i : Int) < b.length := by omega
   have he : b[i]? = some b[i] := List.getElem?_eq_getElem hi
   have hd : b.drop i = b[i] :: b.drop (i + 1) := List.drop_eq_getElem_cons hi
   generalize b[i] = x at he hd
   rw [hd, rdGo] at hr
   have hcs : (strCs b ++ ts)[i]? = some (.int .u8 x.toNat) := by
    rw [List.getElem?_append_left (by rw [zac]; exact hi)]
    simp [strCs, he]
   have hx := x.toNat_lt
   obtain ⟨s, hs⟩ : ∃ s, s = 7 * i := ⟨_, rfl⟩
   obtain ⟨p, hp⟩ : ∃ p, p = x.toNat % 128 := ⟨_, rfl⟩
   have w1 : IntKind.i64.wrap (7 * (i : Int)) = (s : Int) := by rw [IntWalk.i64_in _ (by omega)]; omega
   have w2 : ¬ (s : Int) < 0 := by omega
   have w3 := and127 hx
   rw [<- hp] at w3
   have w4 : IntKind.u64.wrap (p : Int) = (p : Int) := IntWalk.u64_in _ (by omega)
   by_cases hA : i = 9 /\ 1 < x.toNat
   · rw [if_pos hA] at hr
     have h9 : decide ((i : Int) = 9) = true := by simp; omega
     have hx1' : (1 : Int) < x.toNat := by omega
     simp [t0, t6, t3, hk, i10, hi', hii, hcs, hx1', h9]
     refine zab (zaP hk) ?_
     rintro r h rfl
     have e : Rd.U ⟨b, bad⟩ = (0, ⟨[], true⟩) := by simp [Rd.U, hr]
     simp [e, rdV, hr]
   rw [if_neg hA] at hr
   have hsm := rd_small (i := i) (by omega) hx hA
   have w5 := rd_shl (i := i) (by omega) hsm
   obtain ⟨w6, w7⟩ := rd_or (i := i) (by omega) ha hsm
   rw [<- hp, <- hs] at hsm w5 w6 w7
   rw [<- hs] at hr ha
   generalize hq : p * 2 ^ s = q at hsm w5 w6 w7
   have hq' : (if 128 <= x.toNat then x.toNat - 128 else x.toNat) * 2 ^ s = q := by
    rw [<- hq]; congr 1; split <;> omega
   have wi : IntKind.i64.wrap ((i : Int) + 1) = ((i + 1 : Nat) : Int) := by rw [IntWalk.i64_in _ (by omega)]; omega
   by_cases hB : 128 <= x.toNat
   · rw [if_pos hB] at hr hq'
     rw [hq'] at hr
     have h9 : decide ((i : Int) = 9) = false := by simp; omega
     have w8 : (IntKind.u8.wrap ((x.toNat % 2 ^ IntKind.u8.bits &&& 128 % 2 ^ IntKind.u8.bits : Nat) : Int) != 0) = true := by rw [bne_iff_ne, ne_eq, and128 hx]; omega
     simp [t0, t6, t3, hk, i10, hi', hii, hcs, h9, w1, w2, w3, w4, w5, w6, w8, wi]
     have hp1 : p <= 127 := by omega
     have hlt : a + q < 2 ^ (7 * (i + 1)) := by
      rw [show 7 * (i + 1) = s + 7 by omega, Nat.pow_add, <- hq]
      have h1 : p * 2 ^ s <= 127 * 2 ^ s := Nat.mul_le_mul_right _ hp1
      omega
     exact ⟨m - 1, by omega, i + 1, by omega, by push_cast; rfl, a + q, by push_cast; rfl, hlt, hr⟩
   rw [if_neg hB] at hr hq'
   have w8 : (IntKind.u8.wrap ((x.toNat % 2 ^ IntKind.u8.bits &&& 128 % 2 ^ IntKind.u8.bits : Nat) : Int) = 0) := by rw [and128 hx]; omega
   by_cases hz : x.toNat = 0 /\ 0 < i
   · rw [if_pos hz] at hr
     have hz1 : decide (x.toNat = 0) = true := by simp; omega
     have hz2 := hz.2
     by_cases h9 : i = 9
     · skip
       have h9' : decide ((i : Int) = 9) = true := by simp; omega
       have hx1 : ¬ (1 : Int) < x.toNat := by omega
       simp [t0, t6, t3, hk, i10, hi', hii, hcs, h9', hx1, hz1, hz2, w1, w2, w3, w4, w5, w6, w8, wi]
       refine zab (zaP hk) ?_
       rintro r h rfl
       have e : Rd.U ⟨b, bad⟩ = (0, ⟨[], true⟩) := by simp [Rd.U, hr]
       simp [e, rdV, hr]
     · skip
       have h9' : decide ((i : Int) = 9) = false := by simp; omega
       simp [t0, t6, t3, hk, i10, hi', hii, hcs, h9', hz1, hz2, w1, w2, w3, w4, w5, w6, w8, wi]
       refine zab (zaP hk) ?_
       rintro r h rfl
       have e : Rd.U ⟨b, bad⟩ = (0, ⟨[], true⟩) := by simp [Rd.U, hr]
       simp [e, rdV, hr]
   rw [if_neg hz] at hr
   by_cases hz1 : x.toNat = 0
   · have hz2 : ¬ 0 < i := by omega
     have hz3 : decide (x.toNat = 0) = true := by simp; omega
     have h9 : ¬ i = 9 := by omega
     · skip
       have h9' : decide ((i : Int) = 9) = false := by simp; omega
       simp [t0, t6, t3, hk, i10, hi', hii, hcs, h9', hz3, hz2, w1, w2, w3, w4, w5, w6, w8, wi]
       rw [if_pos ⟨by omega, by omega⟩]
       rw [hq'] at hr
       have e : Rd.U ⟨b, bad⟩ = (a + q, ⟨b.drop (i + 1), bad⟩) := by simp [Rd.U, hr]
       by_cases hend : i + 1 < b.length
       · simp [hend, hk, e, t0, rdV, hr, rdV_len (by omega : i < b.length)]
         rw [if_neg (by omega)]
       · simp [hend, hk, e, t0, rdV, hr, (by omega : b.length - (i + 1) = 0)]
   · have hz3 : decide (x.toNat = 0) = false := by simp; omega
     by_cases h9 : i = 9
     · skip
       have h9' : decide ((i : Int) = 9) = true := by simp; omega
       have hx1 : ¬ (1 : Int) < x.toNat := by omega
       simp [t0, t6, t3, hk, i10, hi', hii, hcs, h9', hx1, hz3, w1, w2, w3, w4, w5, w6, w8, wi]
       rw [if_pos ⟨by omega, by omega⟩]
       rw [hq'] at hr
       have e : Rd.U ⟨b, bad⟩ = (a + q, ⟨b.drop (i + 1), bad⟩) := by simp [Rd.U, hr]
       by_cases hend : i + 1 < b.length
       · simp [hend, hk, e, t0, rdV, hr, rdV_len (by omega : i < b.length)]
         rw [if_neg (by omega)]
       · simp [hend, hk, e, t0, rdV, hr, (by omega : b.length - (i + 1) = 0)]
     · skip
       have h9' : decide ((i : Int) = 9) = false := by simp; omega
       simp [t0, t6, t3, hk, i10, hi', hii, hcs, h9', hz3, w1, w2, w3, w4, w5, w6, w8, wi]
       rw [if_pos ⟨by omega, by omega⟩]
       rw [hq'] at hr
       have e : Rd.U ⟨b, bad⟩ = (a + q, ⟨b.drop (i + 1), bad⟩) := by simp [Rd.U, hr]
       by_cases hend : i + 1 < b.length
       · simp [hend, hk, e, t0, rdV, hr, rdV_len (by omega : i < b.length)]
         rw [if_neg (by omega)]
       · simp [hend, hk, e, t0, rdV, hr, (by omega : b.length - (i + 1) = 0)]
 · have hi' : b.length <= i := by omega
   have hd : b.drop i = [] := List.drop_eq_nil_of_le hi'
   rw [hd, rdGo] at hr
   have hlv : alen Tryz.prog 22 v = some (.int .i64 b.length) := by
    rcases hv with ⟨rfl, rfl⟩ | ⟨ts, rfl⟩ <;> simp [alen]
   simp [t0, t6, t3, hk, i10, hi', hlv, -alen]
   refine zab (zaP hk) ?_
   rintro r h rfl
   have e : Rd.U ⟨b, bad⟩ = (0, ⟨[], true⟩) := by simp [Rd.U, hr]
   simp [e, rdV, hr]
theorem rdI_exact {H : AHeap} {k : Nat} {v : AV} {b : Bs} {bad : Bool} (hv : BtA v b) (hk : H.get k = some (.cells [v, .bool bad])) (hl : b.length <= 1000000000) : Does Tryz.prog G 70 [.ptr k 0] H fun x h => x = .int .i64 (Rd.I ⟨b, bad⟩).1 /\ h = H.set k (.cells [rdV v b, .bool (Rd.I ⟨b, bad⟩).2.bad]) := by
 refine zad Tryz.call70 Tryz.func70 rfl (by simp [Tryz.f70]) ?_
 simp
 refine zab (rdU_exact hv hk hl) ?_
 rintro x h ⟨rfl, ht⟩
 simp
 rw [unzig_bits (rdU_lt _).1]
 exact ⟨rfl, ht⟩
theorem rdIs_le : ∀ (n : Nat) (r : Rd), (rdIs n r).2.b.length <= r.b.length /\ (rdIs n r).1.length = n
 | 0, r => ⟨Nat.le_refl _, rfl⟩
 | n + 1, r => by
   have h1 := rdIs_le n r.I.2
   have h2 := (rdU_lt r).2
   simp only [rdIs, Rd.I, List.length_cons] at h1 ⊢
   exact ⟨by omega, by omega⟩
def RowG (H0 : AHeap) (H : AHeap) (l : List Int) (w : AV) : Prop := (l = [] /\ w = .nilsl) \/ ∃ p cap op junk, l ≠ [] /\ w = .sl p 0 1 l.length cap op /\ H0.next <= p /\ H.get p = some (.cells (ints l ++ junk)) /\ l.length + junk.length = cap
def EnRun (o : Option En) (H : AHeap) (r : AV) (h : AHeap) : Prop := (∀ j x, H.get j = some x -> h.get j = some x) /\
 match o with
 | none => r = .tuple [.agg [.int .u64 0, .int .u64 0, .nilsl], .int .i64 3]
 | some e => ∃ w, r = .tuple [enV e w, .int .i64 0] /\ RowG H h e.l w /\ (e.row = if e.l = [] then none else some e.l)
theorem getEn_run {bv : AV} {b : Bs} (hb : BtA bv b) (hl : b.length <= 1000000000) (H : AHeap) : Does Tryz.prog G 113 [bv] H (EnRun (getEn b) H) := by
 refine Does.wf Tryz.call113 fun hw _ => ?_
 refine zad Tryz.call113 Tryz.func113 rfl (by simp [Tryz.f113]) ?_
 simp
 refine zae (packRead_does hb hl _) ?_
 rintro r H1 ⟨k, rfl, hk, hg, hs⟩ hw1 _
 simp
 refine zae (rdU_does (r := ⟨b, false⟩) hg hl) ?_
 rintro x H2 ⟨rfl, v2, hv2, rfl⟩ hw2 _
 have hl2 := rdU_lt ⟨b, false⟩
 generalize e1 : Rd.U ⟨b, false⟩ = r1 at *
 obtain ⟨u1, b1, d1⟩ := r1
 simp only at hv2 hl2 ⊢
 simp
 refine zae (rdU_does (r := ⟨b1, d1⟩) (k := k) ⟨v2, hv2, by simp⟩ (by simp; omega)) ?_
 rintro x H3 ⟨rfl, v3, hv3, rfl⟩ hw3 _
 have hl3 := rdU_lt ⟨b1, d1⟩
 generalize e2 : Rd.U ⟨b1, d1⟩ = r2 at *
 obtain ⟨u2, b2, d2⟩ := r2
 simp only at hv3 hl3 ⊢
 have ha : H.next ≠ k := by simp at hk; omega
 have hga : H1.get H.next = some (.cells [.int .u64 0, .int .u64 0, .nilsl]) := by
  have := hs H.next (.cells [.int .u64 0, .int .u64 0, .nilsl])
  simp at this
  exact this
 have hkq : k ≠ H1.next := by obtain ⟨v, _, hv⟩ := hg; have := zaa hw1 hv; omega
 have haq : H.next ≠ H1.next := by have := zaa hw1 hga; omega
 have hkH : H.next < k := by simp at hk; omega
 have hHq : H.next < H1.next := zaa hw1 hga
 have hkeep : ∀ j x, H.get j = some x -> j ≠ k /\ j ≠ H1.next /\ j ≠ H.next /\ H1.get j = some x := fun j x hj => by
  have h1 := zaa hw hj
  refine ⟨by omega, by omega, by omega, hs j x ?_⟩
  have h2 : j ≠ H.next := by omega
  simp [h2, hj]
 simp [ha, hga]
 refine zae (rdU_does (r := ⟨b2, d2⟩) (k := k) ⟨v3, hv3, by simp [hkq]⟩ (by simp; omega)) ?_
 rintro x H4 ⟨rfl, v4, hv4, rfl⟩ hw4 _
 have hl4 := rdU_lt ⟨b2, d2⟩
 generalize e3 : Rd.U ⟨b2, d2⟩ = r3 at *
 obtain ⟨n, b3, d3⟩ := r3
 simp only at hv4 hl4 ⊢
 simp
 refine zab (rdLeft_does (r := ⟨b3, d3⟩) (k := k) ⟨v4, hv4, by simp⟩) ?_
 rintro x h ⟨rfl, rfl⟩
 have w1 : IntKind.u64.wrap (b3.length : Int) = (b3.length : Int) := IntWalk.u64_in _ (by omega)
 have hG : getEn b = if b3.length < n then none else if (rdIs n ⟨b3, d3⟩).2.bad = true \/ 0 < (rdIs n ⟨b3, d3⟩).2.b.length then none else some ⟨u1, u2, if n = 0 then none else some (rdIs n ⟨b3, d3⟩).1⟩ := by
  simp only [getEn, e1, e2, e3]
 by_cases hn : b3.length < n
 · have hn' : (b3.length : Int) < n := by omega
   rw [if_pos hn] at hG
   rw [hG]
   simp [w1, hn, hn', EnRun, ha, haq, hga, hkq, hkq.symm, ha.symm, haq.symm]
   intro j x hj
   obtain ⟨q1, q2, q3, q4⟩ := hkeep j x hj
   simp [q1, q2, q3, q4]
 · have hn' : ¬ (b3.length : Int) < n := by omega
   rw [if_neg hn] at hG
   simp [w1, hn, hn']
   have hx := rdIs_le n ⟨b3, d3⟩
   generalize hX : rdIs n ⟨b3, d3⟩ = X at *
   refine zai (fun m T' H' => ∃ l v b' d' w, l.length + m = n /\ (l ++ (rdIs m ⟨b', d'⟩).1 = X.1 /\ (rdIs m ⟨b', d'⟩).2 = X.2) /\ b'.length <= b3.length /\ BtA v b' /\ H'.get k = some (.cells [v, .bool d']) /\ H'.get H1.next = some (.cells [.int .u64 u1, .int .u64 u2, w]) /\ RowG H H' l w /\
    H'.get H.next = some (.cells [.int .u64 0, .int .u64 0, .nilsl]) /\ (∀ j x, H.get j = some x -> H'.get j = some x) /\ H1.next < H'.next /\ (∀ p cap op, w = .sl p 0 1 l.length cap op -> p ≠ k /\ p ≠ H1.next /\ p ≠ H.next) /\
    T' 2 = .ptr H.next 0 /\ T' 4 = .ptr k 0 /\ T' 5 = .ptr H1.next 0 /\ T' 22 = .int .u64 n /\ T' 23 = .int .u64 l.length) n ?_ ?_
   · refine ⟨[], v4, b3, d3, .nilsl, by simp, ⟨by rw [hX]; rfl, by rw [hX]⟩, Nat.le_refl _, hv4, by simp, by simp [hkq.symm], .inl ⟨rfl, rfl⟩, by simp [ha, haq, hga], fun j x hj => ?_, by simp, by simp, by simp, by simp, by simp, by simp, by simp⟩
     obtain ⟨q1, q2, q3, q4⟩ := hkeep j x hj
     simp [q1, q2, q3, q4]
   rintro m T H' ⟨l, v, b', d', w, hlm, ⟨hX1, hX2⟩, hb', hv, hgk, hgq, hw', hga', hs', hnx, hpp, t2, t4, t5, t22, t23⟩ hw5 _
   have hwc : w.cells = [w] /\ w.scalar = true := by
    rcases hw' with ⟨_, rfl⟩ | ⟨p, cap, op, junk, _, rfl, _⟩ <;> simp
   cases m with
   | zero =>
     have c1 : ¬ (l.length : Int) < n := by omega
     simp [rdIs] at hX1 hX2
     rw [<- hX2] at hG
     have hel : (En.mk u1 u2 (if n = 0 then none else some X.1)).l = l := by
      rw [<- hX1]
      by_cases h0 : n = 0
      · have : l = [] := List.length_eq_zero_iff.1 (by omega)
        simp [En.l, h0, this]
      · simp [En.l, h0]
     simp [t22, t23, c1, t4]
     refine zab (rdBad_does (r := ⟨b', d'⟩) ⟨v, hv, hgk⟩) ?_
     rintro x h ⟨rfl, rfl⟩
     have keep3 : ∀ j x, H.get j = some x -> j ≠ H.next := fun j x hj => (hkeep j x hj).2.2.1
     cases d' with
     | true =>
       have hG : getEn b = none := by rw [hG]; simp
       simp [t2, t4, hG, EnRun, hga']
       intro j x hj
       simp [keep3 j x hj, hs' j x hj]
     | false =>
       simp [t4]
       refine zab (rdLeft_does (r := ⟨b', false⟩) ⟨v, hv, hgk⟩) ?_
       rintro x h ⟨rfl, rfl⟩
       by_cases h0 : b'.length = 0
       · have hb0 : b' = [] := List.length_eq_zero_iff.1 h0
         subst hb0
         simp at hG
         simp [t2, t5, hG, EnRun, hga', hgq, hwc.1, hwc.2, haq]
         refine ⟨fun j x hj => ?_, w, by simp [enV], ?_⟩
         · simp [keep3 j x hj, hs' j x hj]
         · rw [hel]
           refine ⟨?_, ?_⟩
           · rcases hw' with h | ⟨p, cap, op, junk, h1, rfl, h2, h3, h4⟩
             · exact .inl h
             · have := hpp p cap op rfl
               exact .inr ⟨p, cap, op, junk, h1, rfl, h2, by simp [this.2.2, h3], h4⟩
           · rw [<- hX1]
             by_cases h0 : n = 0
             · have : l = [] := List.length_eq_zero_iff.1 (by omega)
               simp [h0, this]
             · have : l ≠ [] := fun h => by subst h; simp at hlm; omega
               simp [h0, this]
       · have h0' : 0 < b'.length := by omega
         have h1 : b' ≠ [] := fun h => by subst h; simp at h0
         simp [h1] at hG
         simp [t2, t4, hG, EnRun, hga', h0', h1]
         intro j x hj
         simp [keep3 j x hj, hs' j x hj]
   | succ m =>
     have c1 : (l.length : Int) < n := by omega
     have hxs : (rdIs (m + 1) ⟨b', d'⟩) = ((Rd.I ⟨b', d'⟩).1 :: (rdIs m (Rd.I ⟨b', d'⟩).2).1, (rdIs m (Rd.I ⟨b', d'⟩).2).2) := rfl
     have hbt := rdV_bt (bad := d') hv
     have hle := (rdU_lt ⟨b', d'⟩).2
     have hI2 : (Rd.I ⟨b', d'⟩).2 = (Rd.U ⟨b', d'⟩).2 := rfl
     have hex := rdI_exact (G := G) (bad := d') hv hgk (by omega)
     rw [hxs] at hX1 hX2
     rw [hI2] at hX1 hX2 hex
     generalize (Rd.I ⟨b', d'⟩).1 = x at *
     generalize (Rd.U ⟨b', d'⟩).2 = rr at *
     obtain ⟨b2', d2'⟩ := rr
     simp only at hex hX1 hX2 hbt hle
     generalize rdV v b' = v' at *
     have hqk : H1.next ≠ k := hkq.symm
     have n1 : H1.next ≠ H'.next := by omega
     have n2 : H1.next ≠ H'.next + 1 := by omega
     have hkn := zaa hw5 hgk
     have hkn' : k < H'.next := hkn
     have n3 : k ≠ H'.next := by omega
     have n4 : k ≠ H'.next + 1 := by omega
     have n5 : H.next ≠ H'.next := by omega
     have n6 : H.next ≠ H'.next + 1 := by omega
     have hold : ∀ j y, H.get j = some y -> j ≠ k /\ j ≠ H1.next /\ j ≠ H.next /\ j ≠ H'.next /\ j ≠ H'.next + 1 /\ H'.get j = some y := fun j y hj => by
      obtain ⟨q1, q2, q3, q4⟩ := hkeep j y hj
      have := zaa hw5 (hs' j y hj)
      exact ⟨q1, q2, q3, by omega, by omega, hs' j y hj⟩
     have wi : IntKind.u64.wrap ((l.length : Int) + 1) = ((l.length + 1 : Nat) : Int) := by rw [IntWalk.u64_in _ (by omega)]; omega
     simp [t22, t23, c1]
     refine zam [(1, 0), (1, 4)] zag (by kernel_rfl) ?_
     intro es hes
     simp [zak, -zal, t4, t5, hgq, hwc.1, hwc.2]
     refine ⟨_, _, hex, Nat.le_refl _, ?_⟩
     refine ad_go (fun T' => T' 2 = .ptr H.next 0 /\ T' 4 = .ptr k 0 /\ T' 5 = .ptr H1.next 0 /\ T' 22 = .int .u64 n /\ T' 23 = .int .u64 l.length /\ T' 26 = w /\ T' 28 = .int .i64 x) (by simp [t2, t4, t5, t22, t23]) ?_
     rintro T1 ⟨t2, t4, t5, t22, t23, t26, t28⟩
     rcases hw' with ⟨rfl, rfl⟩ | ⟨p, cap, op, junk, hl0, rfl, hp, hgp, hcap⟩
     · simp [zak, -zal, t2, t4, t5, t22, t23, t26, t28, n1, n2, n3, n4, n5, n6, hqk, hgq, hkq, ha, haq, hga', -Bool.exists_bool]
       refine ⟨by subst hes; exact ⟨by kernel_rfl, by kernel_rfl⟩, ?_, ?_⟩
       · simp [rds, heapF, hgq, hqk]
       simp at hX1 hlm
       refine ⟨m, by omega, [x], ?_⟩
       refine ⟨by simp; omega, v', b2', d2', ⟨hX1, hX2⟩, by omega, hbt, ?_⟩
       refine ⟨⟨rfl, rfl⟩, .inr ⟨H'.next + 1, 1, true, [], by simp, rfl, by omega, by simp [n2.symm, ints], rfl⟩, fun j y hj => ?_, by omega, fun _ => ⟨by omega, by omega, by omega⟩, by simpa using wi⟩
       obtain ⟨q1, q2, q3, q4, q5, q6⟩ := hold j y hj
       simp [q1, q2, q4, q5, q6]
     · obtain ⟨p1, p2, p3⟩ := hpp p cap op rfl
       have hpn := zaa hw5 hgp
       have p4 : p ≠ H'.next := by omega
       have hij : (ints l).length = l.length := zaS l
       have c2 : (l.length + 1) * 8 <= 140737488355328 := by omega
       have c3 : l.length <= 4611686018427387903 := by omega
       have dk : List.drop (l.length + 1) (ints l ++ junk) = junk.drop 1 := by rw [<- List.drop_drop, List.drop_left' hij]
       have hil : ints (l ++ [x]) = ints l ++ [AV.int .i64 x] := by simp [ints]
       have hXl : (l ++ [x]) ++ (rdIs m ⟨b2', d2'⟩).1 = X.1 := by rw [<- hX1]; simp
       by_cases hc : l.length + 1 <= cap
       · have c4 : 1 <= junk.length := by omega
         simp [zak, -zal, t2, t4, t5, t22, t23, t26, t28, n1, n2, n3, n4, n5, n6, hqk, hgq, hkq, ha, haq, hga', p1, p1.symm, p2, p2.symm, p3, p3.symm, p4, hgp, hij, hc, c2, c3, c4, dk, -Bool.exists_bool]
         refine ⟨by subst hes; exact ⟨by kernel_rfl, by kernel_rfl⟩, ?_, ?_⟩
         · simp [rds, heapF, hgq, hqk]
         refine ⟨m, by omega, l ++ [x], ?_⟩
         refine ⟨by simp; omega, v', b2', d2', ⟨hXl, hX2⟩, by omega, hbt, ?_⟩
         refine ⟨⟨rfl, rfl⟩, .inr ⟨p, cap, op, junk.tail, by simp, by simp, hp, by simp [p2, p2.symm, hil], by simp; omega⟩, fun j y hj => ?_, by omega, fun p' c' => ⟨fun h _ _ _ => by subst h; exact ⟨p1, p2, p3⟩, fun h _ _ _ => by subst h; exact ⟨p1, p2, p3⟩⟩, by rw [wi]; simp⟩
         obtain ⟨q1, q2, q3, q4, q5, q6⟩ := hold j y hj
         have q7 : j ≠ p := by have := zaa hw hj; omega
         simp [q1, q2, q4, q5, q6, q7]
       · have c4 := c3
         cases op
         · simp [zak, -zal, t2, t4, t5, t22, t23, t26, t28, n1, n2, n3, n4, n5, n6, hqk, hgq, hkq, ha, haq, hga', p1, p1.symm, p2, p2.symm, p3, p3.symm, p4, hgp, hij, hc, c2, c3, c4, dk, -Bool.exists_bool]
           refine ⟨by subst hes; exact ⟨by kernel_rfl, by kernel_rfl⟩, ?_, ?_⟩
           · simp [rds, heapF, hgq, hqk]
           refine ⟨m, by omega, l ++ [x], ?_⟩
           refine ⟨by simp; omega, v', b2', d2', ⟨hXl, hX2⟩, by omega, hbt, ?_⟩
           refine ⟨⟨rfl, rfl⟩, .inr ⟨H'.next + 1, l.length + 1, true, [], by simp, by simp, by omega, by simp [n2.symm, hil], by simp⟩, fun j y hj => ?_, by omega, fun _ => ⟨by omega, by omega, by omega⟩, by rw [wi]; simp⟩
           obtain ⟨q1, q2, q3, q4, q5, q6⟩ := hold j y hj
           have q7 : j ≠ p := by have := zaa hw hj; omega
           simp [q1, q2, q4, q5, q6, q7]
         · simp [zak, -zal, t2, t4, t5, t22, t23, t26, t28, n1, n2, n3, n4, n5, n6, hqk, hgq, hkq, ha, haq, hga', p1, p1.symm, p2, p2.symm, p3, p3.symm, p4, hgp, hij, hc, c2, c3, c4, dk, -Bool.exists_bool]
           refine ⟨by subst hes; exact ⟨by kernel_rfl, by kernel_rfl⟩, ?_, ?_⟩
           · simp [rds, heapF, hgq, hqk]
           refine ⟨m, by omega, l ++ [x], ?_⟩
           refine ⟨by simp; omega, v', b2', d2', ⟨hXl, hX2⟩, by omega, hbt, ?_⟩
           refine ⟨⟨rfl, rfl⟩, .inr ⟨H'.next + 1, l.length + 1, true, [], by simp, by simp, by omega, by simp [n2.symm, hil], by simp⟩, fun j y hj => ?_, by omega, fun _ => ⟨by omega, by omega, by omega⟩, by rw [wi]; simp⟩
           obtain ⟨q1, q2, q3, q4, q5, q6⟩ := hold j y hj
           have q7 : j ≠ p := by have := zaa hw hj; omega
           simp [q1, q2, q4, q5, q6, q7]
def enR : Option En -> AV
 | none => .tuple [.agg [.int .u64 0, .int .u64 0, .nilsl], .int .i64 3]
 | some e => .tuple [enV e (rowV e.row), .int .i64 0]
theorem enR_lt (n : Nat) (o : Option En) : AV.idLt n (enR o) = true := by
 cases o with
 | none => rfl
 | some e => simp [enR, enV, AV.idLt, AV.allLt, rowV_lt]
theorem getEn_does {bv : AV} {b : Bs} (hb : BtA bv b) (hl : b.length <= 1000000000) (H : AHeap) : Does Tryz.prog G 113 [bv] H fun r h => r = enR (getEn b) /\ h = H := by
 refine Does.forgot (R := fun r h => r = enR (getEn b) /\ ∀ j x, H.get j = some x -> h.get j = some x) ?_ (fun hw ha r H1 ⟨h1, h2⟩ => ⟨h2, by rw [h1]; exact enR_lt _ _, h1, rfl⟩)
 have h := getEn_run (G := G) hb hl H
 cases hg : getEn b with
 | none =>
   rw [hg] at h
   exact h.mono fun r H1 ⟨h1, h2⟩ => ⟨h2, h1⟩
 | some e =>
   rw [hg] at h
   by_cases h0 : e.l = []
   · refine h.mono fun r H1 ⟨h1, w, h2, h3, h4⟩ => ⟨?_, h1⟩
     rw [if_pos h0] at h4
     rcases h3 with ⟨_, rfl⟩ | ⟨p, cap, op, junk, h3, _⟩
     · simp [h2, enR, h4, rowV]
     · exact absurd h0 h3
   · refine Does.frz1 h ?_
     rintro hw _ r H1 ⟨h1, w, rfl, h3, h4⟩
     rw [if_neg h0] at h4
     rcases h3 with ⟨h3, _⟩ | ⟨p, cap, op, junk, h3, rfl, h5, h6, h7⟩
     · exact absurd h3 h0
     · refine ⟨p, ints e.l ++ junk, h5, h6, ?_, AHeap.frz_old hw h5 h1⟩
       have tk : List.take e.l.length (ints e.l ++ junk) = ints e.l := List.take_left' (zaS _)
       simp [enR, enV, h4, rowV, AV.frz, AV.frzs, tk]
end Go.Proofs.YtekbjlihciedjaaGreatDoor
namespace Go.Rp
open Go Go.Abs
theorem vrels_of {E E' : Env} {g : AV -> AV} (h : ∀ {a : AV} {v : Value}, VRel E a v -> VRel E' (g a) v) : ∀ {as_ : List AV} {vs : List Value}, VRels E as_ vs -> VRels E' (as_.map g) vs
 | _, _, .nil => .nil
 | _, _, .cons hv t => .cons (h hv) (vrels_of h t)
theorem Does.lend {P : Program} {G : Nat -> Option AV} {f : FuncId} {args : List AV} {H : AHeap} {i : Nat} {cs : List AV} {R : AV -> AHeap -> Prop} (hi : H.get i = some (.cells cs))
  (h : Does P G f (args.map (AV.frz i cs)) (H.frz i cs) R) : Does P G f args H R :=
 ⟨fun E w vs hR hG hv => by
  obtain ⟨E', hx, hR', hk⟩ := hR.frz hi
  exact (h.run E' w vs hR' (hG.mono hx.knows) (vrels_of hk hv)).mono fun v w' ⟨r, H1, E1, g1, g2, g3, g4⟩ => ⟨r, H1, E1, g1, hx.trans g2, g3, g4⟩⟩
end Go.Rp
namespace Go.Proofs.YtekbjlihciedjaaGreatDoor
open Go Go.Abs Go.Rp
variable {G : Nat -> Option AV}
def entsC (l : List En) : List AV := l.flatMap fun e => [.int .u64 e.id, .int .u64 e.view, rowV e.row]
theorem entsC_len (l : List En) : (entsC l).length = l.length * 3 := by
 induction l with
 | nil => rfl
 | cons e l ih => simp [entsC] at ih ⊢; omega
theorem frzs_len (i : Nat) (c : List AV) : ∀ l : List AV, (AV.frzs i c l).length = l.length
 | [] => rfl
 | a :: l => by simp [AV.frzs, frzs_len i c l]
theorem frzs_ints (i : Nat) (c : List AV) : ∀ l : List Int, AV.frzs i c (ints l) = ints l
 | [] => rfl
 | a :: l => by
   have := frzs_ints i c l
   simp only [ints, List.map_cons, AV.frzs, AV.frz] at this ⊢
   rw [this]
theorem frz_rowV (i : Nat) (c : List AV) (row : Option (List Int)) : AV.frz i c (rowV row) = rowV row := by
 cases row with
 | none => rfl
 | some l => simp only [rowV, AV.frz, frzs_ints]
theorem frzs_entsC (i : Nat) (c : List AV) : ∀ l : List En, AV.frzs i c (entsC l) = entsC l
 | [] => rfl
 | e :: l => by
   have := frzs_entsC i c l
   simp only [entsC, List.flatMap_cons, List.cons_append, List.nil_append, AV.frzs, AV.frz, frz_rowV] at this ⊢
   rw [this]
def EnsG (H0 : AHeap) (H : AHeap) (l : List En) (w : AV) : Prop := (l = [] /\ w = .nilsl) \/ ∃ p cap op junk, l ≠ [] /\ w = .sl p 0 3 l.length cap op /\ H0.next <= p /\ H.get p = some (.cells (entsC l ++ junk)) /\ l.length * 3 + junk.length = cap * 3
def ensOf (r : Rd) : Option (List En) × Rd := if 200 < r.U.1 then (none, r.U.2) else rdEns r.U.1 r.U.2
def EnsRun (o : Option (List En) × Rd) (k : Nat) (H : AHeap) (r : AV) (h : AHeap) : Prop := (∀ j x, j ≠ k -> H.get j = some x -> h.get j = some x) /\
 match o.1 with
 | none => r = .tuple [.nilsl, .int .i64 3]
 | some l => ∃ w, r = .tuple [w, .int .i64 0] /\ EnsG H h l w /\ RdAt h k o.2
theorem entries_run {H : AHeap} {k : Nat} {r : Rd} (hk : RdAt H k r) (hl : r.b.length <= 1000000000) : Does Tryz.prog G 96 [.ptr k 0] H (EnsRun (ensOf r) k H) := by
 refine Does.wf Tryz.call96 fun hw _ => ?_
 refine zad Tryz.call96 Tryz.func96 rfl (by simp [Tryz.f96]) ?_
 simp
 have hkn : k < H.next := by obtain ⟨v, _, h⟩ := hk; exact zaa hw h
 refine zae (rdU_does hk hl) ?_
 rintro x H2 ⟨rfl, v2, hv2, rfl⟩ hw2 _
 have hl2 := rdU_lt r
 generalize e1 : r.U = r1 at *
 obtain ⟨n, b1, d1⟩ := r1
 simp only at hv2 hl2 ⊢
 have eO : ensOf r = if 200 < n then (none, ⟨b1, d1⟩) else rdEns n ⟨b1, d1⟩ := by simp only [ensOf, e1]
 rw [eO]
 by_cases hn : 200 < n
 · rw [if_pos hn]
   have hn' : (200 : Int) < n := by omega
   simp [hn, hn', EnsRun]
   intro j x hj hx
   simp [hj, hx]
 · rw [if_neg hn]
   have hn' : ¬ (200 : Int) < n := by omega
   simp [hn, hn']
   generalize hX : rdEns n ⟨b1, d1⟩ = X at *
   refine zai (fun m T' H' => ∃ l b' d' w, l.length + m = n /\ ((rdEns m ⟨b', d'⟩).1.map (l ++ ·) = X.1 /\ (rdEns m ⟨b', d'⟩).2 = X.2) /\ b'.length <= b1.length /\ RdAt H' k ⟨b', d'⟩ /\ EnsG H H' l w /\
    (∀ j x, j ≠ k -> H.get j = some x -> H'.get j = some x) /\ H.next <= H'.next /\
    T' 0 = .ptr k 0 /\ T' 12 = .int .u64 n /\ T' 5 = w /\ T' 13 = .int .u64 l.length) n ?_ ?_
   · refine ⟨[], b1, d1, .nilsl, by simp, ⟨by rw [hX]; simp, by rw [hX]⟩, Nat.le_refl _, ⟨v2, hv2, by simp⟩, .inl ⟨rfl, rfl⟩, fun j x hj hx => by simp [hj, hx], by simp, by simp, by simp, by simp, by simp⟩
   rintro m T H' ⟨l, b', d', w, hlm, ⟨hX1, hX2⟩, hb', hrd, hw', hs', hnx, t0, t12, t5, t13⟩ hw5 _
   cases m with
   | zero =>
     have c1 : ¬ (l.length : Int) < n := by omega
     simp [rdEns] at hX1 hX2
     simp [t12, t5, t13, c1]
     refine ⟨hs', ?_⟩
     rw [<- hX1]
     exact ⟨w, rfl, hw', by rw [<- hX2]; exact hrd⟩
   | succ m =>
     have c1 : (l.length : Int) < n := by omega
     simp [t0, t12, t5, t13, c1]
     refine zae (rdS_does hrd (by simp; omega)) ?_
     rintro x h ⟨rfl, hto⟩ hw6 _
     have hxs : rdEns (m + 1) ⟨b', d'⟩ = (match getEn (Rd.S ⟨b', d'⟩).1 with | none => (none, (Rd.S ⟨b', d'⟩).2) | some e => ((rdEns m (Rd.S ⟨b', d'⟩).2).1.map (e :: ·), (rdEns m (Rd.S ⟨b', d'⟩).2).2)) := rfl
     have hsl : (Rd.S ⟨b', d'⟩).1.length <= b'.length /\ (Rd.S ⟨b', d'⟩).2.b.length <= b'.length := by
      have := (rdU_lt ⟨b', d'⟩).2
      unfold Rd.S
      split
      · simp
      · simp at this ⊢; omega
     rw [hxs] at hX1 hX2
     generalize (Rd.S ⟨b', d'⟩).1 = s at *
     generalize (Rd.S ⟨b', d'⟩).2 = rr at *
     have hat := hto.at
     have hoff : ∀ j, j ≠ k -> h.get j = H'.get j := fun j hj => hto.off hj
     have hnx2 : h.next = H'.next := by obtain ⟨v, _, rfl⟩ := hto; simp
     obtain ⟨b2', d2'⟩ := rr
     simp only at hsl
     have e0 : s.map (fun b => AV.int .u8 b.toNat) = strCs s := rfl
     simp [e0]
     have hfz : ∀ j x, j ≠ k -> H.get j = some x -> ((h.push (.cells (strCs s))).frz h.next (strCs s)).get j = some x := fun j x hj hx => by
      have hlt := zaa hw hx
      refine frz_old1 hw (by omega) hx ?_
      have : j ≠ h.next := by omega
      simp [this, hoff j hj, hs' j x hj hx]
     have efz : [AV.sl h.next 0 1 s.length s.length true].map (AV.frz h.next (strCs s)) = [bV s] := by
      have tk : List.take s.length (strCs s) = strCs s := by rw [<- zac, List.take_length]
      simp [AV.frz, bV, tk]
     have hkk : ∃ v, BtA v b2' /\ ((h.push (.cells (strCs s))).frz h.next (strCs s)).get k = some (.cells [v, .bool d2']) := by
      obtain ⟨v, h1, h2⟩ := hat
      have h3 : k ≠ h.next := by omega
      have h4 : (h.push (.cells (strCs s))).get k = some (.cells [v, .bool d2']) := by simp [h3, h2]
      exact ⟨_, h1.frz h.next (strCs s), by rw [frz_get h4 h3]; simp [AV.frzs, AV.frz]⟩
     have hnn : ((h.push (.cells (strCs s))).frz h.next (strCs s)).next = h.next + 1 := by simp [AHeap.frz]
     have hwG : EnsG H ((h.push (.cells (strCs s))).frz h.next (strCs s)) l w := by
      rcases hw' with h1 | ⟨p, cap, op, junk, h1, h2, h3, h4, h5⟩
      · exact .inl h1
      · have h6 : p ≠ k := by omega
        have h7 := zaa hw5 h4
        have h8 : p ≠ h.next := by omega
        have h9 : (h.push (.cells (strCs s))).get p = some (.cells (entsC l ++ junk)) := by simp [h8, hoff p h6, h4]
        exact .inr ⟨p, cap, op, AV.frzs h.next (strCs s) junk, h1, h2, h3, by rw [frz_get h9 h8, frzs_append, frzs_entsC], by rw [frzs_len]; exact h5⟩
     generalize hH3 : (h.push (.cells (strCs s))).frz h.next (strCs s) = H3 at *
     refine zae (Does.lend (i := h.next) (cs := strCs s) (R := fun r h' => r = enR (getEn s) /\ h' = H3) (by simp) (by rw [efz, hH3]; exact getEn_does (b := s) (bv := bV s) (.bV s) (by omega) _)) ?_
     rintro x h3 ⟨rfl, rfl⟩ hw7 _
     cases hge : getEn s with
     | none =>
       rw [hge] at hX1 hX2
       simp [enR]
       refine ⟨fun j x hj hx => ?_, ?_⟩
       · have := zaa hw hx
         have h4 : j ≠ h3.next := by omega
         simp [h4, hfz j x hj hx]
       · rw [<- hX1]; rfl
     | some e =>
       rw [hge] at hX1 hX2
       have hr := RowA.rowV e.row
       have wi : IntKind.u64.wrap ((l.length : Int) + 1) = ((l.length + 1 : Nat) : Int) := by rw [IntWalk.u64_in _ (by omega)]; omega
       have hXl : (rdEns m ⟨b2', d2'⟩).1.map ((l ++ [e]) ++ ·) = X.1 := by rw [<- hX1]; simp [Function.comp_def]
       have hec : entsC (l ++ [e]) = entsC l ++ [.int .u64 e.id, .int .u64 e.view, rowV e.row] := by simp [entsC]
       obtain ⟨vk, hvk, hgk⟩ := hkk
       have hkn3 := zaa hw7 hgk
       have k1 : k ≠ h.next + 1 := by omega
       have k2 : k ≠ h.next + 1 + 1 := by omega
       have k3 : k ≠ h.next + 1 + 1 + 1 := by omega
       have hold : ∀ j x, j ≠ k -> H.get j = some x -> j ≠ h.next + 1 /\ j ≠ h.next + 1 + 1 /\ j ≠ h.next + 1 + 1 + 1 /\ h3.get j = some x := fun j x hj hx => by
        have := zaa hw hx
        exact ⟨by omega, by omega, by omega, hfz j x hj hx⟩
       rcases hwG with ⟨rfl, rfl⟩ | ⟨p, cap, op, junk, hl0, rfl, hp, hgp, hcap⟩
       · simp [enR, enV, hr.cells, hr.sc, t0, t5, t12, t13, hnn, -Bool.exists_bool]
         refine ⟨m, by omega, [e], ?_⟩
         refine ⟨by simp at hlm ⊢; omega, b2', d2', ⟨by simpa using hXl, hX2⟩, by omega, ⟨vk, hvk, by simp [k1, k2, k3, hgk, hnn]⟩, _, .inr ⟨h.next + 1 + 1 + 1, 1, true, [], by simp, rfl, by omega, by simp [entsC, hnn], by simp⟩, fun j x hj hx => ?_, by omega, rfl, by simpa using wi⟩
         obtain ⟨q1, q2, q3, q4⟩ := hold j x hj hx
         simp [q1, q2, q3, q4]
       · have hpn := zaa hw7 hgp
         have n1 : p ≠ h.next + 1 := by omega
         have n2 : p ≠ h.next + 1 + 1 := by omega
         have n3 : p ≠ h.next + 1 + 1 + 1 := by omega
         have pk : p ≠ k := by omega
         have hij := entsC_len l
         have dk2 : List.drop (l.length * 3 + 3) (entsC l ++ junk) = junk.drop 3 := by rw [<- List.drop_drop, List.drop_left' hij]
         have c2 : (l.length + 1) * 40 <= 140737488355328 := by omega
         have c3 : l.length <= 4611686018427387903 := by omega
         have dk : List.drop ((l.length + 1) * 3) (entsC l ++ junk) = junk.drop 3 := by rw [show (l.length + 1) * 3 = l.length * 3 + 3 by omega, <- List.drop_drop, List.drop_left' hij]
         have tk : List.take (l.length * 3) (entsC l ++ junk) = entsC l := List.take_left' hij
         by_cases hc : l.length + 1 <= cap
         · have c4 : (l.length + 1) * 3 <= l.length * 3 + junk.length := by omega
           simp [enR, enV, hr.cells, hr.sc, t0, t5, t12, t13, hnn, n1, n2, hgp, hij, hc, c2, c3, c4, tk, dk, dk2, -Bool.exists_bool]
           refine ⟨m, by omega, l ++ [e], by simp; omega, b2', d2', ⟨by simpa using hXl, hX2⟩, by omega, ⟨vk, hvk, by simp [k1, k2, k3, hgk, pk.symm, hnn]⟩, _, .inr ⟨p, cap, op, junk.drop 3, by simp, by simp, hp, by simp [n1, n2, n3, hec, hnn], by simp; omega⟩, fun j x hj hx => ?_, by omega, rfl, by rw [wi]; simp⟩
           obtain ⟨q1, q2, q3, q4⟩ := hold j x hj hx
           have q5 : j ≠ p := by have := zaa hw hx; omega
           simp [q1, q2, q3, q4, q5]
         · cases op
           · simp [enR, enV, hr.cells, hr.sc, t0, t5, t12, t13, hnn, n1, n2, hgp, hij, hc, c2, c3, tk, dk, dk2, -Bool.exists_bool]
             refine ⟨m, by omega, l ++ [e], by simp; omega, b2', d2', ⟨by simpa using hXl, hX2⟩, by omega, ⟨vk, hvk, by simp [k1, k2, k3, hgk, pk.symm, hnn]⟩, _, .inr ⟨h.next + 1 + 1 + 1, l.length + 1, true, [], by simp, by simp, by omega, by simp [hec, hnn, n3.symm], by simp⟩, fun j x hj hx => ?_, by omega, rfl, by rw [wi]; simp⟩
             obtain ⟨q1, q2, q3, q4⟩ := hold j x hj hx
             have q5 : j ≠ p := by have := zaa hw hx; omega
             simp [q1, q2, q3, q4, q5]
           · simp [enR, enV, hr.cells, hr.sc, t0, t5, t12, t13, hnn, n1, n2, hgp, hij, hc, c2, c3, tk, dk, dk2, -Bool.exists_bool]
             refine ⟨m, by omega, l ++ [e], by simp; omega, b2', d2', ⟨by simpa using hXl, hX2⟩, by omega, ⟨vk, hvk, by simp [k1, k2, k3, hgk, pk.symm, hnn]⟩, _, .inr ⟨h.next + 1 + 1 + 1, l.length + 1, true, [], by simp, by simp, by omega, by simp [hec, hnn, n3.symm], by simp⟩, fun j x hj hx => ?_, by omega, rfl, by rw [wi]; simp⟩
             obtain ⟨q1, q2, q3, q4⟩ := hold j x hj hx
             have q5 : j ≠ p := by have := zaa hw hx; omega
             simp [q1, q2, q3, q4, q5]
theorem within_does (a b c : Int) (H : AHeap) : Does Tryz.prog G 214 [.int .i64 a, .int .i64 b, .int .i64 c] H fun r h => r = .bool (decide (b <= a) && decide (a <= c)) /\ h = H := by
 refine zad Tryz.call214 Tryz.func214 rfl (by simp [Tryz.f214]) ?_
 by_cases h1 : b <= a
 · simp [h1]
 · simp [h1]
theorem longRow_does {e : En} {v : AV} (hv : RowA v e.row) (H : AHeap) : Does Tryz.prog G 213 [enV e v] H fun r h => r = .bool (decide (64 < e.l.length)) /\ h = H := by
 refine Does.forgot (R := fun r h => r = .bool (decide (64 < e.l.length)) /\ ∀ j x, H.get j = some x -> h.get j = some x) ?_ (fun hw ha r H1 ⟨h1, h2⟩ => ⟨h2, by rw [h1]; rfl, h1, rfl⟩)
 refine Does.wf Tryz.call213 fun hw _ => ?_
 have hlv : alen Tryz.prog 45 v = some (.int .i64 e.l.length) := by
  rcases hv with ⟨rfl, h⟩ | ⟨ts, l, rfl, h⟩
  · simp [alen, En.l, h]
  · simp [alen, En.l, h]
 refine zad Tryz.call213 Tryz.func213 rfl (by simp [Tryz.f213]) ?_
 simp [enV, hv.cells, hv.sc, hlv, -alen]
 refine ⟨by omega, fun j x hj => ?_⟩
 have := zaa hw hj
 have e0 : j ≠ H.next := by omega
 simp [e0, hj]
end Go.Proofs.YtekbjlihciedjaaGreatDoor
namespace Go.Rp
open Go Go.Abs
def Gr (H : AHeap) (z n : Nat) (cs : List AV) (v : AV) (b : Nat -> Prop) : Prop :=
 (n = 0 /\ cs = [] /\ v = .nilsl) \/ ∃ p o cap op pre junk, v = .sl p o z n cap op /\ b p /\ H.get p = some (.cells (pre ++ (cs ++ junk))) /\ pre.length = o /\ cs.length = n * z /\ n * z + junk.length = cap * z /\ n <= cap
theorem Gr.keep {H H' : AHeap} {z n : Nat} {cs : List AV} {v : AV} {b : Nat -> Prop} (h : Gr H z n cs v b) (hk : ∀ j x, b j -> H.get j = some x -> H'.get j = some x) : Gr H' z n cs v b := by
 rcases h with h | ⟨p, o, cap, op, pre, junk, h1, h2, h3, h4⟩
 · exact .inl h
 · exact .inr ⟨p, o, cap, op, pre, junk, h1, h2, hk p _ h2 h3, h4⟩
theorem Gr.mono {H : AHeap} {z n : Nat} {cs : List AV} {v : AV} {b b' : Nat -> Prop} (h : Gr H z n cs v b) (hb : ∀ j, b j -> b' j) : Gr H z n cs v b' := by
 rcases h with h | ⟨p, o, cap, op, pre, junk, h1, h2, h3⟩
 · exact .inl h
 · exact .inr ⟨p, o, cap, op, pre, junk, h1, hb p h2, h3⟩
theorem Gr.sc {H : AHeap} {z n : Nat} {cs : List AV} {v : AV} {b : Nat -> Prop} (h : Gr H z n cs v b) : v.scalar = true := by
 rcases h with ⟨_, _, rfl⟩ | ⟨p, o, cap, op, pre, junk, rfl, _⟩ <;> rfl
theorem Gr.cells {H : AHeap} {z n : Nat} {cs : List AV} {v : AV} {b : Nat -> Prop} (h : Gr H z n cs v b) : v.cells = [v] := by
 rcases h with ⟨_, _, rfl⟩ | ⟨p, o, cap, op, pre, junk, rfl, _⟩ <;> rfl
theorem Gr.alen {H : AHeap} {z n : Nat} {cs : List AV} {v : AV} {b : Nat -> Prop} (h : Gr H z n cs v b) {P : Program} {t e : TypeId} (ht : P.underlying t = some (.slice e)) : Go.Abs.alen P t v = some (.int .i64 n) := by
 rcases h with ⟨rfl, _, rfl⟩ | ⟨p, o, cap, op, pre, junk, rfl, _⟩
 · simp [Go.Abs.alen, ht]
 · simp [Go.Abs.alen, ht]
structure ElemOk (P : Program) (t u e : TypeId) (z by_ : Nat) : Prop where
 slice : P.underlying t = some (.slice e)
 seq : ∃ d, P.underlying u = some d /\ isSeq d = true
 info : ∃ info zz, P.info? e = some info /\ azero P e = some zz /\ zz.cells.length = z /\ info.size = z /\ info.bytes = by_
theorem Gr.app {P : Program} {t u e : TypeId} {z by_ : Nat} (he : ElemOk P t u e z by_) {H : AHeap} {n m : Nat} {cs news : List AV} {v x : AV} {b : Nat -> Prop} (h : Gr H z n cs v b)
  (hx : ∀ k i, x ≠ .int k i) (hl : zar x = some m) (hf : zaj H.get z m x = some news) (hsc : news.all AV.scalar = true) (hn : news.length = m * z) (h0 : 0 < m) (hz : 0 < z) (hb1 : (n + m) * by_ <= 140737488355328) (hb2 : n + m <= 4611686018427387904) {nx : Nat} (hnx : nx = H.next) :
  ∃ v' eff, zao P t u H.get nx v x = some (v', eff) /\ Gr (H.eff eff) z (n + m) (cs ++ news) v' (fun j => b j \/ j = H.next) /\ (∀ j, ¬ b j -> j ≠ H.next -> (H.eff eff).get j = H.get j) /\ H.next <= (H.eff eff).next := by
 subst hnx
 obtain ⟨d, hu, hd⟩ := he.seq
 obtain ⟨info, zz, i1, i2, i3, i4, i5⟩ := he.info
 have hunf : ∀ s, zao P t u H.get H.next s x = (match s with
       | .nilsl => if m = 0 then some (.nilsl, .same)
         else if m * info.bytes <= 140737488355328 /\ m <= 4611686018427387904 then some (.sl H.next 0 info.size m m true, .new (.cells news)) else none
       | .vsl cs len => if m = 0 then some (.vsl cs len, .same) else none
       | .csl cs len => if m = 0 then some (.csl cs len, .same)
         else if len * info.size <= cs.length /\ (len + m) * info.bytes <= 140737488355328 /\ len + m <= 4611686018427387904 then some (.sl H.next 0 info.size (len + m) (len + m) true, .new (.cells (cs.take (len * info.size) ++ news)))
         else none
       | .sl i o zz len cap opn => if zz = info.size then
         match H.get i with
         | some (.cells cs) =>
           if len + m <= cap then
            if o + (len + m) * zz <= cs.length then some (.sl i o zz (len + m) cap opn, .put i (.cells (splice cs (o + len * zz) news))) else none
           else if o + len * zz <= cs.length /\ (len + m) * info.bytes <= 140737488355328 /\ len + m <= 4611686018427387904 then
            if opn then some (.sl H.next 0 zz (len + m) (len + m) true, .move i (.cells ((cs.drop o).take (len * zz) ++ news)))
            else some (.sl H.next 0 zz (len + m) (len + m) true, .new (.cells ((cs.drop o).take (len * zz) ++ news)))
           else none
         | _ => none
         else none
       | _ => none) := by
  intro s
  unfold zao
  split
  · exact absurd rfl (hx _ _)
  · have hf' : zaj H.get info.size m x = some news := by rw [i4]; exact hf
    simp only [he.slice, hu, hd, i1, i2, if_true, hl, hf']
    rw [if_pos (i3.trans i4.symm), if_pos ⟨hsc, by rw [i4]; exact hn⟩]
    rfl
 rw [hunf]
 rcases h with ⟨rfl, rfl, rfl⟩ | ⟨p, o, cap, op, pre, junk, rfl, h2, h3, h4, h5, h6, h7⟩
 · simp only
   rw [if_neg (by omega), if_pos (by rw [i5]; simp only [Nat.zero_add] at hb1 hb2; exact ⟨hb1, hb2⟩)]
   refine ⟨_, _, rfl, .inr ⟨H.next, 0, m, true, [], [], by rw [i4, Nat.zero_add], .inr rfl, by simp, rfl, by simpa using hn, by simp, by omega⟩, fun j _ hj => by simp [hj], by simp⟩
 · have hpl : o + (n + m) * z <= (pre ++ (cs ++ junk)).length \/ cap < n + m := by
    rcases Nat.lt_or_ge cap (n + m) with q | q
    · exact .inr q
    · left
      have := Nat.mul_le_mul_right z q
      simp only [List.length_append]; omega
   have htk : ((pre ++ (cs ++ junk)).drop o).take (n * z) = cs := by rw [List.drop_left' h4, List.take_left' h5]
   have hle : o + n * z <= (pre ++ (cs ++ junk)).length := by simp only [List.length_append]; omega
   simp only [h3]
   rw [if_pos i4.symm]
   by_cases hc : n + m <= cap
   · rw [if_pos hc, if_pos (by rcases hpl with q | q <;> omega)]
     refine ⟨_, _, rfl, .inr ⟨p, o, cap, op, pre, junk.drop (m * z), rfl, .inl h2, ?_, h4, ?_, ?_, hc⟩, fun j hj _ => ?_, by simp⟩
     · have e : splice (pre ++ (cs ++ junk)) (o + n * z) news = pre ++ ((cs ++ news) ++ junk.drop (m * z)) := by
        unfold splice
        have e1 : (pre ++ (cs ++ junk)).take (o + n * z) = pre ++ cs := by
         rw [<- List.append_assoc, List.take_left' (by simp [h4, h5])]
        have e2 : (pre ++ (cs ++ junk)).drop (o + n * z + news.length) = junk.drop (m * z) := by
         rw [<- List.append_assoc, <- List.drop_drop, List.drop_left' (by simp [h4, h5]), hn]
        rw [e1, e2, List.append_assoc, List.append_assoc]
       rw [e]
       simp
     · rw [List.length_append, h5, hn, Nat.add_mul]
     · rw [List.length_drop, Nat.add_mul]
       have := Nat.mul_le_mul_right z hc
       rw [Nat.add_mul] at this
       omega
     · have : j ≠ p := fun e => hj (e ▸ h2)
       simp [this]
   · rw [if_neg hc, if_pos ⟨hle, by rw [i5]; exact hb1, hb2⟩, htk]
     have gr : ∀ H' : AHeap, H'.get H.next = some (.cells (cs ++ news)) -> Gr H' z (n + m) (cs ++ news) (.sl H.next 0 z (n + m) (n + m) true) (fun j => b j \/ j = H.next) := fun H' hg =>
      .inr ⟨H.next, 0, n + m, true, [], [], rfl, .inr rfl, by simpa using hg, rfl, by rw [List.length_append, h5, hn, Nat.add_mul], by simp, Nat.le_refl _⟩
     cases op
     · exact ⟨_, _, rfl, gr _ (by simp), fun j _ hj => by simp [hj], by simp⟩
     · refine ⟨_, _, rfl, gr _ (by simp), fun j hb hj => ?_, by simp⟩
       have : j ≠ p := fun e => hb (e ▸ h2)
       simp [hj, this]
theorem Does.weak {P : Program} {G : Nat -> Option AV} {f : FuncId} {args args' : List AV} {H : AHeap} {R : AV -> AHeap -> Prop} (h : Does P G f args' H R) (hw : ∀ E vs, VRels E args vs -> VRels E args' vs) : Does P G f args H R :=
 ⟨fun E w vs hR hG hv => h.run E w vs hR hG (hw E vs hv)⟩
theorem csl_vsl {E : Env} {cs : List AV} {len : Nat} {u : Value} (h : VRel E (.csl cs len) u) : VRel E (.vsl cs len) u := by
 cases h with | csl h1 h2 => exact .vsl h1 h2 (Nat.le_refl _)
end Go.Rp
namespace Go.Proofs.YtekbjlihciedjaaGreatDoor
open Go Go.Abs Go.Rp
variable {G : Nat -> Option AV}
def EnF (v : AV) (l : List En) : Prop := (v = .nilsl /\ l = []) \/ ∃ ts, v = .vsl (entsC l ++ ts) l.length
def entsV (l : List En) : AV := if l.isEmpty then .nilsl else .vsl (entsC l) l.length
theorem EnF.entsV (l : List En) : EnF (entsV l) l := by
 cases l with
 | nil => exact .inl ⟨rfl, rfl⟩
 | cons e l => exact .inr ⟨[], by simp [Go.Proofs.YtekbjlihciedjaaGreatDoor.entsV]⟩
theorem entsC_lt (n : Nat) : ∀ l : List En, AV.allLt n (entsC l) = true
 | [] => rfl
 | e :: l => by
   have := entsC_lt n l
   simp only [entsC, List.flatMap_cons, List.cons_append, List.nil_append, AV.allLt, AV.idLt, rowV_lt, Bool.true_and] at this ⊢
   exact this
theorem entsV_lt (n : Nat) (l : List En) : AV.idLt n (entsV l) = true := by
 unfold entsV
 split
 · rfl
 · simp only [AV.idLt]; exact entsC_lt n l
theorem EnF.alen {v : AV} {l : List En} (h : EnF v l) {P : Program} {t e : TypeId} (ht : P.underlying t = some (.slice e)) : Go.Abs.alen P t v = some (.int .i64 l.length) := by
 rcases h with ⟨rfl, rfl⟩ | ⟨ts, rfl⟩ <;> simp [Go.Abs.alen, ht]
theorem EnF.sc {v : AV} {l : List En} (h : EnF v l) : v.scalar = true := by rcases h with ⟨rfl, rfl⟩ | ⟨ts, rfl⟩ <;> rfl
theorem EnF.cells {v : AV} {l : List En} (h : EnF v l) : v.cells = [v] := by rcases h with ⟨rfl, rfl⟩ | ⟨ts, rfl⟩ <;> rfl
theorem EnF.vsl {v : AV} {l : List En} (h : EnF v l) (h0 : 0 < l.length) : ∃ ts, v = .vsl (entsC l ++ ts) l.length := by
 rcases h with ⟨rfl, rfl⟩ | h
 · simp at h0
 · exact h
theorem entsC_append (a b : List En) : entsC (a ++ b) = entsC a ++ entsC b := by simp [entsC]
theorem entsC_at {l : List En} {i : Nat} {e : En} (h : l[i]? = some e) (ts : List AV) : ((entsC l ++ ts).drop (i * 3)).take 3 = [.int .u64 e.id, .int .u64 e.view, rowV e.row] := by
 have hi : i < l.length := (List.getElem?_eq_some_iff.1 h).1
 have e1 : l = l.take i ++ (e :: l.drop (i + 1)) := by
  have h2 : l[i] = e := (List.getElem?_eq_some_iff.1 h).2
  rw [<- h2, <- List.drop_eq_getElem_cons hi, List.take_append_drop]
 have hl : (entsC (l.take i)).length = i * 3 := by rw [entsC_len, List.length_take]; omega
 rw [e1, entsC_append, List.append_assoc, List.drop_left' hl]
 simp [entsC]
theorem entsC_take (l : List En) (n : Nat) (ts : List AV) (h : n <= l.length) : ∃ ts', entsC l ++ ts = entsC (l.take n) ++ ts' := ⟨entsC (l.drop n) ++ ts, by rw [<- List.append_assoc, <- entsC_append, List.take_append_drop]⟩
def msC (m : Ms) (ev : AV) : List AV := [.int .i64 m.kind, .int .i64 m.frm, .int .i64 m.to, .int .u64 m.view, .int .u64 m.last, .int .u64 m.op, .int .u64 m.commit, ev, .nilsl]
inductive MsR : List AV -> List Ms -> Prop
 | nil : MsR [] []
 | snoc {cs : List AV} {l : List Ms} {m : Ms} {ev : AV} (h : MsR cs l) (he : EnF ev m.ents) : MsR (cs ++ msC m ev) (l ++ [m])
def heldC (l : List (Nat × Nat)) : List (AV × AV) := l.map fun x => (.int .i64 x.1, .int .u64 x.2)
inductive VotR : List (AV × AV) -> List (Nat × Nat × List En) -> Prop
 | nil : VotR [] []
 | cons {es : List (AV × AV)} {l : List (Nat × Nat × List En)} {k u : Nat} {x : List En} {v : AV} (hv : EnF v x) (h : VotR es l) : VotR ((.int .i64 k, .agg [.int .u64 u, v]) :: es) ((k, u, x) :: l)
def coC (c : Co) (lv : AV) (g h : Nat) (wv : AV) : List AV :=
 [.int .i64 c.me, .int .i64 c.n, .int .u64 c.view, .int .u64 c.last, lv, .int .i64 c.agreed, .bool c.lead, .int .i64 c.quiet, .map g, .map h, wv]
def CoAt (H : AHeap) (O : Nat -> Prop) (i : Nat) (c : Co) : Prop := ∃ lv g h es wv, H.get i = some (.cells (coC c lv g h wv)) /\ H.get g = some (.map es) /\ H.get h = some (.map (heldC c.held)) /\
 EnF lv c.list /\ VotR es c.got /\ Gr H 3 c.wait.length (entsC c.wait) wv (fun j => O j /\ j ≠ i) /\ O i /\ O g /\ O h /\ g ≠ h
structure CoOk (c : Co) : Prop where
 n0 : 0 < c.n
 n7 : c.n <= 7
 me : c.me < c.n
 view : c.view <= 1099511627776
 last : c.last < 2 ^ 64
 list : c.list.length <= 200
 agreed : c.agreed <= c.list.length
 wait : c.wait.length <= 200
 quiet : c.quiet < 2 ^ 62
theorem EnF.cs {v : AV} {l : List En} (h : EnF v l) (h0 : 0 < l.length) : ∃ C, v = .vsl C l.length /\ l.length * 3 <= C.length /\ ∀ i e, l[i]? = some e -> (C.drop (i * 3)).take 3 = [.int .u64 e.id, .int .u64 e.view, rowV e.row] := by
 obtain ⟨ts, rfl⟩ := h.vsl h0
 exact ⟨_, rfl, by rw [List.length_append, entsC_len]; omega, fun i e he => entsC_at he ts⟩
def FoundAt (b : Bool) (H : AHeap) (r : AV) (h : AHeap) : Prop := (∃ x : Int, r = .int .i64 x /\ decide (0 <= x) = b) /\ h = H
theorem index_en {l : List En} {v : AV} (hv : EnF v l) (hl : l.length <= 1000000) {p : En -> Bool} {fc : FuncId} {caps : List AV} {H : AHeap}
  (hc : ∀ e ∈ l, Does Tryz.prog G fc (.agg [.int .u64 e.id, .int .u64 e.view, rowV e.row] :: caps) H fun r h => r = .bool (p e) /\ h = H) :
  Does Tryz.prog G 209 [v, .func (.func fc) [] caps] H (FoundAt (l.any p) H) := by
 refine zad Tryz.call209 Tryz.func209 rfl (by simp [Tryz.f209]) ?_
 have hal : alen Tryz.prog 48 v = some (.int .i64 l.length) := by rcases hv with ⟨rfl, rfl⟩ | ⟨ts, rfl⟩ <;> simp [alen]
 simp [hal, -alen]
 refine zai (fun k T' H' => ∃ i : Nat, i + k = l.length /\ H' = H /\ T' 0 = v /\ T' 1 = .func (.func fc) [] caps /\ T' 7 = .int .i64 l.length /\ T' 8 = .int .i64 i /\ l.any p = (l.drop i).any p) l.length ?_ ?_
 · exact ⟨0, by simp, rfl, by simp, by simp, by simp, by simp, by simp⟩
 rintro k T H1 ⟨i, hik, rfl, t0, t1, t7, t8, hs⟩ hw1 _
 by_cases hi : i < l.length
 · have hii : (i : Int) < l.length := by omega
   obtain ⟨C, hvC, hCl, hat⟩ := hv.cs (by omega)
   have he : l[i]? = some l[i] := List.getElem?_eq_getElem hi
   have hd := hc l[i] (List.getElem_mem hi)
   have hat := hat i _ he
   have hdr : l.drop i = l[i] :: l.drop (i + 1) := List.drop_eq_getElem_cons hi
   rw [hdr, List.any_cons] at hs
   generalize l[i] = e at *
   have h3 : 3 <= C.length - i * 3 := by omega
   have wr : IntKind.i64.wrap ((i : Int) + 1) = ((i + 1 : Nat) : Int) := by rw [IntWalk.i64_in _ (by omega)]; omega
   rw [hvC] at t0
   simp [t0, t1, t7, t8, hi, hii, h3, hat]
   refine zab hd ?_
   rintro r h ⟨rfl, rfl⟩
   cases hp : p e with
   | true =>
     rw [hp, Bool.true_or] at hs
     simp [t0, t1, t7, t8]
     exact ⟨⟨_, rfl, by rw [hs]; simp⟩, rfl⟩
   | false =>
     rw [hp, Bool.false_or] at hs
     simp [t0, t1, t7, t8]
     exact ⟨k - 1, by omega, i + 1, by omega, hvC.symm, wr, hs⟩
 · obtain rfl : i = l.length := by omega
   simp [t7, t8]
   refine ⟨⟨_, rfl, ?_⟩, rfl⟩
   rw [hs, List.drop_length]; rfl
theorem contains_en {l : List En} {v : AV} (hv : EnF v l) (hl : l.length <= 1000000) {p : En -> Bool} {fc : FuncId} {caps : List AV} {H : AHeap}
  (hc : ∀ e ∈ l, Does Tryz.prog G fc (.agg [.int .u64 e.id, .int .u64 e.view, rowV e.row] :: caps) H fun r h => r = .bool (p e) /\ h = H) :
  Does Tryz.prog G 138 [v, .func (.func fc) [] caps] H fun r h => r = .bool (l.any p) /\ h = H := by
 refine zad Tryz.call138 Tryz.func138 rfl (by simp [Tryz.f138]) ?_
 simp
 refine zab (index_en hv hl hc) ?_
 rintro r h ⟨⟨x, rfl, hx⟩, rfl⟩
 rw [<- hx]
 simp
theorem hasC_does {e : En} {id k : Nat} {H : AHeap} (hk : H.get k = some (.cells [.int .u64 id])) :
  Does Tryz.prog G 139 [.agg [.int .u64 e.id, .int .u64 e.view, rowV e.row], .ptr k 0] H fun r h => r = .bool (decide (e.id = id)) /\ h = H := by
 refine Does.forgot (R := fun r h => r = .bool (decide (e.id = id)) /\ ∀ j x, H.get j = some x -> h.get j = some x) ?_ (fun hw ha r H1 ⟨h1, h2⟩ => ⟨h2, by rw [h1]; rfl, h1, rfl⟩)
 refine Does.wf Tryz.call139 fun hw _ => ?_
 have hkn := zaa hw hk
 have hr := RowA.rowV e.row
 have hne : k ≠ H.next := by omega
 refine zad Tryz.call139 Tryz.func139 rfl (by simp [Tryz.f139]) ?_
 simp [hr.cells, hr.sc, hk, hne]
 refine ⟨by omega, fun j x hj => ?_⟩
 have := zaa hw hj
 have e0 : j ≠ H.next := by omega
 simp [e0, hj]
theorem has_does {l : List En} {v : AV} (hv : EnF v l) (hl : l.length <= 1000000) (id : Nat) (H : AHeap) :
  Does Tryz.prog G 87 [v, .int .u64 id] H fun r h => r = .bool (hasId l id) /\ h = H := by
 refine Does.forgot (R := fun r h => r = .bool (hasId l id) /\ ∀ j x, H.get j = some x -> h.get j = some x) ?_ (fun hw ha r H1 ⟨h1, h2⟩ => ⟨h2, by rw [h1]; rfl, h1, rfl⟩)
 refine Does.wf Tryz.call87 fun hw _ => ?_
 refine zad Tryz.call87 Tryz.func87 rfl (by simp [Tryz.f87]) ?_
 simp
 refine zab (contains_en hv hl (p := fun e => decide (e.id = id)) fun e _ => hasC_does (k := H.next) (by simp)) ?_
 rintro r h ⟨rfl, rfl⟩
 simp [hasId]
 intro j x hj
 have := zaa hw hj
 have e0 : j ≠ H.next := by omega
 simp [e0, hj]
theorem may_does' {e : En} {v : AV} (hv : RowA v e.row) (H : AHeap) : Does Tryz.prog G 86 [enV e v] H fun r h => r = .bool (may e) /\ h = H := by
 refine Does.forgot (R := fun r h => r = .bool (may e) /\ ∀ j x, H.get j = some x -> h.get j = some x) ?_ (fun hw ha r H1 ⟨h1, h2⟩ => ⟨h2, by rw [h1]; rfl, h1, rfl⟩)
 refine Does.wf Tryz.call86 fun hw _ => ?_
 have hlv : alen Tryz.prog 45 v = some (.int .i64 e.l.length) := by
  rcases hv with ⟨rfl, h⟩ | ⟨ts, l, rfl, h⟩
  · simp [alen, En.l, h]
  · simp [alen, En.l, h]
 refine zad Tryz.call86 Tryz.func86 rfl (by simp [Tryz.f86]) ?_
 have old : ∀ (X : AObj) j x, H.get j = some x -> (H.push X).get j = some x := fun X j x hj => by
  have := zaa hw hj
  have e0 : j ≠ H.next := by omega
  simp [e0, hj]
 by_cases h0 : 0 < e.id
 · have h0' : (0 : Int) < e.id := by omega
   simp [enV, hv.cells, hv.sc, hlv, h0, h0', may, -alen]
   exact ⟨by omega, old _⟩
 · have h0' : ¬ (0 : Int) < e.id := by omega
   simp [enV, hv.cells, hv.sc, hlv, h0, h0', may, -alen]
   exact old _
theorem clip_does {l : List En} {v : AV} (hv : EnF v l) (hl : l.length <= 1000000) (H : AHeap) : Does Tryz.prog G 134 [v] H fun r h => ((l = [] /\ r.cells = [r] /\ zar r = some 0 /\ r.scalar = true /\ (r = .nilsl \/ r = .vsl [] 0)) \/ (0 < l.length /\ ∃ C, r = .csl C l.length /\ v = .vsl C l.length)) /\ h = H := by
 refine zad Tryz.call134 Tryz.func134 rfl (by simp [Tryz.f134]) ?_
 rcases hv with ⟨rfl, rfl⟩ | ⟨ts, rfl⟩
 · simp
 · by_cases h0 : 0 < l.length
   · have h0' : (0 : Int) <= l.length := by omega
     simp [h0, h0', -List.length_eq_zero_iff]
   · have : l = [] := by
      cases l with
      | nil => rfl
      | cons a l => simp at h0
     subst this
     simp
theorem equalRow_does {a b : Option (List Int)} {v w : AV} (hv : RowA v a) (hw' : RowA w b) (ha : (a.getD []).length <= 1000000) (H : AHeap) :
  Does Tryz.prog G 168 [v, w] H fun r h => r = .bool (decide (a.getD [] = b.getD [])) /\ h = H := by
 refine zad Tryz.call168 Tryz.func168 rfl (by simp [Tryz.f168]) ?_
 have hal : ∀ {c : Option (List Int)} {u : AV}, RowA u c -> alen Tryz.prog 45 u = some (.int .i64 (c.getD []).length) := by
  intro c u h
  rcases h with ⟨rfl, rfl⟩ | ⟨ts, l, rfl, rfl⟩ <;> simp [alen]
 have h1 := hal hv
 have h2 := hal hw'
 by_cases hne : (a.getD []).length = (b.getD []).length
 case neg =>
  have c1 : (((a.getD []).length : Int) != (b.getD []).length) = true := by simp; omega
  have c2 : ¬ a.getD [] = b.getD [] := fun e => hne (by rw [e])
  simp [h1, h2, c1, c2, -alen]
 have c1 : (((a.getD []).length : Int) != (b.getD []).length) = false := by simp; omega
 simp [h1, h2, c1, -alen]
 refine zai (fun k T' H' => ∃ i : Nat, i + k = (a.getD []).length /\ H' = H /\ T' 0 = v /\ T' 1 = w /\ T' 12 = .int .i64 (a.getD []).length /\ T' 13 = .int .i64 i /\ (a.getD [] = b.getD [] ↔ (a.getD []).drop i = (b.getD []).drop i)) (a.getD []).length ?_ ?_
 · exact ⟨0, by simp, rfl, by simp, by simp, by simp, by simp, by simp⟩
 rintro k T H1 ⟨i, hik, rfl, t0, t1, t12, t13, hs⟩ hw1 _
 by_cases hi : i < (a.getD []).length
 · have hii : (i : Int) < (a.getD []).length := by omega
   have hvs : ∀ {c : Option (List Int)} {u : AV}, RowA u c -> 0 < (c.getD []).length -> ∃ ts, u = .vsl (ints (c.getD []) ++ ts) (c.getD []).length := by
    intro c u h h0
    rcases h with ⟨rfl, rfl⟩ | ⟨ts, l, rfl, rfl⟩
    · simp at h0
    · exact ⟨ts, rfl⟩
   obtain ⟨ta, e1⟩ := hvs hv (by omega)
   obtain ⟨tb, e2⟩ := hvs hw' (by omega)
   generalize a.getD [] = la at *
   generalize b.getD [] = lb at *
   have g1 : la[i]? = some la[i] := List.getElem?_eq_getElem hi
   have hib : i < lb.length := by omega
   have g2 : lb[i]? = some lb[i] := List.getElem?_eq_getElem hib
   have d1 : la.drop i = la[i] :: la.drop (i + 1) := List.drop_eq_getElem_cons hi
   have d2 : lb.drop i = lb[i] :: lb.drop (i + 1) := List.drop_eq_getElem_cons hib
   rw [d1, d2, List.cons.injEq] at hs
   have at1 : (ints la ++ ta).drop i = .int .i64 la[i] :: (ints la ++ ta).drop (i + 1) := by
    rw [List.drop_eq_getElem_cons (by rw [List.length_append, zaS]; omega)]
    rw [List.getElem_append_left (by rw [zaS]; exact hi)]
    simp [ints]
   have at2 : (ints lb ++ tb).drop i = .int .i64 lb[i] :: (ints lb ++ tb).drop (i + 1) := by
    rw [List.drop_eq_getElem_cons (by rw [List.length_append, zaS]; omega)]
    rw [List.getElem_append_left (by rw [zaS]; exact hib)]
    simp [ints]
   generalize la[i] = x at *
   generalize lb[i] = y at *
   have wr : IntKind.i64.wrap ((i : Int) + 1) = ((i + 1 : Nat) : Int) := by rw [IntWalk.i64_in _ (by omega)]; omega
   rw [e1] at t0
   rw [e2] at t1
   simp [t0, t1, t12, t13, hi, hii, hib]
   refine aw_still zag (by kernel_rfl) ?_
   intro es hes
   simp [t0, t1, t12, t13, hi, hii, hib, at1, at2]
   subst hes
   refine ⟨by kernel_rfl, ?_⟩
   by_cases hxy : x = y
   · have c2 : (x != y) = false := by simp [hxy]
     simp [t0, t1, t12, t13, c2]
     exact ⟨k - 1, by omega, i + 1, by omega, e1.symm, e2.symm, wr, by rw [hs]; simp [hxy]⟩
   · have c2 : (x != y) = true := by simp [hxy]
     simp [t0, t1, t12, t13, c2]
     intro e
     exact hxy (hs.1 e).1
 · obtain rfl : i = (a.getD []).length := by omega
   have e : (b.getD []).drop (a.getD []).length = [] := by rw [hne, List.drop_length]
   rw [List.drop_length, e] at hs
   simp [t12, t13, hs]
theorem sameC_does {a b : En} {v w : AV} (hv : RowA v a.row) (hw' : RowA w b.row) (ha : a.l.length <= 1000000) (H : AHeap) :
  Does Tryz.prog G 167 [enV a v, enV b w] H fun r h => r = .bool (same a b) /\ h = H := by
 refine Does.forgot (R := fun r h => r = .bool (same a b) /\ ∀ j x, H.get j = some x -> h.get j = some x) ?_ (fun hw ha r H1 ⟨h1, h2⟩ => ⟨h2, by rw [h1]; rfl, h1, rfl⟩)
 refine Does.wf Tryz.call167 fun hw _ => ?_
 have old : ∀ (X Y : AObj) j x, H.get j = some x -> ((H.push X).push Y).get j = some x := fun X Y j x hj => by
  have := zaa hw hj
  have e0 : j ≠ H.next := by omega
  have e1 : j ≠ H.next + 1 := by omega
  simp [e0, e1, hj]
 refine zad Tryz.call167 Tryz.func167 rfl (by simp [Tryz.f167]) ?_
 by_cases h0 : a.id = b.id
 · simp [enV, hv.cells, hv.sc, hw'.cells, hw'.sc, h0]
   refine zab (equalRow_does hv hw' ha _) ?_
   rintro r h ⟨rfl, rfl⟩
   simp [same, h0, En.l]
   refine ⟨rfl, fun j x hj => ?_⟩
   have := zaa hw hj
   have e0 : j ≠ H.next := by omega
   have e1 : j ≠ H.next + 1 := by omega
   simp [e0, e1, hj]
 · have h0' : ¬ (a.id : Int) = b.id := by omega
   simp [enV, hv.cells, hv.sc, hw'.cells, hw'.sc, h0, h0', same]
   exact old _ _
theorem sames_drop {a b : List En} {i : Nat} {x y : En} (ha : a[i]? = some x) (hb : b[i]? = some y) : sames (a.drop i) (b.drop i) = (same x y && sames (a.drop (i + 1)) (b.drop (i + 1))) := by
 obtain ⟨hi, rfl⟩ := List.getElem?_eq_some_iff.1 ha
 obtain ⟨hi', rfl⟩ := List.getElem?_eq_some_iff.1 hb
 rw [List.drop_eq_getElem_cons hi, List.drop_eq_getElem_cons hi', sames]
theorem sames_len : ∀ {a b : List En}, a.length ≠ b.length -> sames a b = false
 | [], [], h => absurd rfl h
 | [], _ :: _, _ => rfl
 | _ :: _, [], _ => rfl
 | a :: l, b :: m, h => by rw [sames, sames_len (by simpa using h), Bool.and_false]
theorem equalEn_does {a b : List En} {v w : AV} (hv : EnF v a) (hw' : EnF w b) (hl : a.length <= 1000000) (hr : ∀ e ∈ a, e.l.length <= 1000000) (H : AHeap) :
  Does Tryz.prog G 169 [v, w, .func (.func 167) [] []] H fun r h => r = .bool (sames a b) /\ h = H := by
 refine Does.forgot (R := fun r h => r = .bool (sames a b) /\ ∀ j x, H.get j = some x -> h.get j = some x) ?_ (fun hw ha r H1 ⟨h1, h2⟩ => ⟨h2, by rw [h1]; rfl, h1, rfl⟩)
 refine Does.wf Tryz.call169 fun hw _ => ?_
 refine zad Tryz.call169 Tryz.func169 rfl (by simp [Tryz.f169]) ?_
 have hal : ∀ {l : List En} {u : AV}, EnF u l -> alen Tryz.prog 48 u = some (.int .i64 l.length) := by
  intro l u h
  rcases h with ⟨rfl, rfl⟩ | ⟨ts, rfl⟩ <;> simp [alen]
 have h1 := hal hv
 have h2 := hal hw'
 by_cases hne : a.length = b.length
 case neg =>
  have c1 : ((a.length : Int) != b.length) = true := by simp; omega
  simp [h1, h2, c1, sames_len hne, -alen]
 have c1 : ((a.length : Int) != b.length) = false := by simp; omega
 simp [h1, h2, c1, -alen]
 refine zai (fun k T' H' => ∃ i : Nat, i + k = a.length /\ (∀ j x, H.get j = some x -> H'.get j = some x) /\ T' 1 = w /\ T' 2 = .func (.func 167) [] [] /\ T' 15 = v /\ T' 16 = .int .i64 a.length /\ T' 17 = .int .i64 i /\ sames a b = sames (a.drop i) (b.drop i)) a.length ?_ ?_
 · exact ⟨0, by simp, fun j x hj => hj, by simp, by simp, by simp, by simp, by simp, by simp⟩
 rintro k T H1 ⟨i, hik, hk, t1, t2, t15, t16, t17, hs⟩ hw1 _
 by_cases hi : i < a.length
 · have hii : (i : Int) < a.length := by omega
   have hib : i < b.length := by omega
   obtain ⟨C, hvC, hCl, hat⟩ := hv.cs (by omega)
   obtain ⟨D, hvD, hDl, hbt⟩ := hw'.cs (by omega)
   have g1 : a[i]? = some a[i] := List.getElem?_eq_getElem hi
   have g2 : b[i]? = some b[i] := List.getElem?_eq_getElem hib
   have hat := hat i _ g1
   have hbt := hbt i _ g2
   have hre := hr _ (List.getElem_mem hi)
   rw [sames_drop g1 g2] at hs
   generalize a[i] = x at *
   generalize b[i] = y at *
   have h3 : 3 <= C.length - i * 3 := by omega
   have h3' : 3 <= D.length - i * 3 := by omega
   have wr : IntKind.i64.wrap ((i : Int) + 1) = ((i + 1 : Nat) : Int) := by rw [IntWalk.i64_in _ (by omega)]; omega
   rw [hvC] at t15
   rw [hvD] at t1
   have rx := RowA.rowV x.row
   have ry := RowA.rowV y.row
   simp [t1, t2, t15, t16, t17, hi, hii, hib, h3, h3', hat, hbt, rx.sc, ry.sc]
   refine zab (sameC_does (a := x) (b := y) rx ry hre _) ?_
   rintro r h ⟨rfl, rfl⟩
   cases hc : same x y with
   | false =>
     rw [hc, Bool.false_and] at hs
     simp [hc, t1, t2, t15, t16, t17]
     refine ⟨hs, fun j x hj => ?_⟩
     have := zaa hw1 (hk j x hj)
     have e0 : j ≠ H1.next := by omega
     have e1 : j ≠ H1.next + 1 := by omega
     simp [e0, e1, hk j x hj]
   | true =>
     rw [hc, Bool.true_and] at hs
     simp [hc, t1, t2, t15, t16, t17]
     refine ⟨k - 1, by omega, i + 1, by omega, fun j x hj => ?_, hvD.symm, hvC.symm, wr, hs⟩
     have := zaa hw1 (hk j x hj)
     have e0 : j ≠ H1.next := by omega
     have e1 : j ≠ H1.next + 1 := by omega
     simp [e0, e1, hk j x hj]
 · obtain rfl : i = a.length := by omega
   simp [t15, t16, t17]
   refine ⟨?_, hk⟩
   rw [hs, List.drop_length, hne, List.drop_length]
   rfl
theorem EnF.take {v : AV} {l : List En} (h : EnF v l) (n : Nat) (hn : n <= l.length) : ∃ w, EnF w (l.take n) /\ ((v = .nilsl /\ w = .nilsl) \/ (∃ C, v = .vsl C l.length /\ w = (if 0 < l.length then .vsl C n else .vsl [] 0))) := by
 rcases h with ⟨rfl, rfl⟩ | ⟨ts, rfl⟩
 · exact ⟨.nilsl, .inl ⟨rfl, by simp⟩, .inl ⟨rfl, rfl⟩⟩
 · by_cases h0 : 0 < l.length
   · obtain ⟨ts', e⟩ := entsC_take l n ts hn
     exact ⟨.vsl (entsC l ++ ts) n, .inr ⟨ts', by rw [e, List.length_take, Nat.min_eq_left hn]⟩, .inr ⟨_, rfl, by rw [if_pos h0]⟩⟩
   · have : l = [] := by
      cases l with
      | nil => rfl
      | cons a l => simp at h0
     subst this
     exact ⟨.vsl [] 0, .inr ⟨[], by simp [entsC]⟩, .inr ⟨_, rfl, by simp⟩⟩
theorem begins_does {a b : List En} {v w : AV} (hv : EnF v a) (hw' : EnF w b) (hl : a.length <= 1000000) (hr : ∀ e ∈ a, e.l.length <= 1000000) (H : AHeap) :
  Does Tryz.prog G 114 [v, w] H fun r h => r = .bool (begins a b) /\ h = H := by
 have hal : ∀ {l : List En} {u : AV}, EnF u l -> alen Tryz.prog 48 u = some (.int .i64 l.length) := by
  intro l u h
  rcases h with ⟨rfl, rfl⟩ | ⟨ts, rfl⟩ <;> simp [alen]
 have h1 := hal hv
 have h2 := hal hw'
 refine zad Tryz.call114 Tryz.func114 rfl (by simp [Tryz.f114]) ?_
 by_cases hne : b.length <= a.length
 case neg =>
  have c1 : ¬ (b.length : Int) <= a.length := by omega
  simp [h1, h2, c1, hne, begins, -alen]
 have c1 : (b.length : Int) <= a.length := by omega
 obtain ⟨u, hu, hx⟩ := hv.take b.length hne
 have hr' : ∀ e ∈ a.take b.length, e.l.length <= 1000000 := fun e he => hr e (List.mem_of_mem_take he)
 have hq := equalEn_does (G := G) hu hw' (by rw [List.length_take]; omega) hr'
 rcases hx with ⟨rfl, rfl⟩ | ⟨C, rfl, hw2⟩
 · have e0 : a = [] := by
    rcases hv with ⟨_, h⟩ | ⟨ts, h⟩
    · exact h
    · cases h
   subst e0
   have e1 : b = [] := by
    cases b with
    | nil => rfl
    | cons x b => simp at hne
   subst e1
   simp [h1, h2, -alen]
   refine zab (hq _) ?_
   rintro r h ⟨rfl, rfl⟩
   simp [begins]
 · by_cases h0 : 0 < a.length
   · rw [if_pos h0] at hw2
     subst hw2
     have h0' : (0 : Int) < a.length := by omega
     simp [h1, h2, c1, hne, h0, h0', -alen]
     refine zab (hq _) ?_
     rintro r h ⟨rfl, rfl⟩
     simp [begins, hne]
   · rw [if_neg h0] at hw2
     subst hw2
     obtain rfl : a = [] := List.length_eq_zero_iff.1 (by omega)
     obtain rfl : b = [] := List.length_eq_zero_iff.1 (by simp at hne; simp [hne])
     have h3 : alen Tryz.prog 48 (.vsl C 0) = some (.int .i64 0) := by simp [alen]
     simp [h2, h3, -alen]
     refine zab (hq _) ?_
     rintro r h ⟨rfl, rfl⟩
     simp [begins]
theorem elemEn : ElemOk Tryz.prog 48 48 62 3 40 := ⟨by simp, ⟨.slice 62, by simp, rfl⟩, by simp⟩
def CopG (H0 H : AHeap) (l : List En) (w : AV) : Prop := Gr H 3 l.length (entsC l) w (fun j => H0.next <= j) /\ (l = [] -> w = .nilsl)
theorem copies_run {l : List En} {v : AV} (hv : EnF v l) (hl : l.length <= 1000000) (hr : ∀ e ∈ l, e.l.length <= 1000000) (H : AHeap) :
  Does Tryz.prog G 72 [v] H fun r h => CopG H h l r /\ ∀ j x, H.get j = some x -> h.get j = some x := by
 refine Does.wf Tryz.call72 fun hw _ => ?_
 refine zad Tryz.call72 Tryz.func72 rfl (by simp [Tryz.f72]) ?_
 have hal : alen Tryz.prog 48 v = some (.int .i64 l.length) := by rcases hv with ⟨rfl, rfl⟩ | ⟨ts, rfl⟩ <;> simp [alen]
 simp [hal, -alen]
 refine zai (fun k T' H' => ∃ i w, i + k = l.length /\ (∀ j x, H.get j = some x -> H'.get j = some x) /\ H.next <= H'.next /\ CopG H H' (l.take i) w /\ T' 3 = w /\ T' 6 = v /\ T' 7 = .int .i64 l.length /\ T' 8 = .int .i64 i) l.length ?_ ?_
 · exact ⟨0, .nilsl, by simp, fun j x hj => hj, Nat.le_refl _, ⟨.inl ⟨by simp, by simp [entsC], rfl⟩, fun _ => rfl⟩, by simp, by simp, by simp, by simp⟩
 rintro k T H1 ⟨i, w, hik, hk, hnx, hg, t3, t6, t7, t8⟩ hw1 _
 by_cases hi : i < l.length
 · have hii : (i : Int) < l.length := by omega
   obtain ⟨C, hvC, hCl, hat⟩ := hv.cs (by omega)
   have g1 : l[i]? = some l[i] := List.getElem?_eq_getElem hi
   have hat := hat i _ g1
   have hre := hr _ (List.getElem_mem hi)
   have hsn : l.take (i + 1) = l.take i ++ [l[i]] := by rw [List.take_add_one, g1]; rfl
   have hln : (l.take i).length = i := by rw [List.length_take]; omega
   generalize l[i] = x at *
   have h3 : 3 <= C.length - i * 3 := by omega
   have wr : IntKind.i64.wrap ((i : Int) + 1) = ((i + 1 : Nat) : Int) := by rw [IntWalk.i64_in _ (by omega)]; omega
   rw [hvC] at t6
   have rx := RowA.rowV x.row
   simp [t3, t6, t7, t8, hi, hii, h3, hat, rx.sc, rx.cells]
   refine zab (copyEn_does (e := x) rx (by omega) _) ?_
   rintro r h ⟨rfl, rfl⟩
   have g2 : Gr ((H1.push (.cells [.int .u64 x.id, .int .u64 x.view, rowV x.row])).push (.cells [.int .u64 x.id, .int .u64 x.view, rowV x.row])) 3 i (entsC (l.take i)) w (fun j => H.next <= j /\ j < H1.next) := by
    rcases hg.1 with ⟨a1, a2, a3⟩ | ⟨p, o, cap, op, pre, junk, a1, a2, a3, a4, a5, a6, a7⟩
    · exact .inl ⟨by omega, a2, a3⟩
    · have pn := zaa hw1 a3
      have q1 : p ≠ H1.next := by omega
      have q2 : p ≠ H1.next + 1 := by omega
      exact .inr ⟨p, o, cap, op, pre, junk, by rw [a1, hln], ⟨a2, pn⟩, by simp [q1, q2, a3], a4, by rw [a5, hln], by rw [<- a6, hln], by rw [<- hln]; exact a7⟩
   obtain ⟨v', eff, f1, f2, f3, f4⟩ := g2.app (elemEn) (m := 1) (x := .sl (H1.next + 1) 0 3 1 1 false) (news := [.int .u64 x.id, .int .u64 x.view, rowV x.row]) (fun _ _ e => by cases e) rfl (by simp [zaj]) (by simp [rx.sc]) rfl (by omega) (by omega) (by omega) (by omega) (nx := H1.next + 1 + 1) rfl
   simp [enV, t3, t6, t7, t8, rx.sc, rx.cells, -zao]
   rw [f1]
   generalize hH2 : ((H1.push (.cells [.int .u64 x.id, .int .u64 x.view, rowV x.row])).push (.cells [.int .u64 x.id, .int .u64 x.view, rowV x.row])) = H2 at *
   have nx2 : H2.next = H1.next + 1 + 1 := by rw [<- hH2]; rfl
   simp [t3, t6, t7, t8]
   refine ⟨k - 1, by omega, i + 1, by omega, fun j y hj => ?_, by omega, v', ⟨?_, ?_⟩, rfl, hvC.symm, wr⟩
   · have j1 := zaa hw hj
     rw [f3 j (by omega) (by omega), <- hH2]
     have e0 : j ≠ H1.next := by omega
     have e1 : j ≠ H1.next + 1 := by omega
     simp [e0, e1, hk j y hj]
   · rw [hsn, entsC_append, List.length_append, hln]
     exact (f2.mono fun j hj => by omega)
   · intro e
     rw [hsn] at e
     simp at e
 · obtain rfl : i = l.length := by omega
   rw [List.take_length] at hg
   simp [t3, t7, t8]
   exact ⟨hg, hk⟩
theorem copies_does {l : List En} {v : AV} (hv : EnF v l) (hl : l.length <= 1000000) (hr : ∀ e ∈ l, e.l.length <= 1000000) (H : AHeap) :
  Does Tryz.prog G 72 [v] H fun r h => r = entsV l /\ h = H := by
 by_cases h0 : l = []
 · subst h0
   refine Does.forgot (R := fun r h => r = .nilsl /\ ∀ j x, H.get j = some x -> h.get j = some x) ((copies_run hv hl hr H).mono ?_) (fun hw ha r H1 ⟨h1, h2⟩ => ⟨h2, by rw [h1]; rfl, h1, rfl⟩)
   rintro r h ⟨h1, h2⟩
   exact ⟨h1.2 rfl, h2⟩
 · refine Does.frozen (copies_run hv hl hr H) ?_
   rintro hw _ r H1 ⟨h1, h2⟩
   rcases h1.1 with ⟨h, _⟩ | ⟨p, o, cap, op, pre, junk, rfl, a2, a3, a4, a5, a6, a7⟩
   · exact absurd (List.length_eq_zero_iff.1 h) h0
   · have e : AV.frz p (pre ++ (entsC l ++ junk)) (.sl p o 3 l.length cap op) = entsV l := by
      have : l.isEmpty = false := by simpa using h0
      simp only [AV.frz, if_true, entsV, this, List.drop_left' a4, List.take_left' a5]
      rfl
     exact ⟨p, _, a2, a3, h2, by rw [e]; exact entsV_lt _ _, by rw [e], rfl⟩
def u64s (l : List Nat) : List AV := l.map fun (u : Nat) => AV.int .u64 (u : Int)
theorem u64s_at {l : List Nat} {i u : Nat} (h : l[i]? = some u) : (u64s l)[i]? = some (.int .u64 u) := by simp [u64s, h]
def encUs (l : List Nat) : Bs := l.flatMap encU
theorem encUs_snoc (l : List Nat) (u : Nat) : encUs (l ++ [u]) = encUs l ++ encU u := by simp [encUs]
theorem encUs_le {l : List Nat} (h : ∀ u ∈ l, u < 2 ^ 64) : (encUs l).length <= 10 * l.length := by
 induction l with
 | nil => simp [encUs]
 | cons u l ih =>
   have h1 := zan (h u (by simp))
   have h2 := ih fun x hx => h x (by simp [hx])
   simp [encUs] at h2 ⊢; omega
theorem encEns_snoc (l : List En) (e : En) : zaU (l ++ [e]) = zaU l ++ encS (encEn e) := by simp [zaU]
def EnSm (e : En) : Prop := e.ok /\ e.l.length <= 64
theorem encEn_le {e : En} (h : EnSm e) : (encEn e).length <= 1000 := by
 obtain ⟨⟨h1, h2, h3, h4⟩, h5⟩ := h
 have e1 := zan h1
 have e2 := zan h2
 have e3 : (encU e.l.length).length <= 10 := zan (by omega)
 have e4 := encIs_le h4
 simp [encEn]; omega
theorem encS_le {s : Bs} (h : s.length <= 1000) : (encS s).length <= 1010 := by
 have e3 : (encU s.length).length <= 10 := zan (by omega)
 simp [encS]; omega
theorem encEns_le {l : List En} (h : ∀ e ∈ l, EnSm e) : (zaU l).length <= 1010 * l.length := by
 induction l with
 | nil => simp [zaU]
 | cons e l ih =>
   have h1 := encS_le (encEn_le (h e (by simp)))
   have h2 := ih fun x hx => h x (by simp [hx])
   simp [zaU] at h2 ⊢; omega
theorem record_does {H : AHeap} {i : Nat} {cs : List AV} {me n kind view last agreed : Nat} {l : List En} {v : AV} (hi : H.get i = some (.cells (.int .i64 me :: .int .i64 n :: cs)))
  (b1 : me < 2 ^ 62) (b2 : n < 2 ^ 62) (b3 : kind < 2 ^ 64) (b4 : view < 2 ^ 64) (b5 : last < 2 ^ 64) (b6 : agreed < 2 ^ 62) (hv : EnF v l) (hl : l.length <= 1000) (he : ∀ e ∈ l, EnSm e) :
  Does Tryz.prog G 140 [.ptr i 0, .int .u64 kind, .int .u64 view, .int .u64 last, .int .i64 agreed, v] H fun r h => r = bV (za4 me n kind view last agreed l) /\ h = H := by
 obtain ⟨us, hu⟩ : ∃ us : List Nat, us = [me, n, kind, view, last, agreed, l.length] := ⟨_, rfl⟩
 have hrec : za4 me n kind view last agreed l = encUs us ++ zaU l := by rw [hu]; simp [za4, encUs]
 have eb : ([.int .u64 me, .int .u64 n, .int .u64 kind, .int .u64 view, .int .u64 last, .int .u64 agreed, .int .u64 l.length] : List AV) = u64s us := by rw [hu]; rfl
 have hus : ∀ u ∈ us, u < 2 ^ 64 := by
  intro u hu2
  rw [hu] at hu2
  simp only [List.mem_cons, List.not_mem_nil, or_false] at hu2
  rcases hu2 with rfl | rfl | rfl | rfl | rfl | rfl | rfl <;> omega
 have hul : us.length = 7 := by rw [hu]; rfl
 have ule := encUs_le hus
 rw [hrec]
 refine Does.forgot (R := fun r h => r = bV (encUs us ++ zaU l) /\ ∀ j x, H.get j = some x -> h.get j = some x) ?_ (fun hw ha r H1 ⟨h1, h2⟩ => ⟨h2, by rw [h1]; simp only [bV, AV.idLt]; exact strCs_lt _ _, h1, rfl⟩)
 refine Does.wf Tryz.call140 fun hw _ => ?_
 refine zad Tryz.call140 Tryz.func140 rfl (by simp [Tryz.f140]) ?_
 have hal : alen Tryz.prog 48 v = some (.int .i64 l.length) := by rcases hv with ⟨rfl, rfl⟩ | ⟨ts, rfl⟩ <;> simp [alen]
 have w1 : IntKind.u64.wrap (me : Int) = me := IntWalk.u64_in _ (by omega)
 have w2 : IntKind.u64.wrap (n : Int) = n := IntWalk.u64_in _ (by omega)
 have w3 : IntKind.u64.wrap (agreed : Int) = agreed := IntWalk.u64_in _ (by omega)
 have w4 : IntKind.u64.wrap (l.length : Int) = l.length := IntWalk.u64_in _ (by omega)
 simp
 refine zam [(3, 0), (8, 0)] zag (by kernel_rfl) ?_
 intro es hes
 simp [hi, hal, w1, w2, w3, w4, -alen]
 refine ⟨by subst hes; exact ⟨by kernel_rfl, by kernel_rfl⟩, ?_, ?_⟩
 · simp [rds, heapF, hi]
 clear hes
 simp
 refine zai (fun k T' H' => ∃ j : Nat, j + k = 7 /\ (∀ x y, H.get x = some y -> H'.get x = some y) /\ H'.get H.next = some (.cells (u64s us)) /\ (∃ bv, T' 13 = bv /\ BtA bv (encUs (us.take j)) /\ (0 < j -> bv = bV (encUs (us.take j)))) /\ T' 5 = v /\ T' 36 = .sl H.next 0 1 7 7 false /\ T' 37 = .int .i64 7 /\ T' 38 = .int .i64 j) 7 ?_ ?_
 · refine ⟨0, rfl, fun x y h => ?_, ?_, ⟨.nilsl, by simp, .inl ⟨rfl, by simp [encUs]⟩, fun h => by omega⟩, ?_, ?_, ?_, ?_⟩
   · have := zaa hw h
     have : x ≠ H.next := by omega
     simp [this, h]
   · rw [<- eb]; simp
   all_goals simp
 · rintro k T H1 ⟨j, hjk, hk, hb, ⟨bv, t13, hbv, hbe⟩, t5, t36, t37, t38⟩ hw1 _
   by_cases hj : j < 7
   · have hj' : (j : Int) < 7 := by omega
     obtain ⟨u, hu1⟩ : ∃ u, us[j]? = some u := ⟨_, List.getElem?_eq_getElem (by omega)⟩
     have hat := u64s_at hu1
     have hj7 : j <= (u64s us).length := by simp [u64s]; omega
     have hdr : List.drop j (u64s us) = .int .u64 u :: List.drop (j + 1) (u64s us) := by
      obtain ⟨q1, q2⟩ := List.getElem?_eq_some_iff.1 hat
      rw [List.drop_eq_getElem_cons q1, q2]
     have hub : u < 2 ^ 64 := hus u (List.mem_of_getElem? hu1)
     have hsn : us.take (j + 1) = us.take j ++ [u] := by rw [List.take_add_one, hu1]; rfl
     have hle : (encUs (us.take j)).length <= 70 := by
      have := encUs_le (l := us.take j) fun x hx => hus x (List.mem_of_mem_take hx)
      rw [List.length_take] at this; omega
     have wr : IntKind.i64.wrap ((j : Int) + 1) = ((j + 1 : Nat) : Int) := by rw [IntWalk.i64_in _ (by omega)]; omega
     simp [t13, t5, t36, t37, t38, hj, hj', hb, hj7, hdr]
     refine zab (zaQ hub hbv (by omega) _) ?_
     rintro r h ⟨rfl, rfl⟩
     simp [t13, t5, t36, t37, t38]
     refine ⟨k - 1, by omega, j + 1, by omega, hk, hb, ?_, wr⟩
     rw [hsn, encUs_snoc]
     exact ⟨.bV _, fun _ => rfl⟩
   · obtain rfl : j = 7 := by omega
     have etk : us.take 7 = us := List.take_of_length_le (by omega)
     rw [etk] at hbv hbe
     have hbe := hbe (by omega)
     simp [t37, t38, t5, t13, hal, -alen]
     refine zai (fun k T' H' => ∃ j : Nat, j + k = l.length /\ (∀ x y, H.get x = some y -> H'.get x = some y) /\ T' 13 = bV (encUs us ++ zaU (l.take j)) /\ T' 46 = v /\ T' 47 = .int .i64 l.length /\ T' 48 = .int .i64 j) l.length ?_ ?_
     · refine ⟨0, by simp, hk, ?_, ?_, ?_, ?_⟩ <;> simp [t13, hbe, zaU]
     · rintro k T H1 ⟨j, hjk, hk, t13, t46, t47, t48⟩ hw1 _
       by_cases hj : j < l.length
       · have hj' : (j : Int) < l.length := by omega
         obtain ⟨C, hvC, hCl, hat⟩ := hv.cs (by omega)
         have g1 : l[j]? = some l[j] := List.getElem?_eq_getElem hj
         have hat := hat j _ g1
         have hsm := he _ (List.getElem_mem hj)
         have hsn : l.take (j + 1) = l.take j ++ [l[j]] := by rw [List.take_add_one, g1]; rfl
         have hle : (zaU (l.take j)).length <= 1010 * 1000 := by
          have := encEns_le (l := l.take j) fun x hx => he x (List.mem_of_mem_take hx)
          rw [List.length_take] at this
          omega
         generalize l[j] = e at *
         have hel := encEn_le hsm
         have h3 : 3 <= C.length - j * 3 := by omega
         have wr : IntKind.i64.wrap ((j : Int) + 1) = ((j + 1 : Nat) : Int) := by rw [IntWalk.i64_in _ (by omega)]; omega
         have rx := RowA.rowV e.row
         rw [hvC] at t46
         obtain ⟨bv2, hbv2⟩ : ∃ bv2, bv2 = bV (encUs us ++ zaU (l.take j)) := ⟨_, rfl⟩
         rw [<- hbv2] at t13
         simp [t13, t46, t47, t48, hj, hj', h3, hat, rx.sc, rx.cells]
         refine zab (putEn_does (e := e) rx hsm.1 (by have := hsm.2; omega) _) ?_
         rintro r h ⟨rfl, rfl⟩
         have ab := zaN (encEn e)
         have tk : List.take (encEn e).length (strCs (encEn e)) = strCs (encEn e) := by rw [<- zac, List.take_length]
         simp [t13, t46, t47, t48, bV, ab, tk, zac, -abytes]
         refine zab (packS_does (s := encEn e) (by omega) (bv := bv2) (bs := encUs us ++ zaU (l.take j)) (by rw [hbv2]; exact .bV _) (by rw [List.length_append]; omega) _) ?_
         rintro r h ⟨rfl, rfl⟩
         simp [t13, t46, t47, t48]
         refine ⟨k - 1, by omega, j + 1, by omega, fun x y hx => ?_, ?_, hvC.symm, wr⟩
         · have := zaa hw1 (hk x y hx)
           have e0 : x ≠ H1.next := by omega
           simp [e0, hk x y hx]
         · rw [hsn, encEns_snoc, <- List.append_assoc]
       · obtain rfl : j = l.length := by omega
         rw [List.take_length] at t13
         simp [t47, t48, t13]
         exact hk
theorem res_int (get : Nat -> Option AObj) (n : Nat) (k : IntKind) (x : Int) : AV.res get (n + 1) (.int k x) = some (.int k x) := rfl
theorem res_vsl (get : Nat -> Option AObj) (n : Nat) (cs : List AV) (len : Nat) : AV.res get (n + 1) (.vsl cs len) = (zaw (cs.map (AV.res get n))).map (.vsl · len) := rfl
theorem res_sl (get : Nat -> Option AObj) (n : Nat) (i o z len cap : Nat) (op : Bool) {cs : List AV} (h : get i = some (.cells cs)) : AV.res get (n + 1) (.sl i o z len cap op) = (zaw (((cs.drop o).take (len * z)).map (AV.res get n))).map (.vsl · len) := by
 rw [show AV.res get (n + 1) (.sl i o z len cap op) = (match get i with | some (.cells cs) => (zaw (((cs.drop o).take (len * z)).map (AV.res get n))).map (.vsl · len) | _ => none) from rfl, h]
theorem res_ints (get : Nat -> Option AObj) (n : Nat) : ∀ l : List Int, zaw ((ints l).map (AV.res get (n + 1))) = some (ints l)
 | [] => rfl
 | a :: l => by
   have := res_ints get n l
   simp only [ints, List.map_cons, res_int, zaw] at this ⊢
   rw [this]; rfl
theorem res_rowV (get : Nat -> Option AObj) (n : Nat) (row : Option (List Int)) : AV.res get (n + 2) (rowV row) = some (rowV row) := by
 cases row with
 | none => rfl
 | some l => simp only [rowV, res_vsl, res_ints]; rfl
theorem res_ents (get : Nat -> Option AObj) (n : Nat) : ∀ l : List En, zaw ((entsC l).map (AV.res get (n + 2))) = some (entsC l)
 | [] => rfl
 | e :: l => by
   have := res_ents get n l
   have h1 := res_rowV get n e.row
   simp only [entsC, List.flatMap_cons, List.cons_append, List.nil_append, List.map_cons, res_int, zaw, h1] at this ⊢
   rw [this]; rfl
theorem RdTo.next {H h : AHeap} {k : Nat} {r : Rd} (t : RdTo H h k r) : h.next = H.next := by
 obtain ⟨v, _, rfl⟩ := t
 rfl
theorem rdS_e {H : AHeap} {k : Nat} {s : Bs} {r R : Rd} (e : r.S = (s, R)) (hk : RdAt H k r) (hl : r.b.length <= 1000000) : Does Tryz.prog G 63 [.ptr k 0] H fun x h => x = .str s /\ RdTo H h k R := by
 have := rdS_does (G := G) hk (by omega)
 rw [e] at this
 exact this
theorem rdS_b {s : Bs} {r R : Rd} (e : r.S = (s, R)) (hl : r.b.length <= 1000000) : s.length <= 1000000 /\ R.b.length <= 1000000 := by
 have := rdS_len r
 rw [e] at this
 exact ⟨by have := this.2; simp only at this; omega, by have := this.1; simp only at this; omega⟩
theorem slice_take {v : AV} {l : List En} (h : EnF v l) {n : Nat} (hn : n <= l.length) : ∃ w, EnF w (l.take n) /\ aslice Tryz.prog 48 v none (some (.int .i64 n)) none = some w := by
 obtain ⟨w, hw, hx⟩ := h.take n hn
 rcases hx with ⟨rfl, rfl⟩ | ⟨C, rfl, rfl⟩
 · have e0 : l = [] := by
    rcases h with ⟨_, h⟩ | ⟨ts, h⟩
    · exact h
    · cases h
   subst e0
   have : n = 0 := by simpa using hn
   subst this
   exact ⟨.nilsl, hw, by simp [aslice]⟩
 · refine ⟨_, hw, ?_⟩
   by_cases h0 : 0 < l.length
   · simp [aslice, h0, hn]
   · have e0 : l.length = 0 := by omega
     have : n = 0 := by omega
     subst this
     simp [aslice, e0]
structure CsOk (c : Cs) : Prop where
 list : c.list.length <= 200
 rows : ∀ e ∈ c.list, e.l.length <= 1000000
 agreed : c.agreed <= c.list.length
structure RcOk (x : Rc) : Prop where
 list : x.list.length <= 200
 rows : ∀ e ∈ x.list, e.l.length <= 1000000
 agreed : x.agreed < 2 ^ 64
@[simp] theorem cells_map (g : Nat) : (AV.map g).cells = [.map g] := rfl
@[simp] theorem scalar_map (g : Nat) : (AV.map g).scalar = true := rfl
theorem committed_does {H : AHeap} {i : Nat} {a0 a1 a2 a3 a6 a7 a8 a9 a10 lv : AV} {l : List En} {n : Nat} (hi : H.get i = some (.cells [a0, a1, a2, a3, lv, .int .i64 n, a6, a7, a8, a9, a10])) (hlv : EnF lv l) (hn : n <= l.length) (hl : l.length <= 1000000) (hr : ∀ e ∈ l, e.l.length <= 1000000) :
  Does Tryz.prog G 38 [.ptr i 0] H fun r h => r = entsV (l.take n) /\ h = H := by
 refine zad Tryz.call38 Tryz.func38 rfl (by simp [Tryz.f38]) ?_
 have ls := hlv.sc
 have lc := hlv.cells
 obtain ⟨w, hw', hsl⟩ := slice_take hlv hn
 simp
 refine zam [(3, 0), (7, 0)] zag (by kernel_rfl) ?_
 intro es hes
 simp [zak, -zal, hi, ls, lc, hsl, -aslice]
 refine ⟨_, _, copies_does hw' (by rw [List.length_take]; omega) (fun e he => hr e (List.mem_of_mem_take he)) _, Nat.le_refl _, ?_⟩
 refine ad_go (fun T' => T' 12 = entsV (l.take n)) (by simp) ?_
 rintro T1 a12
 simp [zak, -zal, a12]
 refine ⟨by subst hes; exact ⟨by kernel_rfl, by kernel_rfl⟩, by simp [rds, heapF, hi, ls, lc]⟩
theorem Gr_lt {H : AHeap} {z n : Nat} {cs : List AV} {v : AV} {b : Nat -> Prop} (h : Gr H z n cs v b) (hw : ∀ j x, H.get j = some x -> j < H.next) : Gr H z n cs v (fun j => b j /\ j < H.next /\ ∃ c, H.get j = some (.cells c)) := by
 rcases h with h | ⟨p, o, cap, op, pre, junk, h1, h2, h3, h4⟩
 · exact .inl h
 · exact .inr ⟨p, o, cap, op, pre, junk, h1, ⟨h2, hw _ _ h3, _, h3⟩, h3, h4⟩
def msV (kind frm to : Int) (view last op commit : Int) (ev bv : AV) : AV := .agg [.int .i64 kind, .int .i64 frm, .int .i64 to, .int .u64 view, .int .u64 last, .int .u64 op, .int .u64 commit, ev, bv]
theorem send_self {H : AHeap} {i s : Nat} {me view : Int} {a1 a3 : AV} {cs : List AV} (hi : H.get i = some (.cells (.int .i64 me :: a1 :: .int .u64 view :: a3 :: cs))) {kind frm view' last op commit : Int} {ev bv : AV} (e1 : ev.scalar = true) (e2 : ev.cells = [ev]) (b1 : bv.scalar = true) (b2 : bv.cells = [bv]) :
  Does Tryz.prog G 88 [.ptr i 0, .ptr s 0, msV kind frm me view' last op commit ev bv] H fun r h => r = .tuple [] /\ h = H := by
 refine Does.forgot (R := fun r h => r = .tuple [] /\ ∀ j x, H.get j = some x -> h.get j = some x) ?_ (fun hw ha r H1 ⟨h1, h2⟩ => ⟨h2, by rw [h1]; rfl, h1, rfl⟩)
 refine Does.wf Tryz.call88 fun hw _ => ?_
 refine zad Tryz.call88 Tryz.func88 rfl (by simp [Tryz.f88]) ?_
 have hin := zaa hw hi
 have q1 : i ≠ H.next := by omega
 simp [msV, e1, e2, b1, b2]
 refine zam [(3, 0), (7, 0), (7, 10)] zag (by kernel_rfl) ?_
 intro es hes
 simp [hi, q1, q1.symm]
 refine ⟨by subst hes; exact ⟨by kernel_rfl, by kernel_rfl⟩, by simp [rds, heapF, hi, q1, q1.symm, e1, e2, b1, b2], ?_⟩
 refine zam [(1, 0), (5, 0)] zag (by kernel_rfl) ?_
 intro es hes
 simp [hi, q1, q1.symm]
 refine ⟨by subst hes; exact ⟨by kernel_rfl, by kernel_rfl⟩, by simp [rds, heapF, hi, q1, q1.symm, e1, e2, b1, b2], ?_⟩
 intro j x hj
 have := zaa hw hj
 have e0 : j ≠ H.next := by omega
 simp [e0, hj]
structure KpRec where
 last : Nat
 whole : Bs
 stepped : Nat
 state : Bs
def slots (x : Nat × Nat × Bs) : Option (Option KpRec) :=
 if x.1 = 0 then some none
 else
  let r1 := (Rd.mk x.2.2 false).U
  let r2 := r1.2.S
  let r3 := r2.2.U
  let r4 := r3.2.S
  if r4.2.bad = true \/ 0 < r4.2.b.length then none else some (some ⟨r1.1, r2.1, r3.1, r4.1⟩)
end Go.Proofs.YtekbjlihciedjaaGreatDoor
namespace Go.Abs
open Go
theorem aw_frz {P : Program} {G : Nat -> Option AV} {N : Nat} {c : Code} {Q : Post} {T : Nat -> AV} {H : AHeap} {i : Nat} {cs : List AV} (hi : H.get i = some (.cells cs))
  (h : AW P G N c Q (fun t => (T t).frz i cs) (H.frz i cs)) : AW P G N c Q T H := by
 intro E0 a w hG hs
 obtain ⟨⟨E, hx, hR, hT⟩, hd⟩ := hs
 obtain ⟨E', hx', hR', hk⟩ := hR.frz hi
 exact h E0 a w hG ⟨⟨E', hx.trans hx', hR', ⟨hT.size, fun t => hk (hT.rel t)⟩⟩, hd⟩
theorem aws_loopz {X : Ctx} {c : Code} {Q : Post} {T : Nat -> AV} {H : AHeap} (I : Nat -> (Nat -> AV) -> AHeap -> Prop) (n : Nat) (h0 : I n T H)
  (round : ∀ n T H, I n T H -> H.Wf -> (∀ t, (T t).idLt H.next = true) -> @AWf ⟨X⟩ ⟨c⟩ ⟨QThen (fun T' H' => ∃ m, m < n /\ (I m T' H' \/ ∃ i cs, H'.get i = some (.cells cs) /\ I m (fun t => (T' t).frz i cs) (H'.frz i cs))) Q⟩ ⟨T⟩ H) : @AWs ⟨X⟩ ⟨.loop c⟩ ⟨Q⟩ ⟨T⟩ H := by
 refine aw_loop (fun n T' H' => I n T' H' \/ ∃ i cs, H'.get i = some (.cells cs) /\ I n (fun t => (T' t).frz i cs) (H'.frz i cs)) n (.inl h0) fun n T H h => ?_
 rcases h with h | ⟨i, cs, hi, h⟩
 · exact aw_wf fun hw ht => awf_of (round n T H h hw ht)
 · exact aw_frz hi (aw_wf fun hw ht => awf_of (round n _ _ h hw ht))
end Go.Abs
namespace Go.Proofs.YtekbjlihciedjaaGreatDoor
open Go Go.Abs Go.Rp
variable {G : Nat -> Option AV}
@[simp] theorem bV_cells (b : Bs) : (bV b).cells = [bV b] := (BtA.bV b).cells
@[simp] theorem bV_sc (b : Bs) : (bV b).scalar = true := (BtA.bV b).sc
theorem elemBs : ElemOk Tryz.prog 87 87 22 1 24 := ⟨by simp, ⟨.slice 22, by simp, rfl⟩, by simp⟩
def lens (l : List Bs) : Nat := (l.map List.length).sum
theorem lens_append (a b : List Bs) : lens (a ++ b) = lens a + lens b := by simp only [lens, List.map_append, List.sum_append]
theorem bV_alen (b : Bs) : Go.Abs.alen Tryz.prog 22 (bV b) = some (.int .i64 b.length) := by simp [Go.Abs.alen, bV]
end Go.Proofs.YtekbjlihciedjaaGreatDoor
namespace Go.Rp
open Go Go.Abs
def addI (a b : Int) : Int := IntKind.u32.wrap (a + b)
def xorI (a b : Int) : Int := IntKind.u32.wrap ((BitVec.ofInt IntKind.u32.bits a ^^^ BitVec.ofInt IntKind.u32.bits b).toNat : Nat)
def andI (a b : Int) : Int := IntKind.u32.wrap ((BitVec.ofInt IntKind.u32.bits a &&& BitVec.ofInt IntKind.u32.bits b).toNat : Nat)
def orI (a b : Int) : Int := IntKind.u32.wrap ((BitVec.ofInt IntKind.u32.bits a ||| BitVec.ofInt IntKind.u32.bits b).toNat : Nat)
def shlI (a : Int) (n : Nat) : Int := IntKind.u32.wrap (a * 2 ^ (min n IntKind.u32.bits))
def shrI (a : Int) (n : Nat) : Int := a.fdiv (2 ^ (min n IntKind.u32.bits))
def notI (a : Int) : Int := IntKind.u32.wrap ((BitVec.ofInt IntKind.u32.bits (if IntKind.u32.signed then -1 else IntKind.u32.max) ^^^ BitVec.ofInt IntKind.u32.bits a).toNat : Nat)
def cvI (n : Int) : Int := IntKind.u32.wrap n
def rotI (x : Int) (n : Nat) : Int := orI (shlI x n) (shrI x (32 - n))
theorem o_add (a b : Int) : aint2 .add .u32 a b = some (.int .u32 (addI a b)) := rfl
theorem o_xor (a b : Int) : aint2 .xor .u32 a b = some (.int .u32 (xorI a b)) := rfl
theorem o_and (a b : Int) : aint2 .and .u32 a b = some (.int .u32 (andI a b)) := rfl
theorem o_or (a b : Int) : aint2 .or .u32 a b = some (.int .u32 (orI a b)) := rfl
theorem o_add64 (a b : Int) : aint2 .add .i64 a b = some (.int .i64 (IntKind.i64.wrap (a + b))) := rfl
theorem o_sub64 (a b : Int) : aint2 .sub .i64 a b = some (.int .i64 (IntKind.i64.wrap (a - b))) := rfl
theorem o_mul64 (a b : Int) : aint2 .mul .i64 a b = some (.int .i64 (IntKind.i64.wrap (a * b))) := rfl
theorem o_lss64 (a b : Int) : aint2 .lss .i64 a b = some (.bool (decide (a < b))) := rfl
theorem o_geq64 (a b : Int) : aint2 .geq .i64 a b = some (.bool (decide (a ≥ b))) := rfl
theorem o_subU (a b : Int) : aint2 .sub .u64 a b = some (.int .u64 (IntKind.u64.wrap (a - b))) := rfl
theorem o_mulU (a b : Int) : aint2 .mul .u64 a b = some (.int .u64 (IntKind.u64.wrap (a * b))) := rfl
theorem o_shl (a : Int) (n : Nat) : za6 .shl .u32 a (n : Int) = some (.int .u32 (shlI a n)) := by simp only [za6]; rw [if_neg (by omega)]; rfl
theorem o_shr (a : Int) (n : Nat) : za6 .shr .u32 a (n : Int) = some (.int .u32 (shrI a n)) := by simp only [za6]; rw [if_neg (by omega)]; rfl
theorem o_not (a : Int) : aun .xor (.int .u32 a) = some (.int .u32 (notI a)) := rfl
theorem o_shl24 (a : Int) : za6 .shl .u32 a 24 = some (.int .u32 (shlI a 24)) := rfl
theorem o_shl16 (a : Int) : za6 .shl .u32 a 16 = some (.int .u32 (shlI a 16)) := rfl
theorem o_shl8 (a : Int) : za6 .shl .u32 a 8 = some (.int .u32 (shlI a 8)) := rfl
theorem o_shr3 (a : Int) : za6 .shr .u32 a 3 = some (.int .u32 (shrI a 3)) := rfl
theorem o_shr10 (a : Int) : za6 .shr .u32 a 10 = some (.int .u32 (shrI a 10)) := rfl
def u32s (l : List Int) : List AV := l.map (.int .u32 ·)
theorem za0 (l : List Int) : (u32s l).length = l.length := by simp [u32s]
theorem u32s_set (l : List Int) (i : Nat) (x : Int) : (u32s l).set i (.int .u32 x) = u32s (l.set i x) := by simp [u32s, List.map_set]
theorem u32s_at {l : List Int} {i : Nat} (h : i < l.length) : (u32s l)[i]? = some (.int .u32 (l.getD i 0)) := by simp [u32s, h]
theorem u32s_sc (l : List Int) : (u32s l).all AV.scalar = true := by simp [u32s]
def byteI (b : Bs) (i : Nat) : Int := cvI ((b.getD i 0).toNat : Int)
def word0 (b : Bs) (i : Nat) : Int := orI (orI (orI (shlI (byteI b (4 * i)) 24) (shlI (byteI b (4 * i + 1)) 16)) (shlI (byteI b (4 * i + 2)) 8)) (byteI b (4 * i + 3))
def words0 (b : Bs) : Nat -> List Int -> List Int
 | 0, w => w
 | i + 1, w => (words0 b i w).set i (word0 b i)
def word1 (w : List Int) (i : Nat) : Int :=
 addI (addI (addI (w.getD (i - 16) 0) (xorI (xorI (rotI (w.getD (i - 15) 0) 25) (rotI (w.getD (i - 15) 0) 14)) (shrI (w.getD (i - 15) 0) 3))) (w.getD (i - 7) 0)) (xorI (xorI (rotI (w.getD (i - 2) 0) 15) (rotI (w.getD (i - 2) 0) 13)) (shrI (w.getD (i - 2) 0) 10))
def words1 : Nat -> List Int -> List Int
 | 0, w => w
 | i + 1, w => (words1 i w).set (16 + i) (word1 (words1 i w) (16 + i))
def zeros (n : Nat) : List Int := List.replicate n 0
def sched (b : Bs) : List Int := words1 48 (words0 b 16 (zeros 64))
theorem words0_len (b : Bs) (w : List Int) : ∀ i, (words0 b i w).length = w.length
 | 0 => rfl
 | i + 1 => by simp [words0, words0_len b w i]
theorem words1_len (w : List Int) : ∀ i, (words1 i w).length = w.length
 | 0 => rfl
 | i + 1 => by simp [words1, words1_len w i]
theorem sched_len (b : Bs) : (sched b).length = 64 := by simp [sched, words1_len, words0_len, zeros]
def rnd (k w : Int) (v : List Int) : List Int :=
 let a := v.getD 0 0
 let e := v.getD 4 0
 let s1 := xorI (xorI (rotI e 26) (rotI e 21)) (rotI e 7)
 let t1 := addI (addI (addI (addI (v.getD 7 0) s1) (xorI (andI e (v.getD 5 0)) (andI (notI e) (v.getD 6 0)))) k) w
 let s0 := xorI (xorI (rotI a 30) (rotI a 19)) (rotI a 10)
 let t2 := addI s0 (xorI (xorI (andI a (v.getD 1 0)) (andI a (v.getD 2 0))) (andI (v.getD 1 0) (v.getD 2 0)))
 [addI t1 t2, v.getD 0 0, v.getD 1 0, v.getD 2 0, addI (v.getD 3 0) t1, v.getD 4 0, v.getD 5 0, v.getD 6 0]
def rnds (k w : List Int) : Nat -> List Int -> List Int
 | 0, v => v
 | i + 1, v => rnd (k.getD i 0) (w.getD i 0) (rnds k w i v)
theorem rnd_len (k w : Int) (v : List Int) : (rnd k w v).length = 8 := rfl
theorem rnds_len (k w : List Int) {v : List Int} (h : v.length = 8) : ∀ i, (rnds k w i v).length = 8
 | 0 => h
 | i + 1 => rnd_len _ _ _
def adds (h v : List Int) : Nat -> List Int
 | 0 => h
 | i + 1 => (adds h v i).set i (addI ((adds h v i).getD i 0) (v.getD i 0))
theorem adds_len (h v : List Int) : ∀ i, (adds h v i).length = h.length
 | 0 => rfl
 | i + 1 => by simp [adds, adds_len h v i]
def mixI (k : List Int) (h : List Int) (b : Bs) : List Int := adds h (rnds k (sched b) 64 h) 8
theorem mixI_len (k : List Int) {h : List Int} (hh : h.length = 8) (b : Bs) : (mixI k h b).length = 8 := by rw [mixI, adds_len, hh]
def za9 (k : List Int) : Nat -> List Int -> Bs -> List Int
 | 0, h, _ => h
 | n + 1, h, b => if 64 <= b.length then za9 k n (mixI k h (b.take 64)) (b.drop 64) else h
end Go.Rp
namespace Go.Proofs.YtekbjlihciedjaaGreatDoor
open Go Go.Abs Go.Rp
variable {G : Nat -> Option AV}
theorem rot_does (x : Int) (k : Int) (n : Nat) (hn : n <= 31) (h1 : aint2 .and .u64 (IntKind.u64.wrap k) 31 = some (.int .u64 n)) (h2 : IntKind.u64.wrap (32 - (n : Int)) = ((32 - n : Nat) : Int)) (H : AHeap) :
  Does Tryz.prog G 266 [.int .u32 x, .int .i64 k] H fun r h => r = .int .u32 (rotI x n) /\ h = H := by
 refine zad Tryz.call266 Tryz.func266 rfl (by simp [Tryz.f266]) ?_
 simp [h1, o_shl, o_shr, o_subU, h2, o_or, rotI, -aint2, -za6]
theorem rot6 (x : Int) (H : AHeap) : Does Tryz.prog G 266 [.int .u32 x, .int .i64 (-6)] H fun r h => r = .int .u32 (rotI x 26) /\ h = H := rot_does x _ 26 (by decide) rfl rfl H
theorem rot7 (x : Int) (H : AHeap) : Does Tryz.prog G 266 [.int .u32 x, .int .i64 (-7)] H fun r h => r = .int .u32 (rotI x 25) /\ h = H := rot_does x _ 25 (by decide) rfl rfl H
theorem rot18 (x : Int) (H : AHeap) : Does Tryz.prog G 266 [.int .u32 x, .int .i64 (-18)] H fun r h => r = .int .u32 (rotI x 14) /\ h = H := rot_does x _ 14 (by decide) rfl rfl H
theorem rot17 (x : Int) (H : AHeap) : Does Tryz.prog G 266 [.int .u32 x, .int .i64 (-17)] H fun r h => r = .int .u32 (rotI x 15) /\ h = H := rot_does x _ 15 (by decide) rfl rfl H
theorem rot19 (x : Int) (H : AHeap) : Does Tryz.prog G 266 [.int .u32 x, .int .i64 (-19)] H fun r h => r = .int .u32 (rotI x 13) /\ h = H := rot_does x _ 13 (by decide) rfl rfl H
theorem rot11 (x : Int) (H : AHeap) : Does Tryz.prog G 266 [.int .u32 x, .int .i64 (-11)] H fun r h => r = .int .u32 (rotI x 21) /\ h = H := rot_does x _ 21 (by decide) rfl rfl H
theorem rot25 (x : Int) (H : AHeap) : Does Tryz.prog G 266 [.int .u32 x, .int .i64 (-25)] H fun r h => r = .int .u32 (rotI x 7) /\ h = H := rot_does x _ 7 (by decide) rfl rfl H
theorem rot2 (x : Int) (H : AHeap) : Does Tryz.prog G 266 [.int .u32 x, .int .i64 (-2)] H fun r h => r = .int .u32 (rotI x 30) /\ h = H := rot_does x _ 30 (by decide) rfl rfl H
theorem rot13 (x : Int) (H : AHeap) : Does Tryz.prog G 266 [.int .u32 x, .int .i64 (-13)] H fun r h => r = .int .u32 (rotI x 19) /\ h = H := rot_does x _ 19 (by decide) rfl rfl H
theorem rot22 (x : Int) (H : AHeap) : Does Tryz.prog G 266 [.int .u32 x, .int .i64 (-22)] H fun r h => r = .int .u32 (rotI x 10) /\ h = H := rot_does x _ 10 (by decide) rfl rfl H
theorem u32s_put {l : List Int} {i : Nat} (h : i < l.length) (x : Int) : List.take i (u32s l) ++ AV.int .u32 x :: List.drop (i + 1) (u32s l) = u32s (l.set i x) := by
 rw [<- u32s_set, List.set_eq_take_append_cons_drop, if_pos (by rw [za0]; exact h)]
theorem u32s_lt (n : Nat) : ∀ l : List Int, AV.allLt n (u32s l) = true
 | [] => rfl
 | a :: l => by
   have := u32s_lt n l
   simp only [u32s, List.map_cons, AV.allLt, AV.idLt, Bool.true_and] at this ⊢
   exact this
theorem u32s_get {l : List Int} {i : Nat} (h : i < (u32s l).length) : (u32s l)[i]'h = .int .u32 (l.getD i 0) := by
 have := u32s_at (l := l) (i := i) (by rw [za0] at h; exact h)
 rw [List.getElem?_eq_getElem h] at this
 exact Option.some.inj this
theorem strCs_at {b : Bs} {ts : List AV} {i : Nat} (h : i < b.length) : (strCs b ++ ts)[i]? = some (.int .u8 ((b.getD i 0).toNat : Int)) := by
 rw [List.getElem?_append_left (by rw [zac]; exact h)]
 simp [strCs, h]
theorem sched_does {b : Bs} {ts : List AV} {n : Nat} (hn : n = 64) (hb : 64 <= b.length) (H : AHeap) :
  Does Tryz.prog G 265 [.vsl (strCs b ++ ts) n] H fun r h => r = .agg (u32s (sched b)) /\ h = H := by
 subst hn
 refine Does.forgot (R := fun r h => r = .agg (u32s (sched b)) /\ ∀ j x, H.get j = some x -> h.get j = some x) ?_ (fun hw ha r H1 ⟨h1, h2⟩ => ⟨h2, by rw [h1, AV.idLt, u32s_lt], h1, rfl⟩)
 refine Does.wf Tryz.call265 fun hw _ => ?_
 refine zad Tryz.call265 Tryz.func265 rfl (by simp [Tryz.f265]) ?_
 simp
 refine zai (fun m T' H' => ∃ i, i + m = 16 /\ (∀ j x, H.get j = some x -> H'.get j = some x) /\ H.next + 2 <= H'.next /\ H'.get H.next = some (.cells (u32s (zeros 64))) /\ H'.get (H.next + 1) = some (.cells (u32s (words0 b i (zeros 64)))) /\
  T' 0 = .vsl (strCs b ++ ts) 64 /\ T' 2 = .ptr H.next 0 /\ T' 3 = .ptr (H.next + 1) 0 /\ T' 10 = .int .i64 i) 16 ?_ ?_
 · refine ⟨0, rfl, fun j x hj => ?_, by simp, ?_, ?_, ?_, ?_, ?_, ?_⟩
   · have := zaa hw hj
     have q1 : j ≠ H.next := by omega
     have q2 : j ≠ H.next + 1 := by omega
     simp [q1, q2, hj]
   · simp [u32s, zeros]
   · simp [u32s, zeros, words0]
   all_goals simp
 rintro m T H1 ⟨i, him, hk, hnx, hz, hg, t0, t2, t3, t10⟩ hw1 _
 by_cases hi : i < 16
 · have hii : (i : Int) < 16 := by omega
   have w1 : IntKind.i64.wrap (4 * (i : Int)) = ((4 * i : Nat) : Int) := by rw [IntWalk.i64_in _ (by omega)]; omega
   have w2 : IntKind.i64.wrap (((4 * i : Nat) : Int) + 1) = ((4 * i + 1 : Nat) : Int) := by rw [IntWalk.i64_in _ (by omega)]; omega
   have w3 : IntKind.i64.wrap (((4 * i : Nat) : Int) + 2) = ((4 * i + 2 : Nat) : Int) := by rw [IntWalk.i64_in _ (by omega)]; omega
   have w4 : IntKind.i64.wrap (((4 * i : Nat) : Int) + 3) = ((4 * i + 3 : Nat) : Int) := by rw [IntWalk.i64_in _ (by omega)]; omega
   have w5 : IntKind.i64.wrap ((i : Int) + 1) = ((i + 1 : Nat) : Int) := by rw [IntWalk.i64_in _ (by omega)]; omega
   have s1 := strCs_at (b := b) (ts := ts) (i := 4 * i) (by omega)
   have s2 := strCs_at (b := b) (ts := ts) (i := 4 * i + 1) (by omega)
   have s3 := strCs_at (b := b) (ts := ts) (i := 4 * i + 2) (by omega)
   have s4 := strCs_at (b := b) (ts := ts) (i := 4 * i + 3) (by omega)
   have l1 : (0 : Int) <= 4 * i /\ 4 * (i : Int) < 64 := by omega
   have l2 : (0 : Int) <= 4 * i + 1 /\ 4 * (i : Int) + 1 < 64 := by omega
   have l3 : (0 : Int) <= 4 * i + 2 /\ 4 * (i : Int) + 2 < 64 := by omega
   have l4 : (0 : Int) <= 4 * i + 3 /\ 4 * (i : Int) + 3 < 64 := by omega
   have n1 : (4 * (i : Int)).toNat = 4 * i := by omega
   have n2 : (4 * (i : Int) + 1).toNat = 4 * i + 1 := by omega
   have n3 : (4 * (i : Int) + 2).toNat = 4 * i + 2 := by omega
   have n4 : (4 * (i : Int) + 3).toNat = 4 * i + 3 := by omega
   simp only [Int.natCast_add, Int.natCast_mul, Int.cast_ofNat_Int] at w1 w2 w3 w4
   have h64 : i < 64 := by omega
   have h63 : i <= 63 := by omega
   have h64' : (i : Int) < 64 := by omega
   have wl : (words0 b i (zeros 64)).length = 64 := by rw [words0_len]; rfl
   have ul := za0 (words0 b i (zeros 64))
   rw [wl] at ul
   generalize hC : strCs b ++ ts = C at *
   simp [t0, t2, t3, t10, hi, hii]
   refine zam [(5, 0), (13, 0), (22, 0), (31, 0)] zag (by kernel_rfl) ?_
   intro es hes
   simp [t0, t2, t3, t10, w1, w2, w3, w4, s1, s2, s3, s4, l1, l2, l3, l4, n1, n2, n3, n4, h63, h64, h64', ul, hg, o_shl24, o_shl16, o_shl8, o_or, o_add64, o_mul64, -aint2, -za6]
   refine ⟨by subst hes; exact ⟨by kernel_rfl, by kernel_rfl⟩, by simp [rds, heapF], ?_⟩
   refine ⟨m - 1, by omega, i + 1, by omega, fun j x hj => ?_, hnx, hz, ?_, w5⟩
   · have := zaa hw hj
     have q2 : j ≠ H.next + 1 := by omega
     simp [q2, hk j x hj]
   · rw [u32s_put (by omega)]
     simp [words0, word0, byteI, cvI]
 · obtain rfl : i = 16 := by omega
   simp [t0, t2, t3, t10]
   obtain ⟨W0, hW0⟩ : ∃ W0, W0 = words0 b 16 (zeros 64) := ⟨_, rfl⟩
   have hWl : W0.length = 64 := by rw [hW0, words0_len]; rfl
   have hS : sched b = words1 48 W0 := by rw [hW0]; rfl
   rw [<- hW0] at hg
   clear hW0
   refine zai (fun m T' H' => ∃ i, i + m = 48 /\ (∀ j x, H.get j = some x -> H'.get j = some x) /\ H.next + 2 <= H'.next /\ H'.get H.next = some (.cells (u32s (zeros 64))) /\ H'.get (H.next + 1) = some (.cells (u32s (words1 i W0))) /\
    T' 2 = .ptr H.next 0 /\ T' 3 = .ptr (H.next + 1) 0 /\ T' 5 = .int .i64 (16 + i : Nat)) 48 ?_ ?_
   · exact ⟨0, rfl, hk, hnx, hz, hg, by simp [t2], by simp [t3], by simp⟩
   clear hw1 hk hnx hz hg t0 t2 t3 t10
   rintro m T H1 ⟨i, him, hk, hnx, hz, hg, t2, t3, t5⟩ hw1 _
   have w5 : IntKind.i64.wrap (((16 + i : Nat) : Int) + 1) = ((16 + (i + 1) : Nat) : Int) := by rw [IntWalk.i64_in _ (by omega)]; omega
   have wl : (words1 i W0).length = 64 := by rw [words1_len]; exact hWl
   by_cases hi : i < 48
   · have hii : ((16 + i : Nat) : Int) < 64 := by omega
     have m15 : IntKind.i64.wrap (((16 + i : Nat) : Int) - 15) = ((16 + i - 15 : Nat) : Int) := by rw [IntWalk.i64_in _ (by omega)]; omega
     have m2 : IntKind.i64.wrap (((16 + i : Nat) : Int) - 2) = ((16 + i - 2 : Nat) : Int) := by rw [IntWalk.i64_in _ (by omega)]; omega
     have m16 : IntKind.i64.wrap (((16 + i : Nat) : Int) - 16) = ((16 + i - 16 : Nat) : Int) := by rw [IntWalk.i64_in _ (by omega)]; omega
     have m7 : IntKind.i64.wrap (((16 + i : Nat) : Int) - 7) = ((16 + i - 7 : Nat) : Int) := by rw [IntWalk.i64_in _ (by omega)]; omega
     obtain ⟨W, hW⟩ : ∃ W, W = words1 i W0 := ⟨_, rfl⟩
     have hN : words1 (i + 1) W0 = W.set (16 + i) (word1 W (16 + i)) := by rw [hW]; rfl
     rw [<- hW] at hg wl
     obtain ⟨k, hk16⟩ : ∃ k, k = 16 + i := ⟨_, rfl⟩
     rw [<- hk16] at t5 m15 m2 m16 m7 hii hN
     obtain ⟨k15, e15⟩ : ∃ k15, k15 = k - 15 := ⟨_, rfl⟩
     obtain ⟨k2, e2⟩ : ∃ k2, k2 = k - 2 := ⟨_, rfl⟩
     obtain ⟨k16, e16⟩ : ∃ k16, k16 = k - 16 := ⟨_, rfl⟩
     obtain ⟨k7, e7⟩ : ∃ k7, k7 = k - 7 := ⟨_, rfl⟩
     rw [<- e15] at m15
     rw [<- e2] at m2
     rw [<- e16] at m16
     rw [<- e7] at m7
     have a15 := u32s_at (l := W) (i := k15) (by omega)
     have a2 := u32s_at (l := W) (i := k2) (by omega)
     have a16 := u32s_at (l := W) (i := k16) (by omega)
     have a7 := u32s_at (l := W) (i := k7) (by omega)
     have ul := za0 W
     rw [wl] at ul
     have b15 : k15 < 64 := by omega
     have b2 : k2 < 64 := by omega
     have b16 : k16 < 64 := by omega
     have b7 : k7 < 64 := by omega
     have bk : k < 64 := by omega
     have b15' : (k15 : Int) < 64 := by omega
     have b2' : (k2 : Int) < 64 := by omega
     have b16' : (k16 : Int) < 64 := by omega
     have b7' : (k7 : Int) < 64 := by omega
     have c15 : k15 <= 64 := by omega
     have c2 : k2 <= 64 := by omega
     have c16 : k16 <= 64 := by omega
     have c7 : k7 <= 64 := by omega
     have ck : k <= 63 := by omega
     have bk' : (k : Int) < 64 := by omega
     simp [t2, t3, t5, bk, bk']
     refine zam [(3, 0), (7, 0)] zag (by kernel_rfl) ?_
     intro es hes
     simp [t2, t3, t5, o_sub64, m15, m2, b15, b2, b15', b2', c15, c2, hg, ul, u32s_get, -aint2, -za6]
     refine ⟨by subst hes; exact ⟨by kernel_rfl, by kernel_rfl⟩, by simp [rds, heapF, hg, ul, u32s_get, b15, b2, c15, c2], ?_⟩
     refine zab (rot7 _ _) ?_
     rintro r h ⟨rfl, rfl⟩
     simp
     refine zab (rot18 _ _) ?_
     rintro r h ⟨rfl, rfl⟩
     simp [o_xor, o_shr3, -aint2, -za6]
     refine zab (rot17 _ _) ?_
     rintro r h ⟨rfl, rfl⟩
     simp
     refine zab (rot19 _ _) ?_
     rintro r h ⟨rfl, rfl⟩
     simp [o_xor, o_shr10, -aint2, -za6]
     refine zam [(4, 0), (10, 0)] zag (by kernel_rfl) ?_
     intro es hes
     simp [t2, t3, t5, o_sub64, o_add, m16, m7, b16, b7, b16', b7', bk, bk', c16, c7, ck, hg, ul, u32s_get, -aint2, -za6]
     refine ⟨by subst hes; exact ⟨by kernel_rfl, by kernel_rfl⟩, by simp [rds, heapF, hg, ul, u32s_get, b16, b7, c16, c7], ?_⟩
     have wk : IntKind.i64.wrap ((k : Int) + 1) = ((16 + (i + 1) : Nat) : Int) := by rw [IntWalk.i64_in _ (by omega)]; omega
     simp [t5, o_add64, wk, -aint2]
     refine ⟨m - 1, by omega, i + 1, by omega, fun j x hj => ?_, hnx, hz, ?_, t2, t3, by omega⟩
     · have := zaa hw hj
       have q2 : j ≠ H.next + 1 := by omega
       simp [q2, hk j x hj]
     · rw [u32s_put (by omega), hN]
       simp [word1, e15, e2, e16, e7]
   · obtain rfl : i = 48 := by omega
     have ul := za0 (words1 48 W0)
     rw [wl] at ul
     have tk : List.take 64 (u32s (words1 48 W0)) = u32s (words1 48 W0) := by rw [<- ul, List.take_length]
     have zl : (u32s (zeros 64)).length = 64 := by rw [za0]; rfl
     have sc : ∀ x, x ∈ u32s (words1 48 W0) -> x.scalar = true := fun x hx => List.all_eq_true.1 (u32s_sc _) x hx
     have dz : List.drop 64 (u32s (zeros 64)) = [] := List.drop_eq_nil_of_le (by rw [zl]; exact Nat.le_refl _)
     simp only [<- hS] at *
     simp [t2, t3, t5, hg, hz, ul, tk, zl, dz]
     rw [if_pos sc]
     simp [t2, tk, ul]
     intro j x hj
     have := zaa hw hj
     have q2 : j ≠ H.next := by omega
     simp [q2, hk j x hj]
def K32 : List Int := [1116352408, 1899447441, 3049323471, 3921009573, 961987163, 1508970993, 2453635748, 2870763221, 3624381080, 310598401, 607225278, 1426881987, 1925078388, 2162078206, 2614888103, 3248222580, 3835390401, 4022224774, 264347078, 604807628, 770255983, 1249150122, 1555081692, 1996064986, 2554220882, 2821834349, 2952996808, 3210313671, 3336571891, 3584528711, 113926993, 338241895, 666307205, 773529912, 1294757372, 1396182291, 1695183700, 1986661051, 2177026350, 2456956037, 2730485921, 2820302411, 3259730800, 3345764771, 3516065817, 3600352804, 4094571909, 275423344, 430227734, 506948616, 659060556, 883997877, 958139571, 1322822218, 1537002063, 1747873779, 1955562222, 2024104815, 2227730452, 2361852424, 2428436474, 2756734187, 3204031479, 3329325298]
theorem K32_len : K32.length = 64 := rfl
theorem rounds_does (H : AHeap) : Does Tryz.prog G 264 [] H fun r h => r = .agg (u32s K32) /\ h = H := by
 refine Does.forgot (R := fun r h => r = .agg (u32s K32) /\ ∀ j x, H.get j = some x -> h.get j = some x) ?_ (fun hw ha r H1 ⟨h1, h2⟩ => ⟨h2, by rw [h1, AV.idLt, u32s_lt], h1, rfl⟩)
 refine Does.wf Tryz.call264 fun hw _ => ?_
 refine zad Tryz.call264 Tryz.func264 rfl (by simp [Tryz.f264]) ?_
 simp
 refine ⟨rfl, fun j x hj => ?_⟩
 have := zaa hw hj
 have e : j ≠ H.next := by omega
 simp [e, hj]
theorem mix_does {hv : List Int} (hh : hv.length = 8) {b : Bs} {ts : List AV} {n : Nat} (hn : n = 64) (hb : 64 <= b.length) (H : AHeap) :
  Does Tryz.prog G 221 [.agg (u32s hv), .vsl (strCs b ++ ts) n] H fun r h => r = .agg (u32s (mixI K32 hv b)) /\ h = H := by
 obtain ⟨M, hM⟩ : ∃ M, M = mixI K32 hv b := ⟨_, rfl⟩
 rw [<- hM]
 refine Does.forgot (R := fun r h => r = .agg (u32s M) /\ ∀ j x, H.get j = some x -> h.get j = some x) ?_ (fun hw ha r H1 ⟨h1, h2⟩ => ⟨h2, by rw [h1, AV.idLt, u32s_lt], h1, rfl⟩)
 refine Does.wf Tryz.call221 fun hw _ => ?_
 refine zad Tryz.call221 Tryz.func221 rfl (by simp [Tryz.f221]) ?_
 have hul := za0 hv
 rw [hh] at hul
 have hsc : ∀ x, x ∈ u32s hv -> x.scalar = true := fun x hx => List.all_eq_true.1 (u32s_sc _) x hx
 simp [hul]
 have e01 : H.next ≠ H.next + 1 := by omega
 have tk8 : ∀ {l : List Int}, l.length = 8 -> List.take 8 (u32s l) = u32s l := fun {l} h => by
  have : (u32s l).length = 8 := by rw [za0, h]
  rw [<- this, List.take_length]
 have dk8 : ∀ {l : List Int}, l.length = 8 -> List.drop 8 (u32s l) = [] := fun {l} h => List.drop_eq_nil_of_le (by rw [za0, h]; exact Nat.le_refl _)
 have hk64 := za0 K32
 rw [K32_len] at hk64
 have hs64 := za0 (sched b)
 rw [sched_len] at hs64
 have ksc : ∀ x, x ∈ u32s K32 -> x.scalar = true := fun x hx => List.all_eq_true.1 (u32s_sc _) x hx
 have ssc : ∀ x, x ∈ u32s (sched b) -> x.scalar = true := fun x hx => List.all_eq_true.1 (u32s_sc _) x hx
 obtain ⟨K, hK⟩ : ∃ K, K = K32 := ⟨_, rfl⟩
 rw [<- hK] at hk64 ksc
 obtain ⟨S, hS⟩ : ∃ S, S = sched b := ⟨_, rfl⟩
 rw [<- hS] at hs64 ssc
 refine zam [(3, 0), (3, 1), (3, 3), (3, 8), (3, 9)] zag (by kernel_rfl) ?_
 intro es hes
 simp [zak, -zal]
 refine ⟨_, _, rounds_does _, Nat.le_refl _, ?_⟩
 rw [<- hK]
 refine ad_go (fun T' => T' 1 = .vsl (strCs b ++ ts) n /\ T' 2 = .ptr H.next 0 /\ T' 4 = .ptr (H.next + 1) 0 /\ T' 16 = .agg (u32s K)) (by simp) ?_
 rintro T1 ⟨a1, a2, a4, a16⟩
 simp [zak, -zal, a1, a2, a4, a16]
 refine ⟨_, _, sched_does hn hb _, Nat.le_refl _, ?_⟩
 rw [<- hS]
 refine ad_go (fun T' => T' 2 = .ptr H.next 0 /\ T' 4 = .ptr (H.next + 1) 0 /\ T' 16 = .agg (u32s K) /\ T' 18 = .agg (u32s S)) (by simp [a2, a4, a16]) ?_
 rintro T2 ⟨b2, b4, b16, b18⟩
 simp [zak, -zal, b2, b4, b16, b18, hul, hk64, hs64, e01, tk8 hh, dk8 hh]
 rw [if_pos ksc]
 simp [zak, -zal, b2, b4, b16, b18, hul, hk64, hs64, e01, tk8 hh, dk8 hh]
 rw [if_pos ssc]
 simp [zak, -zal, b2, b4, b16, b18, hul, hk64, hs64, e01, tk8 hh, dk8 hh]
 have e02 : H.next + 1 + 1 ≠ H.next := by omega
 have e03 : H.next ≠ H.next + 1 + 1 := by omega
 have e04 : H.next ≠ H.next + 1 + 1 + 1 := by omega
 have e05 : H.next ≠ H.next + 1 + 1 + 1 + 1 := by omega
 have e06 : H.next + 1 ≠ H.next + 1 + 1 + 1 := by omega
 have e07 : H.next + 1 ≠ H.next + 1 + 1 + 1 + 1 := by omega
 have e08 : H.next + 1 + 1 ≠ H.next + 1 + 1 + 1 + 1 := by omega
 have hsc' : (∀ x, x ∈ u32s hv -> x.scalar = true) = True := eq_true hsc
 simp [zak, -zal, b2, b4, b16, b18, hul, hk64, hs64, e01, e02, hsc', tk8 hh, dk8 hh]
 refine ⟨by subst hes; exact ⟨by kernel_rfl, by kernel_rfl⟩, by simp [rds, heapF, e03, e04, e05, hul, tk8 hh], ?_⟩
 obtain ⟨v0, hv0⟩ : ∃ v0, v0 = hv := ⟨_, rfl⟩
 refine zai (fun m T' H' => ∃ i, i + m = 64 /\ (∀ j x, H.get j = some x -> H'.get j = some x) /\ H.next + 5 <= H'.next /\ H'.get H.next = some (.cells (u32s hv)) /\ H'.get (H.next + 1) = some (.cells (u32s (zeros 8))) /\ H'.get (H.next + 1 + 1) = some (.cells (u32s K)) /\ H'.get (H.next + 1 + 1 + 1) = some (.cells (u32s S)) /\
  H'.get (H.next + 1 + 1 + 1 + 1) = some (.cells (u32s (rnds K S i hv))) /\ T' 2 = .ptr H.next 0 /\ T' 4 = .ptr (H.next + 1) 0 /\ T' 5 = .ptr (H.next + 1 + 1) 0 /\ T' 6 = .ptr (H.next + 1 + 1 + 1) 0 /\ T' 7 = .ptr (H.next + 1 + 1 + 1 + 1) 0 /\ T' 20 = .int .i64 i) 64 ?_ ?_
 · refine ⟨0, rfl, fun j x hj => ?_, by simp, ?_, ?_, ?_, ?_, ?_, ?_, ?_, ?_, ?_, ?_, ?_⟩
   · have := zaa hw hj
     have q1 : j ≠ H.next := by omega
     have q2 : j ≠ H.next + 1 := by omega
     have q3 : j ≠ H.next + 1 + 1 := by omega
     have q4 : j ≠ H.next + 1 + 1 + 1 := by omega
     have q5 : j ≠ H.next + 1 + 1 + 1 + 1 := by omega
     simp [q1, q2, q3, q4, q5, hj]
   · simp [e03, e04, e05]
   · simp [e06, e07, u32s, zeros]; try omega
   · simp [e08]; try omega
   · simp
   · simp [rnds]
   all_goals simp [b2, b4]
 clear b2 b4 b16 b18 a1 a2 a4 a16 e01 e02 e03 e04 e05 e06 e07 e08
 rintro m T H1 ⟨i, him, hk, hnx, g0, g1, g2, g3, g4, t2, t4, t5, t6, t7, t20⟩ hw1 _
 by_cases hi : i < 64
 · obtain ⟨V, hV⟩ : ∃ V, V = rnds K S i hv := ⟨_, rfl⟩
   have hvl : V.length = 8 := by rw [hV]; exact rnds_len _ _ hh _
   have hN : rnds K S (i + 1) hv = rnd (K.getD i 0) (S.getD i 0) V := by rw [hV]; rfl
   rw [<- hV] at g4
   have vl := za0 V
   rw [hvl] at vl
   have hii : (i : Int) < 64 := by omega
   have hi64 : i <= 64 := by omega
   have hi63 : i <= 63 := by omega
   have w5 : IntKind.i64.wrap ((i : Int) + 1) = ((i + 1 : Nat) : Int) := by rw [IntWalk.i64_in _ (by omega)]; omega
   simp [t20, hi, hii]
   refine zam [(1, 0), (3, 0)] zag (by kernel_rfl) ?_
   intro es hes
   simp [t7, g4, vl, u32s_get]
   refine ⟨by subst hes; exact ⟨by kernel_rfl, by kernel_rfl⟩, by simp [rds, heapF, g4, vl, u32s_get], ?_⟩
   refine zab (rot6 _ _) ?_
   rintro r h ⟨rfl, rfl⟩
   simp
   refine zab (rot11 _ _) ?_
   rintro r h ⟨rfl, rfl⟩
   simp [o_xor, -aint2, -za6]
   refine zab (rot25 _ _) ?_
   rintro r h ⟨rfl, rfl⟩
   simp [o_xor, -aint2, -za6]
   refine zam [(1, 0), (6, 0), (11, 0), (17, 0), (21, 0)] zag (by kernel_rfl) ?_
   intro es hes
   simp [t5, t6, t7, g2, g3, g4, vl, hk64, hs64, hi, hii, hi64, u32s_get, o_add, o_and, o_xor, o_not, -aint2, -za6, -aun]
   refine ⟨by subst hes; exact ⟨by kernel_rfl, by kernel_rfl⟩, by simp [rds, heapF, g2, g3, g4, vl, hk64, hs64, hi, hi64, u32s_get], ?_⟩
   refine zab (rot2 _ _) ?_
   rintro r h ⟨rfl, rfl⟩
   simp
   refine zab (rot13 _ _) ?_
   rintro r h ⟨rfl, rfl⟩
   simp [o_xor, -aint2, -za6]
   refine zab (rot22 _ _) ?_
   rintro r h ⟨rfl, rfl⟩
   simp [t7, g4, vl, u32s_get, o_add, o_and, o_xor, -aint2, -za6]
   simp [t20, o_add64, w5, -aint2]
   refine ⟨m - 1, by omega, i + 1, by omega, fun j x hj => ?_, hnx, by rw [if_neg (by omega)]; exact g0, g1, g2, g3, ?_, t2, t4, t5, t6, t7, by omega⟩
   · have := zaa hw hj
     have q2 : j ≠ H.next + 1 + 1 + 1 + 1 := by omega
     simp [q2, hk j x hj]
   · rw [hN]
     simp [rnd, u32s]; try omega
 · obtain rfl : i = 64 := by omega
   obtain ⟨V, hV⟩ : ∃ V, V = rnds K S 64 hv := ⟨_, rfl⟩
   have hvl : V.length = 8 := by rw [hV]; exact rnds_len _ _ hh _
   have hM : M = adds hv V 8 := by rw [hM, hV, hK, hS]; rfl
   rw [<- hV] at g4
   have vl := za0 V
   rw [hvl] at vl
   clear hV g2 g3
   simp [t20]
   refine zai (fun m T' H' => ∃ i, i + m = 8 /\ (∀ j x, H.get j = some x -> H'.get j = some x) /\ H'.get H.next = some (.cells (u32s (adds hv V i))) /\ H'.get (H.next + 1) = some (.cells (u32s (zeros 8))) /\
    H'.get (H.next + 1 + 1 + 1 + 1) = some (.cells (u32s V)) /\ T' 2 = .ptr H.next 0 /\ T' 4 = .ptr (H.next + 1) 0 /\ T' 7 = .ptr (H.next + 1 + 1 + 1 + 1) 0 /\ T' 104 = .int .i64 i) 8 ?_ ?_
   · exact ⟨0, rfl, hk, g0, g1, g4, by simp [t2], by simp [t4], by simp [t7], by simp⟩
   clear hk hnx g0 g1 g4 t2 t4 t5 t6 t7 t20 hw1
   rintro m T H1 ⟨i, him, hk, g0, g1, g4, t2, t4, t7, t104⟩ hw1 _
   obtain ⟨A, hA⟩ : ∃ A, A = adds hv V i := ⟨_, rfl⟩
   have hal : A.length = 8 := by rw [hA, adds_len]; exact hh
   have al := za0 A
   rw [hal] at al
   rw [<- hA] at g0
   by_cases hi : i < 8
   · have hN : adds hv V (i + 1) = A.set i (addI (A.getD i 0) (V.getD i 0)) := by rw [hA]; rfl
     have hii : (i : Int) < 8 := by omega
     have hi8 : i <= 8 := by omega
     have hi7 : i <= 7 := by omega
     have w5 : IntKind.i64.wrap ((i : Int) + 1) = ((i + 1 : Nat) : Int) := by rw [IntWalk.i64_in _ (by omega)]; omega
     have e4 : H.next ≠ H.next + 1 + 1 + 1 + 1 := by omega
     simp [t104, hi, hii]
     refine zam [(2, 0), (5, 0)] zag (by kernel_rfl) ?_
     intro es hes
     simp [t2, t7, g0, g4, vl, al, hi, hii, hi8, hi7, u32s_get, o_add, -aint2, -za6]
     refine ⟨by subst hes; exact ⟨by kernel_rfl, by kernel_rfl⟩, by simp [rds, heapF, g0, g4, vl, al, hi, hi8, u32s_get], ?_⟩
     simp [t104, o_add64, w5, -aint2]
     refine ⟨m - 1, by omega, i + 1, by omega, fun j x hj => ?_, ?_, g1, ?_, t2, t4, t7, by omega⟩
     · have := zaa hw hj
       have q2 : j ≠ H.next := by omega
       simp [q2, hk j x hj]
     · rw [u32s_put (by omega), hN]
       simp
     · rw [if_neg (by omega)]; exact g4
   · obtain rfl : i = 8 := by omega
     have sc : (∀ x, x ∈ u32s A -> x.scalar = true) = True := eq_true fun x hx => List.all_eq_true.1 (u32s_sc _) x hx
     have zl : (u32s (zeros 8)).length = 8 := by rw [za0]; rfl
     have dz : List.drop 8 (u32s (zeros 8)) = [] := List.drop_eq_nil_of_le (by rw [zl]; exact Nat.le_refl _)
     rw [<- hA] at hM
     simp [t2, t4, t104, g0, g1, al, sc, zl, dz, tk8 hal]
     exact ⟨by rw [hM], fun j x hj => by
      have := zaa hw hj
      have q2 : j ≠ H.next + 1 := by omega
      simp [q2, hk j x hj]⟩
def restI : Nat -> Bs -> Bs
 | 0, b => b
 | n + 1, b => if 64 <= b.length then restI n (b.drop 64) else b
theorem restI_fuel : ∀ (n m : Nat) (b : Bs), b.length < n -> b.length < m -> restI n b = restI m b
 | 0, _, _, h, _ => by omega
 | _, 0, _, _, h => by omega
 | n + 1, m + 1, b, h1, h2 => by
   simp only [restI]
   split
   · exact restI_fuel n m _ (by rw [List.length_drop]; omega) (by rw [List.length_drop]; omega)
   · rfl
theorem blocksI_fuel (k : List Int) : ∀ (n m : Nat) (h : List Int) (b : Bs), b.length < n -> b.length < m -> za9 k n h b = za9 k m h b
 | 0, _, _, _, h, _ => by omega
 | _, 0, _, _, _, h => by omega
 | n + 1, m + 1, h, b, h1, h2 => by
   simp only [za9]
   split
   · exact blocksI_fuel k n m _ _ (by rw [List.length_drop]; omega) (by rw [List.length_drop]; omega)
   · rfl
theorem strCs_app (a b : Bs) : strCs (a ++ b) = strCs a ++ strCs b := by simp [strCs]
theorem strCs_drop (b : Bs) (ts : List AV) (n : Nat) (h : n <= b.length) : List.drop n (strCs b ++ ts) = strCs (b.drop n) ++ ts := by
 rw [List.drop_append_of_le_length (by rw [zac]; exact h)]
 simp [strCs, List.map_drop]
theorem blocks_does {hv : List Int} (hh : hv.length = 8) {v : AV} {b : Bs} (hb : BtA v b) (hl : b.length <= 1000000000) (H : AHeap) :
  Does Tryz.prog G 170 [.agg (u32s hv), v] H fun r h => (∃ v', r = .tuple [.agg (u32s (za9 K32 (b.length + 1) hv b)), v'] /\ BtA v' (restI (b.length + 1) b)) /\ H.next <= h.next /\ ∀ j x, H.get j = some x -> h.get j = some x := by
 obtain ⟨M, hM⟩ : ∃ M, M = za9 K32 (b.length + 1) hv b := ⟨_, rfl⟩
 obtain ⟨L, hL⟩ : ∃ L, L = restI (b.length + 1) b := ⟨_, rfl⟩
 rw [<- hM, <- hL]
 refine Does.wf Tryz.call170 fun hw _ => ?_
 refine zad Tryz.call170 Tryz.func170 rfl (by simp [Tryz.f170]) ?_
 have hul := za0 hv
 rw [hh] at hul
 simp [hul]
 refine zai (fun m T' H' => ∃ b' h' w, b'.length = m /\ b'.length <= b.length /\ h'.length = 8 /\ M = za9 K32 (b'.length + 1) h' b' /\ L = restI (b'.length + 1) b' /\ BtA w b' /\ H.next <= H'.next /\ (∀ j x, H.get j = some x -> H'.get j = some x) /\ H'.get H.next = some (.cells (u32s h')) /\ H'.get (H.next + 1) = some (.cells (u32s (zeros 8))) /\
  T' 1 = w /\ T' 2 = .ptr H.next 0 /\ T' 4 = .ptr (H.next + 1) 0) b.length ?_ ?_
 · refine ⟨b, hv, v, rfl, Nat.le_refl _, hh, hM, hL, hb, by simp; omega, fun j x hj => ?_, ?_, ?_, ?_, ?_, ?_⟩
   · have := zaa hw hj
     have q1 : j ≠ H.next := by omega
     have q2 : j ≠ H.next + 1 := by omega
     simp [q1, q2, hj]
   · have : H.next ≠ H.next + 1 := by omega
     simp [this]
   · simp [u32s, zeros]
   all_goals simp
 rintro m T H1 ⟨b', h', w, rfl, hbl, hh', hM', hL', hw', hnx, hk, g0, g1, t1, t2, t4⟩ hw1 _
 have hwl : alen Tryz.prog 22 w = some (.int .i64 b'.length) := by
  rcases hw' with ⟨rfl, e⟩ | ⟨ts, rfl⟩
  · simp [alen, e]
  · simp [alen]
 have h8 := za0 h'
 rw [hh'] at h8
 have tk : List.take 8 (u32s h') = u32s h' := by rw [<- h8, List.take_length]
 by_cases h64 : 64 <= b'.length
 · have h64' : (64 : Int) <= b'.length := by omega
   obtain ⟨ts, rfl⟩ : ∃ ts, w = .vsl (strCs b' ++ ts) b'.length := by
    rcases hw' with ⟨_, rfl⟩ | h
    · simp at h64
    · exact h
   have c1 : 0 < b'.length := by omega
   simp [t1, t2, t4, hwl, h64, h64', -alen]
   refine zam [(0, 0)] zag (by kernel_rfl) ?_
   intro es hes
   simp [zak, -zal, t1, t2, g0, h8, tk, h64, h64', c1]
   have eC : strCs b' ++ ts = strCs (b'.take 64) ++ (strCs (b'.drop 64) ++ ts) := by
    rw [<- List.append_assoc, <- strCs_app, List.take_append_drop]
   have hmx := mix_does (G := G) hh' (b := b'.take 64) (ts := strCs (b'.drop 64) ++ ts) (n := 64) rfl (by rw [List.length_take]; omega) H1
   rw [<- eC] at hmx
   refine ⟨_, _, hmx, Nat.le_refl _, ?_⟩
   obtain ⟨X, hX⟩ : ∃ X, X = mixI K32 h' (b'.take 64) := ⟨_, rfl⟩
   rw [<- hX]
   have hM2 : M = za9 K32 ((b'.drop 64).length + 1) X (b'.drop 64) := by
    rw [hM', za9, if_pos h64, <- hX]
    exact blocksI_fuel _ _ _ _ _ (by rw [List.length_drop]; omega) (by omega)
   have hL2 : L = restI ((b'.drop 64).length + 1) (b'.drop 64) := by
    rw [hL', restI, if_pos h64]
    exact restI_fuel _ _ _ (by rw [List.length_drop]; omega) (by omega)
   have hXl : X.length = 8 := by rw [hX]; exact mixI_len _ hh' _
   have hx8 := za0 X
   rw [hXl] at hx8
   have sc : (∀ x, x ∈ u32s X -> x.scalar = true) = True := eq_true fun x hx => List.all_eq_true.1 (u32s_sc _) x hx
   have dk : List.drop 8 (u32s h') = [] := List.drop_eq_nil_of_le (by rw [h8]; exact Nat.le_refl _)
   refine ad_go (fun T' => T' 1 = .vsl (strCs b' ++ ts) b'.length /\ T' 2 = .ptr H.next 0 /\ T' 4 = .ptr (H.next + 1) 0 /\ T' 12 = .agg (u32s X)) (by simp [t1, t2, t4]) ?_
   rintro T1 ⟨a1, a2, a4, a12⟩
   simp [zak, -zal, a1, a2, a4, a12, g0, h8, hx8, sc, dk]
   refine ⟨by subst hes; exact ⟨by kernel_rfl, by kernel_rfl⟩, by simp [rds, heapF, g0, h8, tk, t2], ?_⟩
   have kp : ∀ j x, H.get j = some x -> (if j = H.next then some (.cells (u32s X)) else H1.get j) = some x := fun j x hj => by
    have := zaa hw hj
    have q : j ≠ H.next := by omega
    simp [q, hk j x hj]
   by_cases hlt : 64 < b'.length
   · simp [h64, h64', hlt]
     refine ⟨(b'.drop 64).length, by rw [List.length_drop]; omega, b'.drop 64, rfl, by rw [List.length_drop]; omega, X, hXl, hM2, hL2, _, .inr ⟨ts, ?_⟩, hnx, kp, rfl, g1, rfl, a2, a4⟩
     rw [strCs_drop _ _ _ h64, List.length_drop]
   · have e64 : b'.length = 64 := by omega
     simp [a1, a2, a4, e64]
     refine ⟨(b'.drop 64).length, by rw [List.length_drop]; omega, b'.drop 64, rfl, by rw [List.length_drop]; omega, X, hXl, hM2, hL2, _, .inr ⟨[], ?_⟩, hnx, kp, rfl, g1, rfl⟩
     have : b'.drop 64 = [] := List.drop_eq_nil_of_le (by omega)
     rw [this]; rfl
 · have h64' : ¬ (64 : Int) <= b'.length := by omega
   have sc : (∀ x, x ∈ u32s h' -> x.scalar = true) = True := eq_true fun x hx => List.all_eq_true.1 (u32s_sc _) x hx
   have zl : (u32s (zeros 8)).length = 8 := by rw [za0]; rfl
   have dz : List.drop 8 (u32s (zeros 8)) = [] := List.drop_eq_nil_of_le (by rw [zl]; exact Nat.le_refl _)
   simp [t1, t2, t4, hwl, h64, h64', g0, g1, h8, tk, sc, zl, dz, hw'.cells, -alen]
   refine ⟨⟨w, ⟨?_, rfl⟩, ?_⟩, hnx, fun j x hj => ?_⟩
   · rw [hM', za9, if_neg h64]
   · rw [hL', restI, if_neg h64]; exact hw'
   · have := zaa hw hj
     have q : j ≠ H.next + 1 := by omega
     simp [q, hk j x hj]
theorem elemB : ElemOk Tryz.prog 22 22 5 1 1 := ⟨by simp, ⟨.slice 5, by simp, rfl⟩, by simp⟩
def ByF (H : AHeap) (u : AV) (x : Bs) (b : Nat -> Prop) : Prop := BtA u x \/ Gr H 1 x.length (strCs x) u b
theorem ByF.len {H : AHeap} {u : AV} {x : Bs} {b : Nat -> Prop} (h : ByF H u x b) : alen Tryz.prog 22 u = some (.int .i64 x.length) := by
 rcases h with h | h
 · rcases h with ⟨rfl, rfl⟩ | ⟨ts, rfl⟩ <;> simp [alen]
 · exact h.alen (e := 5) (by simp)
theorem ByF.sc {H : AHeap} {u : AV} {x : Bs} {b : Nat -> Prop} (h : ByF H u x b) : u.scalar = true := by
 rcases h with h | h
 · exact h.sc
 · exact h.sc
theorem ByF.cells {H : AHeap} {u : AV} {x : Bs} {b : Nat -> Prop} (h : ByF H u x b) : u.cells = [u] := by
 rcases h with h | h
 · exact h.cells
 · exact h.cells
theorem app_bytes {H : AHeap} {l x : Bs} {w u : AV} {b b2 : Nat -> Prop} (h : Gr H 1 l.length (strCs l) w b) (hu : ByF H u x b2) (h1 : l.length <= 1000000000) (h2 : x.length <= 1000000000) {nx : Nat} (hnx : nx = H.next) :
  ∃ v' eff, zao Tryz.prog 22 22 H.get nx w u = some (v', eff) /\ Gr (H.eff eff) 1 (l ++ x).length (strCs (l ++ x)) v' (fun j => b j \/ j = H.next) /\ (∀ j, ¬ b j -> j ≠ H.next -> (H.eff eff).get j = H.get j) /\ H.next <= (H.eff eff).next := by
 subst hnx
 by_cases h0 : x = []
 · subst h0
   have hf : (u = .nilsl \/ (∃ ts, u = .vsl ts 0) \/ ∃ p o cap op pre junk, u = .sl p o 1 0 cap op /\ H.get p = some (.cells (pre ++ ([] ++ junk))) /\ pre.length = o) := by
    rcases hu with (⟨rfl, _⟩ | ⟨ts, rfl⟩) | (⟨_, _, rfl⟩ | ⟨p, o, cap, op, pre, junk, rfl, _, a3, a4, _⟩)
    · exact .inl rfl
    · exact .inr (.inl ⟨_, rfl⟩)
    · exact .inl rfl
    · exact .inr (.inr ⟨p, o, cap, op, pre, junk, rfl, a3, a4⟩)
   rcases h with ⟨a1, a2, rfl⟩ | ⟨p, o, cap, op, pre, junk, rfl, a2, a3, a4, a5, a6, a7⟩
   · refine ⟨.nilsl, .same, ?_, .inl (by simp [a1, a2]), fun j _ _ => rfl, Nat.le_refl _⟩
     rcases hf with rfl | ⟨ts, rfl⟩ | ⟨p, o, cap, op, pre, junk, rfl, a3, a4⟩
     · simp [zao, zaj, zar]
     · simp [zao, zaj, zar]
     · have : o <= pre.length + junk.length := by omega
       simp [zao, zaj, zar, a3, this]
   · have hs : AHeap.set H p (.cells (pre ++ (strCs l ++ junk))) = H := set_self a3
     refine ⟨.sl p o 1 l.length cap op, .put p (.cells (pre ++ (strCs l ++ junk))), ?_, ?_, fun j _ _ => by simp only [AHeap.eff, hs], by simp [AHeap.eff]⟩
     · rcases hf with rfl | ⟨ts, rfl⟩ | ⟨p', o', cap', op', pre', junk', rfl, a3', a4'⟩
       · simp [zao, zaj, zar, splice_nil, a3, a7, zac] <;> omega
       · simp [zao, zaj, zar, splice_nil, a3, a7, zac] <;> omega
       · have : o' <= pre'.length + junk'.length := by omega
         simp [zao, zaj, zar, splice_nil, a3, a3', this, a7, zac] <;> omega
     · simp only [AHeap.eff, hs, List.append_nil]
       exact .inr ⟨p, o, cap, op, pre, junk, rfl, .inl a2, a3, a4, a5, a6, a7⟩
 · have hp : 0 < x.length := List.length_pos_iff.2 h0
   have hn : zar u = some x.length /\ zaj H.get 1 x.length u = some (strCs x) /\ ∀ k i, u ≠ .int k i := by
    rcases hu with (⟨rfl, e⟩ | ⟨ts, rfl⟩) | (⟨a1, _, rfl⟩ | ⟨p, o, cap, op, pre, junk, rfl, _, a3, a4, a5, a6, a7⟩)
    · exact absurd e h0
    · have e1 : List.take x.length (strCs x ++ ts) = strCs x := List.take_left' (zac x)
      simp [zar, zaj, e1, zac]
    · omega
    · have e1 : List.take x.length (strCs x ++ junk) = strCs x := List.take_left' (zac x)
      have e2 : List.drop o (pre ++ (strCs x ++ junk)) = strCs x ++ junk := List.drop_left' a4
      simp [zar, zaj, a3, e1, e2, zac]
      omega
   have := h.app elemB (m := x.length) (x := u) (news := strCs x) hn.2.2 hn.1 hn.2.1 (za7 x) (by rw [zac]; omega) hp (by omega) (by omega) (by omega) (nx := H.next) rfl
   rw [<- strCs_app, <- List.length_append] at this
   exact this
def H0s : List Int := [1779033703, 3144134277, 1013904242, 2773480762, 1359893119, 2600822924, 528734635, 1541459225]
def HsAt (H : AHeap) (i : Nat) (hv : List Int) (left : Bs) (n : Nat) (b : Nat -> Prop) : Prop := ∃ u, H.get i = some (.cells (u32s hv ++ [u, .int .u64 n])) /\ ByF H u left (fun j => b j /\ j ≠ i)
theorem shaNew_does (H : AHeap) : Does Tryz.prog G 115 [] H fun r h => r = .ptr H.next 0 /\ h = H.push (.cells (u32s H0s ++ [.nilsl, .int .u64 0])) := by
 refine zad Tryz.call115 Tryz.func115 rfl (by simp [Tryz.f115]) ?_
 simp [u32s, H0s]
theorem blocksI_len (k : List Int) : ∀ (n : Nat) (h : List Int) (b : Bs), h.length = 8 -> (za9 k n h b).length = 8
 | 0, h, b, hh => hh
 | n + 1, h, b, hh => by
   simp only [za9]
   split
   · exact blocksI_len k n _ _ (mixI_len _ hh _)
   · exact hh
theorem restI_len : ∀ (n : Nat) (b : Bs), (restI n b).length <= b.length
 | 0, b => Nat.le_refl _
 | n + 1, b => by
   simp only [restI]
   split
   · have := restI_len n (b.drop 64)
     rw [List.length_drop] at this
     omega
   · exact Nat.le_refl _
theorem blocks_live {H0 H : AHeap} (hw : H0.Wf) {B : Nat} (hBn : H0.next <= B) {hv : List Int} (hh : hv.length = 8) {w : AV} {b : Bs} (hg : Gr H 1 b.length (strCs b) w (fun j => B <= j)) (hl : b.length <= 1000000000) :
  Does Tryz.prog G 170 [.agg (u32s hv), w] H fun r h => (∃ v', r = .tuple [.agg (u32s (za9 K32 (b.length + 1) hv b)), v'] /\ BtA v' (restI (b.length + 1) b)) /\ H.next <= h.next /\ (∀ j x, H0.get j = some x -> H.get j = some x -> h.get j = some x) /\ ∀ j c, j < B -> (∀ p cs, AV.frzs p cs c = c) -> H.get j = some (.cells c) -> h.get j = some (.cells c) := by
 rcases hg with ⟨h1, h2, rfl⟩ | ⟨p, o, cap, op, pre, junk, rfl, h2, h3, h4, h5, h6, h7⟩
 · obtain rfl := List.length_eq_zero_iff.1 h1
   refine (blocks_does hh .nil (by simp) H).mono ?_
   rintro r h ⟨g1, g0, g2⟩
   exact ⟨g1, g0, fun j x _ hj => g2 j x hj, fun j c _ _ hj => g2 j _ hj⟩
 · refine Does.lend h3 ?_
   have e : [AV.agg (u32s hv), AV.sl p o 1 b.length cap op].map (AV.frz p (pre ++ (strCs b ++ junk))) = [.agg (u32s hv), .vsl (strCs b) b.length] := by
    have e1 : AV.frzs p (pre ++ (strCs b ++ junk)) (u32s hv) = u32s hv := AV.frzs_lt (n := 0) (Nat.zero_le _) _ (u32s_lt 0 hv)
    simp only [List.map_cons, List.map_nil, AV.frz, e1, if_true, List.drop_left' h4, List.take_left' h5]
   rw [e]
   refine (blocks_does hh (.inr ⟨[], by rw [List.append_nil]⟩) hl _).mono ?_
   rintro r h ⟨g1, g0, g2⟩
   refine ⟨g1, by simpa [AHeap.frz] using g0, fun j x h0 hj => g2 j x (frz_old1 hw (by omega) h0 hj), fun j c hj hc hx => g2 j _ ?_⟩
   rw [frz_get hx (by omega), hc]
theorem shaAdd_does {H : AHeap} {i : Nat} {hv : List Int} (hh : hv.length = 8) (hi : H.get i = some (.cells (u32s hv ++ [.nilsl, .int .u64 0]))) {v : AV} {b : Bs} (hb : BtA v b) (hl : b.length <= 100000000) :
  Does Tryz.prog G 116 [.ptr i 0, v] H fun r h => r = .tuple [] /\ HsAt h i (za9 K32 (b.length + 1) hv b) (restI (b.length + 1) b) b.length (fun j => H.next <= j) /\ ∀ j x, j ≠ i -> H.get j = some x -> h.get j = some x := by
 refine Does.wf Tryz.call116 fun hw _ => ?_
 refine zad Tryz.call116 Tryz.func116 rfl (by simp [Tryz.f116]) ?_
 obtain ⟨M, hM⟩ : ∃ M, M = za9 K32 (b.length + 1) hv b := ⟨_, rfl⟩
 obtain ⟨L, hL⟩ : ∃ L, L = restI (b.length + 1) b := ⟨_, rfl⟩
 rw [<- hM, <- hL]
 have hMl : M.length = 8 := by rw [hM]; exact blocksI_len _ _ _ _ hh
 have hLl : L.length <= b.length := by rw [hL]; exact restI_len _ _
 have hin := zaa hw hi
 obtain ⟨w0, w1, w2, w3, w4, w5, w6, w7, hv8⟩ : ∃ w0 w1 w2 w3 w4 w5 w6 w7, hv = [w0, w1, w2, w3, w4, w5, w6, w7] := by
  match hv, hh with
  | [a, b, c, d, e, f, g, h], _ => exact ⟨a, b, c, d, e, f, g, h, rfl⟩
 have hi' := hi
 rw [hv8] at hi
 simp only [u32s, List.map_cons, List.map_nil, List.cons_append, List.nil_append] at hi
 have q1 : i ≠ H.next := by omega
 obtain ⟨va, ea, fa1, fa2, fa3, fa4⟩ := app_bytes (H := H.push (.cells [])) (l := []) (x := []) (w := .sl H.next 0 1 0 0 false) (u := .nilsl) (b := fun j => H.next <= j) (b2 := fun _ => False) (.inr ⟨H.next, 0, 0, false, [], [], rfl, Nat.le_refl _, by simp [strCs], rfl, rfl, rfl, Nat.le_refl _⟩) (.inl .nil) (by simp) (by simp) (nx := H.next + 1) rfl
 have fa2 := fa2.mono (b' := fun j => H.next <= j) fun j hj => hj.elim (fun h => h) fun h => by rw [h]; simp
 obtain ⟨vb, eb, fb1, fb2, fb3, fb4⟩ := app_bytes (x := b) fa2 (.inl hb) (b2 := fun _ => False) (by simp) (by omega) (nx := _) rfl
 have fb2 := fb2.mono (b' := fun j => H.next <= j) fun j hj => hj.elim (fun h => h) fun h => by rw [h]; simp at fa4; omega
 simp [hi, q1, -zao]
 rw [fa1]
 simp [-zao]
 rw [fb1]
 simp
 have old : ∀ j x, H.get j = some x -> (((H.push (.cells [])).eff ea).eff eb).get j = some x := fun j x hj => by
  have := zaa hw hj
  have p1 : j ≠ H.next := by omega
  simp only [AHeap.next_push] at fa4 fa3
  rw [fb3 j (by omega) (by omega), fa3 j (by omega) (by omega)]
  simp [p1, hj]
 have hn2 : H.next <= (((H.push (.cells [])).eff ea).eff eb).next := by
  simp only [AHeap.next_push] at fa4
  omega
 generalize ((H.push (.cells [])).eff ea).eff eb = H2 at *
 have gi := old _ _ hi
 have hbl := (show ByF H v b (fun _ => False) from .inl hb).len
 have wl : IntKind.u64.wrap (b.length : Int) = b.length := IntWalk.u64_in _ (by omega)
 simp only [List.nil_append] at fb2
 simp [gi, hbl, wl, -alen]
 have hB := blocks_live (G := G) (H0 := H) (H := H2.set i (.cells [.int .u32 w0, .int .u32 w1, .int .u32 w2, .int .u32 w3, .int .u32 w4, .int .u32 w5, .int .u32 w6, .int .u32 w7, .nilsl, .int .u64 b.length])) hw (Nat.le_refl _) hh (w := vb) (b := b) (fb2.keep fun j x hj hx => by
  have : j ≠ i := by omega
  simp [this, hx]) (by omega)
 rw [<- hM, <- hL, hv8] at hB
 simp only [u32s, List.map_cons, List.map_nil] at hB
 refine zae hB ?_
 rintro r h ⟨⟨v', rfl, hv'⟩, hk0, hk1, hk2⟩ hw2 _
 have gi2 := hk2 i _ hin (fun p cs => rfl) (by simp; rfl)
 obtain ⟨m0, m1, m2, m3, m4, m5, m6, m7, hM8⟩ : ∃ w0 w1 w2 w3 w4 w5 w6 w7, M = [w0, w1, w2, w3, w4, w5, w6, w7] := by
  match M, hMl with
  | [a, b, c, d, e, f, g, h], _ => exact ⟨a, b, c, d, e, f, g, h, rfl⟩
 clear hB
 subst hM8
 have hin3 := zaa hw2 gi2
 have i3 : i ≠ h.next := by omega
 obtain ⟨vc, ec, fc1, fc2, fc3, fc4⟩ := app_bytes (H := (h.set i (.cells [.int .u32 m0, .int .u32 m1, .int .u32 m2, .int .u32 m3, .int .u32 m4, .int .u32 m5, .int .u32 m6, .int .u32 m7, .nilsl, .int .u64 b.length])).push (.cells [])) (l := []) (x := L) (w := .sl h.next 0 1 0 0 false) (u := v') (b := fun j => h.next <= j) (b2 := fun _ => False) (.inr ⟨h.next, 0, 0, false, [], [], rfl, Nat.le_refl _, by simp [strCs], rfl, rfl, rfl, Nat.le_refl _⟩) (.inl hv') (by simp) (by omega) (nx := h.next + 1) rfl
 have fc2 := fc2.mono (b' := fun j => h.next <= j) fun j hj => hj.elim (fun h => h) fun h => by rw [h]; simp
 simp only [List.nil_append, AHeap.next_push, AHeap.next_set] at fc2 fc3 fc4
 have vcc := fc2.cells
 have vcs := fc2.sc
 simp [gi2, -zao]
 rw [fc1]
 simp
 have hHh : H.next <= h.next := by simp only [AHeap.next_set] at hk0; omega
 have old3 : ∀ j x, j ≠ i -> j < h.next -> h.get j = some x -> (((h.set i (.cells [.int .u32 m0, .int .u32 m1, .int .u32 m2, .int .u32 m3, .int .u32 m4, .int .u32 m5, .int .u32 m6, .int .u32 m7, .nilsl, .int .u64 b.length])).push (.cells [])).eff ec).get j = some x := fun j x ji hjn hj => by
  have p1 : j ≠ h.next := by omega
  rw [fc3 j (by omega) (by omega)]
  simp [p1, ji, hj]
 have gi3 : (((h.set i (.cells [.int .u32 m0, .int .u32 m1, .int .u32 m2, .int .u32 m3, .int .u32 m4, .int .u32 m5, .int .u32 m6, .int .u32 m7, .nilsl, .int .u64 b.length])).push (.cells [])).eff ec).get i = some (.cells [.int .u32 m0, .int .u32 m1, .int .u32 m2, .int .u32 m3, .int .u32 m4, .int .u32 m5, .int .u32 m6, .int .u32 m7, .nilsl, .int .u64 b.length]) := by
  rw [fc3 i (by omega) (by omega)]
  simp [i3]
 generalize ((h.set i (.cells [.int .u32 m0, .int .u32 m1, .int .u32 m2, .int .u32 m3, .int .u32 m4, .int .u32 m5, .int .u32 m6, .int .u32 m7, .nilsl, .int .u64 b.length])).push (.cells [])).eff ec = H3 at *
 simp [gi3, vcc, vcs]
 refine ⟨⟨vc, by simp [u32s], .inr ((fc2.keep fun j x hj hx => ?_).mono fun j hj => ⟨by omega, by omega⟩)⟩, fun j x hji hj => ?_⟩
 · have : j ≠ i := by omega
   simp [this, hx]
 · have := zaa hw hj
   rw [if_neg hji]
   exact old3 j x hji (by omega) (hk1 j x hj (by simp [hji, old j x hj]))
def padZ (n : Nat) : Nat := (120 - n % 64) % 64
def padI (t : Bs) : Bs := t ++ List.replicate (padZ t.length) 0
theorem padI_done {t : Bs} (h : t.length % 64 = 56) : padI t = t := by simp [padI, padZ, h]
theorem padI_more {t : Bs} (h : ¬ t.length % 64 = 56) : padI (t ++ [0]) = padI t /\ padZ (t ++ [0]).length + 1 = padZ t.length := by
 have e : padZ (t ++ [0]).length + 1 = padZ t.length := by
  simp only [padZ, List.length_append, List.length_singleton]
  omega
 refine ⟨?_, e⟩
 simp only [padI]
 rw [<- e, List.replicate_succ, List.append_assoc]
 rfl
theorem padZ_lt (n : Nat) : padZ n < 64 := Nat.mod_lt _ (by decide)
def byteX (n : Nat) (s : Nat) : Int := IntKind.u8.wrap ((IntKind.u64.wrap ((n : Int) * 8)).fdiv (2 ^ (min s 64)))
def byteAt (n s : Nat) : UInt8 := UInt8.ofNat (byteX n s).toNat
theorem byteAt_eq (n s : Nat) : ((byteAt n s).toNat : Int) = byteX n s := by
 have h : 0 <= byteX n s /\ byteX n s < 256 := by
  unfold byteX
  rw [IntKind.wrap_u8]
  omega
 unfold byteAt
 rw [UInt8.toNat_ofNat']
 omega
def lenR (n : Nat) : Nat -> Bs
 | 0 => []
 | k + 1 => byteAt n (8 * k) :: lenR n k
theorem lenR_len (n : Nat) : ∀ k, (lenR n k).length = k
 | 0 => rfl
 | k + 1 => by simp [lenR, lenR_len n k]
def sumB (left : Bs) (n : Nat) : Bs := padI (left ++ [0x80]) ++ lenR n 8
def u8s (l : List Int) : List AV := l.map (.int .u8 ·)
theorem u8s_len (l : List Int) : (u8s l).length = l.length := by simp [u8s]
theorem u8s_put {l : List Int} {i : Nat} (h : i < l.length) (x : Int) : List.take i (u8s l) ++ AV.int .u8 x :: List.drop (i + 1) (u8s l) = u8s (l.set i x) := by
 have : u8s (l.set i x) = (u8s l).set i (.int .u8 x) := by simp [u8s, List.map_set]
 rw [this, List.set_eq_take_append_cons_drop, if_pos (by rw [u8s_len]; exact h)]
theorem u8s_lt (n : Nat) : ∀ l : List Int, AV.allLt n (u8s l) = true
 | [] => rfl
 | a :: l => by
   have := u8s_lt n l
   simp only [u8s, List.map_cons, AV.allLt, AV.idLt, Bool.true_and] at this ⊢
   exact this
def digI (v : List Int) (j : Nat) : Int := IntKind.u8.wrap (shrI (v.getD (j / 4) 0) (24 - 8 * (j % 4)))
def digs (v : List Int) : Nat -> List Int
 | 0 => zeros 32
 | j + 1 => (digs v j).set j (digI v j)
theorem digs_len (v : List Int) : ∀ j, (digs v j).length = 32
 | 0 => rfl
 | j + 1 => by simp [digs, digs_len v j]
def shaSum (hv : List Int) (left : Bs) (n : Nat) : List Int := digs (za9 K32 ((sumB left n).length + 1) hv (sumB left n)) 32
theorem list8 {l : List Int} (h : l.length = 8) : ∃ a b c d e f g i, l = [a, b, c, d, e, f, g, i] := by
 match l, h with
 | [a, b, c, d, e, f, g, i], _ => exact ⟨a, b, c, d, e, f, g, i, rfl⟩
theorem o_shrN (a : Int) (n : Nat) : za6 .shr .u64 a (n : Int) = some (.int .u64 (a.fdiv (2 ^ (min n 64)))) := by simp only [za6]; rw [if_neg (by omega)]; rfl
theorem rem64 (n : Nat) : ((n : Int).tmod 64) = ((n % 64 : Nat) : Int) := by
 rw [Int.tmod_eq_emod_of_nonneg (by omega)]; rfl
def Z32 : List AV := [AV.int IntKind.u8 0, AV.int IntKind.u8 0, AV.int IntKind.u8 0, AV.int IntKind.u8 0, AV.int IntKind.u8 0, AV.int IntKind.u8 0, AV.int IntKind.u8 0, AV.int IntKind.u8 0, AV.int IntKind.u8 0, AV.int IntKind.u8 0, AV.int IntKind.u8 0, AV.int IntKind.u8 0, AV.int IntKind.u8 0, AV.int IntKind.u8 0, AV.int IntKind.u8 0, AV.int IntKind.u8 0, AV.int IntKind.u8 0, AV.int IntKind.u8 0, AV.int IntKind.u8 0, AV.int IntKind.u8 0, AV.int IntKind.u8 0, AV.int IntKind.u8 0, AV.int IntKind.u8 0, AV.int IntKind.u8 0, AV.int IntKind.u8 0, AV.int IntKind.u8 0, AV.int IntKind.u8 0, AV.int IntKind.u8 0, AV.int IntKind.u8 0, AV.int IntKind.u8 0, AV.int IntKind.u8 0, AV.int IntKind.u8 0]
theorem aappend_put {P : Program} {t u : TypeId} {get : Nat -> Option AObj} {next : Nat} {s x v' : AV} {eff : AEff} (hx : ∀ k i, x ≠ .int k i) (h : zao P t u get next s x = some (v', eff)) {i : Nat} {y : AObj} (e : eff = .put i y) : ∃ z, get i = some z := by
 subst e
 unfold zao at h
 split at h
 · exact absurd rfl (hx _ _)
 · repeat' split at h
   all_goals first
    | (simp only [Option.some.injEq, Prod.mk.injEq, reduceCtorEq, and_false] at h; done)
    | (simp only [Option.some.injEq, Prod.mk.injEq, AEff.put.injEq] at h; obtain ⟨_, rfl, _⟩ := h; exact ⟨_, by assumption⟩)
    | cases h
theorem eff_lt {H : AHeap} (hw : ∀ j x, H.get j = some x -> j < H.next) {eff : AEff} (he : ∀ i y, eff = .put i y -> ∃ z, H.get i = some z) : ∀ j x, (H.eff eff).get j = some x -> j < (H.eff eff).next := by
 intro j x hj
 cases eff with
 | same => exact hw j x hj
 | put i y =>
   simp only [AHeap.eff, AHeap.get_set, AHeap.next_set] at hj ⊢
   split at hj
   · rename_i e
     obtain ⟨z, hz⟩ := he i y rfl
     rw [e]; exact hw _ _ hz
   · exact hw j x hj
 | new y =>
   simp only [AHeap.eff, AHeap.get_push, AHeap.next_push] at hj ⊢
   split at hj
   · omega
   · have := hw j x hj; omega
 | move i y =>
   simp only [AHeap.eff, AHeap.get_push, AHeap.next_push, AHeap.next_kill, AHeap.get_kill] at hj ⊢
   have hj : (if j = H.next then some y else if j = i then none else H.get j) = some x := hj
   by_cases e : j = H.next
   · omega
   · rw [if_neg e] at hj
     by_cases e2 : j = i
     · rw [if_pos e2] at hj; cases hj
     · rw [if_neg e2] at hj
       have := hw j x hj; omega
theorem push_lt {H : AHeap} (hw : ∀ j x, H.get j = some x -> j < H.next) (y : AObj) : ∀ j x, (H.push y).get j = some x -> j < (H.push y).next := by
 intro j x hj
 simp only [AHeap.get_push, AHeap.next_push] at hj ⊢
 split at hj
 · omega
 · have := hw j x hj; omega
theorem app1 {H : AHeap} {l : Bs} {w : AV} {b : Nat -> Prop} (h : Gr H 1 l.length (strCs l) w b) (hw : ∀ j x, H.get j = some x -> j < H.next) (h1 : l.length <= 500000000) (x : UInt8) {c : Int} (hc : ((x.toNat : Nat) : Int) = c) :
  ∃ v' eff, zao Tryz.prog 22 22 (H.push (.cells [.int .u8 c])).get (H.next + 1) w (.sl H.next 0 1 1 1 false) = some (v', eff) /\ Gr ((H.push (.cells [.int .u8 c])).eff eff) 1 (l ++ [x]).length (strCs (l ++ [x])) v' (fun j => b j \/ H.next <= j) /\
    (∀ j, ¬ b j -> j < H.next -> ((H.push (.cells [.int .u8 c])).eff eff).get j = H.get j) /\ H.next + 1 <= ((H.push (.cells [.int .u8 c])).eff eff).next := by
 have h' : Gr (H.push (.cells [.int .u8 c])) 1 l.length (strCs l) w b := h.keep fun j y hj hy => by
  have := hw j y hy
  have e : j ≠ H.next := by omega
  simp [e, hy]
 obtain ⟨v', eff, f1, f2, f3, f4⟩ := app_bytes (x := [x]) h' (u := .sl H.next 0 1 1 1 false) (b2 := fun _ => True) (.inr (.inr ⟨H.next, 0, 1, false, [], [], rfl, trivial, by simp [strCs, hc], rfl, rfl, rfl, Nat.le_refl _⟩)) (by omega) (by simp) (nx := H.next + 1) rfl
 refine ⟨v', eff, f1, f2.mono fun j hj => ?_, fun j hj hjn => ?_, f4⟩
 · rcases hj with hj | hj
   · exact .inl hj
   · exact .inr (by rw [hj]; simp)
 · rw [f3 j hj (by simp; omega)]
   have e : j ≠ H.next := by omega
   simp [e]
theorem shaSum_does {H : AHeap} {i : Nat} {hv : List Int} (hh : hv.length = 8) {left : Bs} {n : Nat} {P : Nat -> Prop} (hs : HsAt H i hv left n P) (hP : ∀ j, P j -> j < H.next) (hl : left.length <= 100000000) :
  Does Tryz.prog G 117 [.ptr i 0] H fun r h => r = .agg (u8s (shaSum hv left n)) /\ ∀ j x, ¬ P j -> H.get j = some x -> h.get j = some x := by
 refine Does.wf Tryz.call117 fun hw _ => ?_
 obtain ⟨M, hM⟩ : ∃ M, M = shaSum hv left n := ⟨_, rfl⟩
 rw [<- hM]
 refine zad Tryz.call117 Tryz.func117 rfl (by simp [Tryz.f117]) ?_
 obtain ⟨u, hi, hu⟩ := hs
 have hin := zaa hw hi
 have hiR := hi
 obtain ⟨w0, w1, w2, w3, w4, w5, w6, w7, hv8⟩ := list8 hh
 rw [hv8] at hi
 simp only [u32s, List.map_cons, List.map_nil, List.cons_append, List.nil_append] at hi
 have q1 : i ≠ H.next := by omega
 have q2 : i ≠ H.next + 1 := by omega
 have uc := hu.cells
 have us := hu.sc
 have hu' : ByF ((H.push (.cells Z32)).push (.cells [])) u left (fun j => P j /\ j ≠ i) := by
  rcases hu with hu | hu
  · exact .inl hu
  · exact .inr (hu.keep fun j x hj hx => by
     have := zaa hw hx
     have p1 : j ≠ H.next := by omega
     have p2 : j ≠ H.next + 1 := by omega
     simp [p1, p2, hx])
 obtain ⟨va, ea, fa1, fa2, fa3, fa4⟩ := app_bytes (H := (H.push (.cells Z32)).push (.cells [])) (l := []) (x := left) (w := .sl (H.next + 1) 0 1 0 0 false) (u := u) (b := fun j => H.next < j) (.inr ⟨H.next + 1, 0, 0, false, [], [], rfl, Nat.lt_succ_self _, by simp [strCs], rfl, rfl, rfl, Nat.le_refl _⟩) hu' (by simp) (by omega) (nx := H.next + 1 + 1) rfl
 simp only [List.nil_append, AHeap.next_push] at fa2 fa3 fa4
 have lt2 : ∀ j x, (((H.push (.cells Z32)).push (.cells [])).eff ea).get j = some x -> j < (((H.push (.cells Z32)).push (.cells [])).eff ea).next :=
  eff_lt (push_lt (push_lt (fun j x => zaa hw) _) _) fun i y e => aappend_put (fun k i => by rcases hu with (⟨rfl, _⟩ | ⟨ts, rfl⟩) | (⟨_, _, rfl⟩ | ⟨p, o, cap, op, pre, junk, rfl, _⟩) <;> simp) fa1 e
 obtain ⟨vb, eb, fb1, fb2, fb3, fb4⟩ := app1 fa2 lt2 (by omega) 0x80 (c := 128) rfl
 have old : ∀ j x, ¬ (H.next < j) -> j ≠ H.next + 1 + 1 -> (((H.push (.cells Z32)).push (.cells [])).eff ea).get j = some x -> True := fun _ _ _ _ _ => trivial
 unfold Z32 at fa1 fb1
 simp [hi, q1, q2, uc, us, -zao]
 rw [fa1]
 simp [-zao]
 rw [fb1]
 simp
 have old : ∀ j x, H.get j = some x -> ((((((H.push (.cells Z32)).push (.cells [])).eff ea).push (.cells [.int .u8 128])).eff eb)).get j = some x := fun j x hj => by
  have := zaa hw hj
  have p1 : j ≠ H.next := by omega
  have p2 : j ≠ H.next + 1 := by omega
  rw [fb3 j (by omega) (by omega), fa3 j (by omega) (by omega)]
  simp [p1, p2, hj]
 have hz0 : ((((((H.push (.cells Z32)).push (.cells [])).eff ea).push (.cells [.int .u8 128])).eff eb)).get H.next = some (.cells Z32) := by
  rw [fb3 _ (by omega) (by omega), fa3 _ (by omega) (by omega)]
  simp
 have fb2 := fb2.mono (b' := fun j => H.next < j) fun j hj => by
  rcases hj with (hj | hj) | hj <;> omega
 unfold Z32 at old hz0 fb2
 generalize ((((((H.push (.cells [AV.int IntKind.u8 0, AV.int IntKind.u8 0, AV.int IntKind.u8 0, AV.int IntKind.u8 0, AV.int IntKind.u8 0, AV.int IntKind.u8 0, AV.int IntKind.u8 0, AV.int IntKind.u8 0, AV.int IntKind.u8 0, AV.int IntKind.u8 0, AV.int IntKind.u8 0, AV.int IntKind.u8 0, AV.int IntKind.u8 0, AV.int IntKind.u8 0, AV.int IntKind.u8 0, AV.int IntKind.u8 0, AV.int IntKind.u8 0, AV.int IntKind.u8 0, AV.int IntKind.u8 0, AV.int IntKind.u8 0, AV.int IntKind.u8 0, AV.int IntKind.u8 0, AV.int IntKind.u8 0, AV.int IntKind.u8 0, AV.int IntKind.u8 0, AV.int IntKind.u8 0, AV.int IntKind.u8 0, AV.int IntKind.u8 0, AV.int IntKind.u8 0, AV.int IntKind.u8 0, AV.int IntKind.u8 0, AV.int IntKind.u8 0])).push (.cells [])).eff ea).push (.cells [.int .u8 128])).eff eb)) = H2 at *
 have hz0 : H2.get H.next = some (.cells (u8s (zeros 32))) := hz0
 have hpz := padZ_lt (left ++ [0x80]).length
 refine zai (fun m T' H' => ∃ t w, padI t = padI (left ++ [0x80]) /\ padZ t.length = m /\ t.length + m = (left ++ [0x80]).length + padZ (left ++ [0x80]).length /\ Gr H' 1 t.length (strCs t) w (fun j => H.next < j) /\ (∀ j x, H.get j = some x -> H'.get j = some x) /\ H'.get H.next = some (.cells (u8s (zeros 32))) /\
  T' 0 = .ptr i 0 /\ T' 2 = .ptr H.next 0 /\ T' 3 = w) (padZ (left ++ [0x80]).length) ?_ ?_
 · exact ⟨left ++ [0x80], vb, rfl, rfl, rfl, fb2, old, hz0, by simp, by simp, by simp⟩
 clear fa1 fa2 fa3 fa4 fb1 fb2 fb3 fb4 lt2 old hz0
 rintro m T H1 ⟨t, w, hpd, hpm, htl, hg, hk, hz, t0, t2, t3⟩ hw1 _
 have hal : alen Tryz.prog 22 w = some (.int .i64 t.length) := hg.alen (e := 5) (by simp)
 have htb : t.length <= 100000100 := by
  simp only [List.length_append, List.length_singleton] at htl hpz
  omega
 by_cases h56 : t.length % 64 = 56
 · have hne : ((((t.length : Int).tmod 64)) != 56) = false := by rw [rem64, h56]; rfl
   simp [t0, t2, t3, hal, hne, -alen]
   have hF : sumB left n = t ++ lenR n 8 := by rw [sumB, <- hpd, padI_done h56]
   have hSl : (sumB left n).length <= 200000000 := by rw [hF, List.length_append, lenR_len]; omega
   refine zai (fun m T' H' => ∃ t' w, sumB left n = t' ++ lenR n m /\ m <= 8 /\ Gr H' 1 t'.length (strCs t') w (fun j => H.next < j) /\ (∀ j x, H.get j = some x -> H'.get j = some x) /\ H'.get H.next = some (.cells (u8s (zeros 32))) /\
    T' 0 = .ptr i 0 /\ T' 2 = .ptr H.next 0 /\ T' 3 = w /\ T' 4 = .int .i64 (8 * (m : Int) - 8)) 8 ?_ ?_
   · exact ⟨t, w, hF, by omega, hg, hk, hz, by simp [t0], by simp [t2], by simp [t3], by simp⟩
   clear hg hk hz t0 t2 t3 hw1 hal hne
   rintro m T H1 ⟨t', w, hF, hm8, hg, hk, hz, t0, t2, t3, t4⟩ hw1 _
   have gi := hk _ _ hi
   have hFl := congrArg List.length hF
   rw [List.length_append, lenR_len] at hFl
   cases m with
   | succ m =>
     have t4 : T 4 = .int .i64 ((8 * m : Nat) : Int) := by rw [t4]; congr 1; omega
     have hge : (0 : Int) <= ((8 * m : Nat) : Int) := by omega
     have w8 : IntKind.i64.wrap (((8 * m : Nat) : Int) - 8) = 8 * (m : Int) - 8 := by rw [IntWalk.i64_in _ (by omega)]; omega
     have hwl : t'.length <= 500000000 := by omega
     obtain ⟨v', eff, f1, f2, f3, f4⟩ := app1 hg (fun j x => zaa hw1) hwl (byteAt n (8 * m)) (c := byteX n (8 * m)) (byteAt_eq n _)
     unfold byteX at f1 f2 f3 f4
     obtain ⟨I8, hI8⟩ : ∃ I8, I8 = 8 * m := ⟨_, rfl⟩
     rw [<- hI8] at t4 hge w8 f1 f2 f3 f4
     simp [t0, t2, t3, t4, gi, hge, o_geq64, o_shrN, o_mulU, o_sub64, w8, -zao, -za6, -aint2]
     have hF2 : sumB left n = (t' ++ [byteAt n (8 * m)]) ++ lenR n m := by rw [hF]; simp [lenR]
     rw [f1]
     simp [t0, t2, t3, t4, w8, o_sub64, -aint2]
     rw [<- hI8] at hF2
     refine ⟨m, by omega, t' ++ [byteAt n I8], hF2, by omega, v', f2.mono fun j hj => ?_, fun j x hj => ?_, ?_, rfl, by first | rfl | omega⟩
     · rcases hj with hj | hj
       · exact hj
       · have := zaa hw1 hz; omega
     · have hjn := zaa hw hj
       have := zaa hw1 (hk j x hj)
       rw [f3 j (by omega) (by omega)]
       exact hk j x hj
     · have := zaa hw1 hz
       rw [f3 _ (by omega) (by omega)]
       exact hz
   | zero =>
     have t4 : T 4 = .int .i64 (-8) := t4
     simp [t0, t2, t3, t4, gi]
     have hF0 : sumB left n = t' := by rw [hF]; simp [lenR]
     have hB := blocks_live (G := G) (H0 := H) hw (B := H.next + 1) (by omega) hh (w := w) (b := t') (hg.mono fun j hj => by omega) (by rw [<- hF0]; omega)
     rw [hv8] at hB
     simp only [u32s, List.map_cons, List.map_nil] at hB
     rw [<- hv8] at hB
     refine zae hB ?_
     rintro r h ⟨⟨v', rfl, hv'⟩, hk0, hk1, hk2⟩ hw2 _
     have gz := hk2 H.next _ (by omega) (fun p cs => AV.frzs_lt (n := 0) (Nat.zero_le _) _ (u8s_lt 0 _)) hz
     obtain ⟨V, hV⟩ : ∃ V, V = za9 K32 (t'.length + 1) hv t' := ⟨_, rfl⟩
     have hMV : M = digs V 32 := by rw [hM, shaSum, hF0, hV]
     have hVl : V.length = 8 := by rw [hV]; exact blocksI_len _ _ _ _ hh
     have vl := za0 V
     rw [hVl] at vl
     have tk : List.take 8 (u32s V) = u32s V := by rw [<- vl, List.take_length]
     have sc : (∀ x, x ∈ u32s V -> x.scalar = true) = True := eq_true fun x hx => List.all_eq_true.1 (u32s_sc _) x hx
     have eV : List.map (fun x => AV.int IntKind.u32 x) V = u32s V := rfl
     have gzn := zaa hw2 gz
     have old : ∀ j x, H.get j = some x -> h.get j = some x := fun j x hj => hk1 j x hj (hk j x hj)
     have vc := hv'.cells
     have vs := hv'.sc
     rw [<- hV]
     clear hk1 hk2 hB hV hk hz hg
     simp [eV, vl, tk, sc, vc, vs]
     refine zai (fun m T' H' => ∃ a, a + m = 8 /\ (∀ j x, H.get j = some x -> H'.get j = some x) /\ H'.get H.next = some (.cells (u8s (zeros 32))) /\ H'.get (h.next + 1) = some (.cells (u8s (digs V (4 * a)))) /\
      T' 2 = .ptr H.next 0 /\ T' 7 = .ptr (h.next + 1) 0 /\ T' 50 = .agg (u32s V) /\ T' 51 = .int .i64 a) 8 ?_ ?_
     · refine ⟨0, rfl, fun j x hj => ?_, ?_, by simp [digs, u8s, zeros], ?_, ?_, ?_, ?_⟩
       · have := zaa hw2 (old j x hj)
         have p1 : j ≠ h.next := by omega
         have p2 : j ≠ h.next + 1 := by omega
         simp [p1, p2, old j x hj]
       · have p1 : H.next ≠ h.next := by omega
         have p2 : H.next ≠ h.next + 1 := by omega
         simp [p1, p2, gz]
       all_goals simp [t2]
     clear old gz t0 t2 t3 t4 gi hw1
     rintro m T H1 ⟨a, ham, hk, hz, hd, t2, t7, t50, t51⟩ hw1 _
     have zn := zaa hw1 hz
     by_cases ha : a < 8
     · have haa : (a : Int) < 8 := by omega
       simp [t50, t51, ha, haa, vl, u32s_get]
       refine zai (fun m' T' H' => ∃ k, k + m' = 4 /\ (∀ j x, H.get j = some x -> H'.get j = some x) /\ H'.get H.next = some (.cells (u8s (zeros 32))) /\ H'.get (h.next + 1) = some (.cells (u8s (digs V (4 * a + k)))) /\
        T' 2 = .ptr H.next 0 /\ T' 7 = .ptr (h.next + 1) 0 /\ T' 50 = .agg (u32s V) /\ T' 51 = .int .i64 a /\ T' 8 = .int .i64 a /\ T' 9 = .int .u32 (V.getD a 0) /\ T' 55 = .int .i64 k) 4 ?_ ?_
       · refine ⟨0, rfl, hk, hz, hd, ?_, ?_, ?_, ?_, ?_, ?_, ?_⟩ <;> simp [t2, t7, t50, t51]
       clear hk hz hd t2 t7 t50 t51 hw1
       rintro m' T H1 ⟨k, hkm, hk, hz, hd, t2, t7, t50, t51, t8, t9, t55⟩ hw1 _
       by_cases hk4 : k < 4
       · have hkk : (k : Int) < 4 := by omega
         have dl : (digs V (4 * a + k)).length = 32 := digs_len _ _
         have ul := u8s_len (digs V (4 * a + k))
         rw [dl] at ul
         have w1 : IntKind.i64.wrap (4 * (a : Int)) = ((4 * a : Nat) : Int) := by rw [IntWalk.i64_in _ (by omega)]; omega
         have w2 : IntKind.i64.wrap (((4 * a : Nat) : Int) + k) = ((4 * a + k : Nat) : Int) := by rw [IntWalk.i64_in _ (by omega)]; omega
         have w3 : IntKind.i64.wrap (8 * (k : Int)) = ((8 * k : Nat) : Int) := by rw [IntWalk.i64_in _ (by omega)]; omega
         have w4 : IntKind.i64.wrap (24 - ((8 * k : Nat) : Int)) = ((24 - 8 * k : Nat) : Int) := by rw [IntWalk.i64_in _ (by omega)]; omega
         have w5 : IntKind.i64.wrap ((k : Int) + 1) = ((k + 1 : Nat) : Int) := by rw [IntWalk.i64_in _ (by omega)]; omega
         obtain ⟨A, hA⟩ : ∃ A, A = 4 * a := ⟨_, rfl⟩
         obtain ⟨B, hB⟩ : ∃ B, B = 4 * a + k := ⟨_, rfl⟩
         obtain ⟨C, hC⟩ : ∃ C, C = 8 * k := ⟨_, rfl⟩
         obtain ⟨D, hD⟩ : ∃ D, D = 24 - 8 * k := ⟨_, rfl⟩
         rw [<- hB] at w2 hd dl ul
         rw [<- hA] at w1 w2
         rw [<- hD] at w4
         rw [<- hC] at w3 w4
         have b1 : B < 32 := by omega
         have b1' : (B : Int) < 32 := by omega
         have b2 : B <= 31 := by omega
         simp [t2, t7, t50, t51, t8, t9, t55, hk4, hkk, o_lss64, o_mul64, o_add64, o_sub64, o_shr, w1, w2, w3, w4, w5, hd, ul, b1, b1', b2, -aint2, -za6]
         refine ⟨m' - 1, by omega, k + 1, by omega, fun j x hj => ?_, ?_, ?_, by omega⟩
         · have := zaa hw hj
           have p1 : j ≠ h.next + 1 := by omega
           simp [p1, hk j x hj]
         · rw [if_neg (by omega)]; exact hz
         · rw [u8s_put (by omega)]
           have e1 : 4 * a + (k + 1) = B + 1 := by omega
           have e2 : B / 4 = a := by omega
           have e3 : 24 - 8 * (B % 4) = D := by omega
           rw [e1]
           simp only [digs, digI, e2, e3]
           simp
       · obtain rfl : k = 4 := by omega
         have w5 : IntKind.i64.wrap ((a : Int) + 1) = ((a + 1 : Nat) : Int) := by rw [IntWalk.i64_in _ (by omega)]; omega
         simp [t2, t7, t50, t51, t55, w5]
         exact ⟨m - 1, by omega, a + 1, by omega, hk, hz, by rw [show 4 * (a + 1) = 4 * a + 4 by omega]; exact hd, by omega⟩
     · obtain rfl : a = 8 := by omega
       have dl : (digs V (4 * 8)).length = 32 := digs_len _ _
       rw [<- hMV] at hd dl
       have ul := u8s_len M
       rw [dl] at ul
       have tkM : List.take 32 (u8s M) = u8s M := by rw [<- ul, List.take_length]
       have scM : (∀ x, x ∈ u8s M -> x.scalar = true) = True := eq_true fun x hx => by simp only [u8s, List.mem_map] at hx; obtain ⟨y, _, rfl⟩ := hx; rfl
       have zl : (u8s (zeros 32)).length = 32 := by rw [u8s_len]; rfl
       have dz : List.drop 32 (u8s (zeros 32)) = [] := List.drop_eq_nil_of_le (by rw [zl]; exact Nat.le_refl _)
       simp [t2, t7, t51, hz, hd, ul, tkM, scM, zl, dz]
       intro j x _ hj
       have := zaa hw hj
       have p1 : j ≠ H.next := by omega
       simp [p1, hk j x hj]
 · have hne : ((((t.length : Int).tmod 64)) != 56) = true := by rw [rem64, bne_iff_ne]; omega
   obtain ⟨v', eff, f1, f2, f3, f4⟩ := app1 hg (fun j x => zaa hw1) (by omega) 0 (c := 0) rfl
   simp [t0, t2, t3, hal, hne, -alen, -zao]
   rw [f1]
   simp [t0, t2, t3]
   obtain ⟨p1, p2⟩ := padI_more h56
   have l1 : (left ++ [0x80]).length = left.length + 1 := by simp
   rw [l1] at htl hpz
   refine ⟨m - 1, by omega, t ++ [0], by rw [p1, hpd], by omega, by simp only [List.length_append, List.length_singleton]; omega, v', f2.mono fun j hj => ?_, fun j x hj => ?_, ?_, rfl⟩
   · rcases hj with hj | hj
     · exact hj
     · have := zaa hw1 hz; omega
   · have hjn := zaa hw hj
     have := zaa hw1 (hk j x hj)
     rw [f3 j (by omega) (by omega)]
     exact hk j x hj
   · have := zaa hw1 hz
     rw [f3 _ (by omega) (by omega)]
     exact hz
def shaOf (b : Bs) : List Int := shaSum (za9 K32 (b.length + 1) H0s b) (restI (b.length + 1) b) b.length
theorem shaOf_does {v : AV} {b : Bs} (hb : BtA v b) (hl : b.length <= 100000000) (H : AHeap) : Does Tryz.prog G 73 [v] H fun r h => r = .agg (u8s (shaOf b)) /\ h = H := by
 obtain ⟨M, hM⟩ : ∃ M, M = shaOf b := ⟨_, rfl⟩
 rw [<- hM]
 refine Does.forgot (R := fun r h => r = .agg (u8s M) /\ ∀ j x, H.get j = some x -> h.get j = some x) ?_ (fun hw ha r H1 ⟨h1, h2⟩ => ⟨h2, by rw [h1, AV.idLt, u8s_lt], h1, rfl⟩)
 refine Does.wf Tryz.call73 fun hw _ => ?_
 refine zad Tryz.call73 Tryz.func73 rfl (by simp [Tryz.f73]) ?_
 simp
 refine zae (shaNew_does _) ?_
 rintro r h ⟨rfl, rfl⟩ hw1 _
 simp
 refine zae (shaAdd_does (hv := H0s) rfl (by simp) hb hl) ?_
 rintro r h ⟨rfl, h1, h2⟩ hw2 _
 simp
 have hL := restI_len (b.length + 1) b
 have h1' : HsAt h (H.next + 1) (za9 K32 (b.length + 1) H0s b) (restI (b.length + 1) b) b.length (fun j => H.next + 1 <= j /\ j < h.next) := by
  obtain ⟨u, g1, g2⟩ := h1
  refine ⟨u, g1, ?_⟩
  rcases g2 with g2 | g2
  · exact .inl g2
  · exact .inr ((Gr_lt g2 fun j x => zaa hw2).mono fun j hj => ⟨⟨by have := hj.1.1; simp at this; omega, hj.2.1⟩, hj.1.2⟩)
 have hz := h2 H.next _ (by omega) (by simp; rfl)
 refine zae (shaSum_does (blocksI_len _ _ _ _ rfl) h1' (fun j hj => hj.2) (by omega)) ?_
 rintro r h' ⟨rfl, h3⟩ hw3 _
 have hz3 := h3 H.next _ (by omega) hz
 have hM2 : u8s (shaSum (za9 K32 (b.length + 1) H0s b) (restI (b.length + 1) b) b.length) = u8s M := by rw [hM]; rfl
 rw [hM2]
 have ml : M.length = 32 := by rw [hM]; exact digs_len _ _
 have ul := u8s_len M
 rw [ml] at ul
 have tkM : List.take 32 (u8s M) = u8s M := by rw [<- ul, List.take_length]
 have scM : (∀ x, x ∈ u8s M -> x.scalar = true) = True := eq_true fun x hx => by simp only [u8s, List.mem_map] at hx; obtain ⟨y, _, rfl⟩ := hx; rfl
 simp [hz3, ul, tkM, scM]
 intro j x hj
 have := zaa hw hj
 have p1 : j ≠ H.next := by omega
 have p2 : j ≠ H.next + 1 := by omega
 simp [p1, h3 j x (by omega) (h2 j x (by omega) (by simp [p1, p2, hj]))]
def MacAt (H : AHeap) (m q : Nat) (p : List AV) (mv : List Int) (t : Nat) (op : Bool) : Prop :=
 H.get m = some (.cells (p ++ [.sl q 0 1 4 4 op, .int .i64 t])) /\ H.get q = some (.cells (ints mv)) /\ p.length = 6 /\ mv.length = 4 /\ m ≠ q /\ t <= 4611686018427387904 /\ ∀ v ∈ mv, i64 v
def stateB (mv : List Int) (t : Nat) : Bs := encU t ++ (encU 4 ++ encIs mv)
theorem list6 {l : List AV} (h : l.length = 6) : ∃ a b c d e f, l = [a, b, c, d, e, f] := by
 match l, h with
 | [a, b, c, d, e, f], _ => exact ⟨a, b, c, d, e, f, rfl⟩
theorem ints_get {l : List Int} {i : Nat} (h : i < (ints l).length) : (ints l)[i]'h = .int .i64 (l.getD i 0) := by
 have h' : i < l.length := by rw [zaS] at h; exact h
 simp [ints, h']
theorem encI_le {v : Int} (h : i64 v) : (encI v).length <= 10 := zan (zig_lt h)
theorem encIs_le10 : ∀ {l : List Int}, (∀ v ∈ l, i64 v) -> (encIs l).length <= 10 * l.length
 | [], _ => by simp [encIs]
 | a :: l, h => by
   have h1 := encI_le (h a (by simp))
   have h2 := encIs_le10 (l := l) fun v hv => h v (by simp [hv])
   simp only [encIs, List.flatMap_cons, List.length_append, List.length_cons] at h2 ⊢
   omega
theorem encIs_append (a b : List Int) : encIs (a ++ b) = encIs a ++ encIs b := by simp [encIs]
theorem state_does {H : AHeap} {m q : Nat} {p : List AV} {mv : List Int} {t : Nat} {op : Bool} (hm : MacAt H m q p mv t op) : Does Tryz.prog G 74 [.ptr m 0] H fun r h => r = bV (stateB mv t) /\ h = H := by
 obtain ⟨h1, h2, h3, h4, h5, h6, h7⟩ := hm
 obtain ⟨a, b, c, d, e, f, rfl⟩ := list6 h3
 simp only [List.cons_append, List.nil_append] at h1
 refine zad Tryz.call74 Tryz.func74 rfl (by simp [Tryz.f74]) ?_
 have w1 : IntKind.u64.wrap (t : Int) = t := IntWalk.u64_in _ (by omega)
 have l1 := zan (u := t) (by omega)
 have l2 := zan (u := 4) (by omega)
 simp [h1, w1]
 refine zab (zaQ (u := t) (by omega) .nil (by simp) _) ?_
 rintro r h ⟨rfl, rfl⟩
 simp [h1]
 refine zab (zaQ (u := 4) (by omega) (.bV ([] ++ encU t)) (by simp; omega) _) ?_
 rintro r h ⟨rfl, rfl⟩
 simp [h1]
 obtain ⟨B0, hB0⟩ : ∃ B0, B0 = encU t ++ encU 4 := ⟨_, rfl⟩
 have hS : stateB mv t = B0 ++ encIs mv := by rw [hB0, stateB, List.append_assoc]
 have lB : B0.length <= 20 := by rw [hB0, List.length_append]; omega
 rw [hS, <- hB0]
 refine zai (fun k T' H' => ∃ j, j + k = 4 /\ H' = h /\ T' 3 = bV (B0 ++ encIs (mv.take j)) /\ T' 23 = .sl q 0 1 4 4 op /\ T' 24 = .int .i64 4 /\ T' 25 = .int .i64 j) 4 ?_ ?_
 · refine ⟨0, rfl, rfl, ?_, ?_, ?_, ?_⟩ <;> simp [encIs, hB0]
 rintro k T H1 ⟨j, hjk, rfl, t3, t23, t24, t25⟩ hw1 _
 by_cases hj : j < 4
 · have hjj : (j : Int) < 4 := by omega
   have hj4 : j <= 4 := by omega
   obtain ⟨v, hv⟩ : ∃ v, mv[j]? = some v := ⟨_, List.getElem?_eq_getElem (by omega)⟩
   have hvi : i64 v := h7 v (List.mem_of_getElem? hv)
   have iv : (ints mv)[j]? = some (.int .i64 v) := by simp [ints, hv]
   have il := zaS mv
   rw [h4] at il
   have hsn : mv.take (j + 1) = mv.take j ++ [v] := by rw [List.take_add_one, hv]; rfl
   have hle : (encIs (mv.take j)).length <= 40 := by
    have := encIs_le10 (l := mv.take j) fun x hx => h7 x (List.mem_of_mem_take hx)
    rw [List.length_take] at this
    omega
   have wr : IntKind.i64.wrap ((j : Int) + 1) = ((j + 1 : Nat) : Int) := by rw [IntWalk.i64_in _ (by omega)]; omega
   simp [t3, t23, t24, t25, hj, hjj, h2, il, hj4, ints_get, hv]
   refine zab (packI_does hvi (bs := B0 ++ encIs (mv.take j)) (.bV _) (by rw [List.length_append]; omega) _) ?_
   rintro r h ⟨rfl, rfl⟩
   simp [t3, t23, t24, t25]
   refine ⟨k - 1, by omega, j + 1, by omega, ?_, by omega⟩
   rw [hsn, encIs_append]
   simp [encIs]
 · obtain rfl : j = 4 := by omega
   have : mv.take 4 = mv := by rw [<- h4, List.take_length]
   rw [this] at t3
   simp [t3, t24, t25, hS]
def digestV (mv : List Int) (t : Nat) : AV := .agg (u8s (shaOf (stateB mv t)))
theorem stateB_le {mv : List Int} {t : Nat} (h4 : mv.length = 4) (h7 : ∀ v ∈ mv, i64 v) (ht : t < 2 ^ 64) : (stateB mv t).length <= 60 := by
 have l1 := zan ht
 have l2 := zan (u := 4) (by omega)
 have l3 := encIs_le10 h7
 simp only [stateB, List.length_append]
 omega
theorem shaOf_len (b : Bs) : (shaOf b).length = 32 := digs_len _ _
theorem digest_does {H : AHeap} {m q : Nat} {p : List AV} {mv : List Int} {t : Nat} {op : Bool} (hm : MacAt H m q p mv t op) : Does Tryz.prog G 39 [.ptr m 0] H fun r h => r = digestV mv t /\ h = H := by
 obtain ⟨M, hM⟩ : ∃ M, M = shaOf (stateB mv t) := ⟨_, rfl⟩
 have hD : digestV mv t = .agg (u8s M) := by rw [hM]; rfl
 rw [hD]
 refine Does.forgot (R := fun r h => r = .agg (u8s M) /\ ∀ j x, H.get j = some x -> h.get j = some x) ?_ (fun hw ha r H1 ⟨h1, h2⟩ => ⟨h2, by rw [h1, AV.idLt, u8s_lt], h1, rfl⟩)
 refine Does.wf Tryz.call39 fun hw _ => ?_
 refine zad Tryz.call39 Tryz.func39 rfl (by simp [Tryz.f39]) ?_
 have hmn := zaa hw hm.1
 have hqn := zaa hw hm.2.1
 have q1 : m ≠ H.next := by omega
 have q2 : q ≠ H.next := by omega
 simp
 refine zab (state_does (q := q) (p := p) (mv := mv) (t := t) (op := op) ⟨by simp [q1, hm.1], by simp [q2, hm.2.1], hm.2.2⟩) ?_
 rintro r h ⟨rfl, rfl⟩
 simp
 refine zab (shaOf_does (.bV (stateB mv t)) (by have := stateB_le (t := t) hm.2.2.2.1 hm.2.2.2.2.2.2 (by have := hm.2.2.2.2.2.1; omega); omega) _) ?_
 rintro r h ⟨rfl, rfl⟩
 have ml : M.length = 32 := by rw [hM]; exact shaOf_len _
 rw [<- hM]
 have ul := u8s_len M
 rw [ml] at ul
 have tkM : List.take 32 (u8s M) = u8s M := by rw [<- ul, List.take_length]
 have scM : (∀ x, x ∈ u8s M -> x.scalar = true) = True := eq_true fun x hx => by simp only [u8s, List.mem_map] at hx; obtain ⟨y, _, rfl⟩ := hx; rfl
 simp [ul, tkM, scM]
 intro j x hj
 have := zaa hw hj
 have p1 : j ≠ H.next := by omega
 simp [p1, hj]
theorem fits_does {H : AHeap} {r pI cap : Nat} {op : Bool} {a0 a1 a2 a3 : AV} {e : List AV} (hr : H.get r = some (.cells (a0 :: a1 :: a2 :: a3 :: .sl pI 0 1 1 cap op :: e))) (hp : H.get pI = some (.cells [.int .i64 2])) {l : List Int} {v : AV} {ts : List AV} (hv : v = .nilsl /\ l = [] \/ v = .vsl (ints l ++ ts) l.length) (hl : l.length <= 1000000) :
  Does Tryz.prog G 45 [.ptr r 0, v] H fun x h => x = .bool (decide (l.length = 1)) /\ h = H := by
 have hal : alen Tryz.prog 45 v = some (.int .i64 l.length) := by rcases hv with ⟨rfl, rfl⟩ | rfl <;> simp [alen]
 have hil : alen Tryz.prog 32 (.sl pI 0 1 1 cap op) = some (.int .i64 1) := by simp [alen]
 refine zad Tryz.call45 Tryz.func45 rfl (by simp [Tryz.f45]) ?_
 by_cases h1 : l.length = 1
 case neg =>
  have c1 : ((l.length : Int) != 1) = true := by rw [bne_iff_ne]; omega
  simp [hr, hal, hil, c1, h1, -alen]
 have c1 : ((l.length : Int) != 1) = false := by simp [h1]
 simp [hr, hal, hil, c1, -alen]
 refine zai (fun m T' H' => H' = H /\ T' 18 = .sl pI 0 1 1 cap op /\ T' 19 = .int .i64 1 /\ (m = 1 /\ T' 20 = .int .i64 0 \/ m = 0 /\ T' 20 = .int .i64 1)) 1 ?_ ?_
 · refine ⟨rfl, ?_, ?_, .inl ⟨rfl, ?_⟩⟩ <;> simp
 rintro m T H1 ⟨rfl, t18, t19, ht⟩ hw1 _
 have wr : IntKind.i64.wrap (0 + 1) = 1 := rfl
 rcases ht with ⟨rfl, t20⟩ | ⟨rfl, t20⟩
 · simp [t18, t19, t20, hp]
   decide
 · simp [t18, t19, t20, h1]
theorem rpOff_does {H : AHeap} {r k : Nat} {d : Dk} (hk : DkAt H k d) {c0 c2 c3 c4 c5 c6 c7 c8 c9 c10 c11 : AV} {lives : Int} {dn : Bool} (hr : H.get r = some (.cells [c0, .ptr k 0, c2, c3, c4, c5, c6, c7, c8, c9, c10, c11, .int .i64 lives, .bool dn])) :
  Does Tryz.prog G 42 [.ptr r 0] H fun x h => x = .bool (dn || d.off || (d.lives != lives)) /\ h = H.set r (.cells [c0, .ptr k 0, c2, c3, c4, c5, c6, c7, c8, c9, c10, c11, .int .i64 lives, .bool (dn || d.off || (d.lives != lives))]) := by
 refine zad Tryz.call42 Tryz.func42 rfl (by simp [Tryz.f42]) ?_
 have hpw := fun H' (h : DkAt H' k d) => power_does (G := G) h
 have hlv := fun H' (h : DkAt H' k d) => lives_does (G := G) h
 cases dn with
 | true =>
   simp
   refine zam [(4, 0)] zag (by kernel_rfl) ?_
   intro es hes
   simp [hr]
   refine ⟨by subst hes; exact ⟨by kernel_rfl, by kernel_rfl⟩, ?_⟩
   simp [rds, heapF, hr]
 | false =>
   cases ho : d.off with
   | true =>
     simp
     refine zam [(4, 0), (9, 0)] zag (by kernel_rfl) ?_
     intro es hes
     simp [hr]
     refine ⟨_, _, (hpw H hk), Nat.le_refl _, ?_⟩
     simp [hr, ho]
     refine ⟨by subst hes; exact ⟨by kernel_rfl, by kernel_rfl⟩, ?_⟩
     simp [rds, heapF, hr]
   | false =>
     simp
     refine zam [(4, 0), (9, 0), (17, 11), (22, 11), (22, 19)] zag (by kernel_rfl) ?_
     intro es hes
     simp [hr]
     refine ⟨_, _, (hpw H hk), Nat.le_refl _, ?_⟩
     simp [hr, ho]
     refine ⟨_, _, (hlv H hk), Nat.le_refl _, ?_⟩
     simp [hr, ho]
     refine ⟨by subst hes; exact ⟨by kernel_rfl, by kernel_rfl⟩, ?_⟩
     simp [rds, heapF, hr]
theorem rpTell_does {H : AHeap} {r : Nat} {c0 c1 c2 c3 c4 c5 c6 c7 c8 c9 c10 c11 c12 : AV} {dn : Bool} (hr : H.get r = some (.cells [c0, c1, c2, c3, c4, c5, c6, c7, c8, c9, c10, c11, c12, .bool dn])) (e : Int) :
  Does Tryz.prog G 48 [.ptr r 0, .int .i64 e] H fun x h => x = .int .i64 e /\ h = H.set r (.cells [c0, c1, c2, c3, c4, c5, c6, c7, c8, c9, c10, c11, c12, .bool (dn || decide (e ≠ 0))]) := by
 refine zad Tryz.call48 Tryz.func48 rfl (by simp [Tryz.f48]) ?_
 by_cases he : e = 0
 · have c1 : (e != 0) = false := by simp [he]
   cases dn <;> simp [hr, he, c1]
 · have c1 : (e != 0) = true := by simp [he]
   cases dn <;> simp [hr, he, c1]
structure PgOk (G : Nat -> Option AV) (p : List AV) : Prop where
 len : p.length = 6
 sc : ∀ x ∈ p, x.scalar = true
 cells : ∀ x ∈ p, x.cells = [x]
 check : ∀ H, Does Tryz.prog G 54 [.agg p] H fun r h => r = .tuple [.agg [.int .i64 0, .int .i64 0], .bool true] /\ h = H
 copy : ∀ H, Does Tryz.prog G 55 [.agg p] H fun r h => r = .agg p /\ h = H
 ins : p[0]? = some (.vsl [.int .i64 2] 1)
 mems : p[3]? = some (.vsl [.int .i64 2, .int .i64 1, .int .i64 2, .int .i64 1] 4)
theorem keep0_does {H : AHeap} {r : Nat} : Does Tryz.prog G 80 [.ptr r 0, .nilsl] H fun x h => x = .int .i64 0 /\ h = H := by
 refine zad Tryz.call80 Tryz.func80 rfl (by simp [Tryz.f80]) ?_
 simp
 refine zai (fun m T' H' => H' = H /\ T' 1 = .nilsl /\ T' 10 = .int .i64 0 /\ T' 11 = .int .i64 0) 1 ?_ ?_
 · refine ⟨rfl, ?_, ?_, ?_⟩ <;> simp
 rintro m T H1 ⟨rfl, t1, t10, t11⟩ hw1 _
 simp [t1, t10, t11]
end Go.Proofs.YtekbjlihciedjaaGreatDoor
