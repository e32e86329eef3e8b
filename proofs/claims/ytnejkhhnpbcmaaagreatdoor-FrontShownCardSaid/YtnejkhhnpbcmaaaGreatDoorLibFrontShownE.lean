/-
  Own library of this claim, part 5: texts one behind the other.
-/
import Derived.Test.YtnejkhhnpbcmaaaGreatDoorLibFrontShownD
set_option maxRecDepth 100000
set_option maxHeartbeats 8000000
set_option linter.unusedVariables false
set_option linter.unusedSimpArgs false
namespace Go.Proofs.YtnejkhhnpbcmaaaGreatDoor
open Go Go.Abs Go.Lex Go.Syn
variable {G : Nat -> Option AV}
def VsA (v : AV) (l : List Va) : Prop := (v = .nilsl /\ l = []) \/ ∃ ts, (∀ n, AV.allLt n ts = true) /\ v = .vsl (zad l ++ ts) l.length
theorem VsA.vsV (l : List Va) : VsA (vsV l) l := by
 unfold Proofs.YtnejkhhnpbcmaaaGreatDoor.vsV
 split
 · rename_i h
   exact .inl ⟨rfl, by simpa using h⟩
 · exact .inr ⟨[], fun _ => rfl, by simp⟩
theorem VsA.len {v : AV} {l : List Va} (h : VsA v l) : zbR v = some l.length := by rcases h with ⟨rfl, rfl⟩ | ⟨ts, ht, rfl⟩ <;> rfl
theorem VsA.first {v : AV} {l : List Va} (h : VsA v l) (get : Nat -> Option AObj) : zaK get 5 l.length v = some (zad l) := by
 rcases h with ⟨rfl, rfl⟩ | ⟨ts, ht, rfl⟩
 · rfl
 · have := zam l
   simp [zaK, this]
theorem VsA.first0 {v : AV} {l : List Va} (h : VsA v l) (h0 : l.length = 0) (get : Nat -> Option AObj) : zaK get 5 0 v = some [] := by
 have e : l = [] := List.length_eq_zero_iff.1 h0
 subst e
 exact h.first get
theorem VsA.sc {v : AV} {l : List Va} (h : VsA v l) : v.scalar = true := by rcases h with ⟨rfl, rfl⟩ | ⟨ts, ht, rfl⟩ <;> rfl
theorem VsA.cells {v : AV} {l : List Va} (h : VsA v l) : v.cells = [v] := by rcases h with ⟨rfl, rfl⟩ | ⟨ts, ht, rfl⟩ <;> rfl
theorem VsA.lt {v : AV} {l : List Va} (h : VsA v l) (n : Nat) : v.idLt n = true := by
 rcases h with ⟨rfl, rfl⟩ | ⟨ts, ht, rfl⟩
 · rfl
 · simp [AV.idLt, zbh, ht, zca]
theorem VsA.ni {v : AV} {l : List Va} (h : VsA v l) : ∀ k n, v ≠ .int k n := by
 intro k n
 rcases h with ⟨rfl, rfl⟩ | ⟨ts, ht, rfl⟩ <;> simp
theorem VsA.alen {v : AV} {l : List Va} (h : VsA v l) : Abs.alen Tryz.prog 38 v = some (.int .i64 l.length) := by
 rcases h with ⟨rfl, rfl⟩ | ⟨ts, ht, rfl⟩ <;> simp [Abs.alen]
def zV : List AV := [.str [], .int .i64 0, .str [], .bool false, .int .i64 0]
theorem growV_does {n : Nat} (hl : n <= 1000000000) (H : AHeap) : Does Tryz.prog G 168 [.nilsl, .int .i64 n] H fun r h =>
  (n = 0 /\ r = .nilsl /\ h = H) \/ (0 < n /\ r = .sl H.next 0 5 0 n true /\ h = H.push (.cells (arep zV n))) := by
 refine zaf Tryz.call168 Tryz.func168 rfl (by simp [Tryz.f168]) ?_
 have c1 : ¬ (n : Int) < 0 := by omega
 have w0 : IntKind.i64.wrap 0 = 0 := by decide
 have w1 : IntKind.i64.wrap (n : Int) = n := IntWalk.i64_in _ (by omega)
 by_cases h0 : n = 0
 · subst h0
   simp [w0]
 · have c2 : (0 : Int) < n := by omega
   have c3 : 0 < n := by omega
   have c4 : n * 56 <= 140737488355328 := by omega
   have c5 : (n : Int) <= 4611686018427387904 := by omega
   simp [azeros, c1, c2, c3, c4, c5, w0, w1, h0, -arep, zV]
theorem take1 {vs : List AV} {i : Nat} {v : AV} (h : vs[i]? = some v) : List.take 1 (List.drop i vs) = [v] := by
 have hlt := (List.getElem?_eq_some_iff.1 h).1
 rw [List.drop_eq_getElem_cons hlt]
 rw [List.getElem?_eq_getElem hlt] at h
 simp only [Option.some.injEq] at h
 rw [h]; rfl
theorem cat_le {cat : Nat -> List Va} {K : Nat} (hs : ∀ i, i < K -> ∃ l, cat (i + 1) = cat i ++ l) : ∀ m i, i + m = K -> (cat i).length <= (cat K).length
 | 0, i, h => by rw [show i = K by omega]; exact Nat.le_refl _
 | m + 1, i, h => by
   obtain ⟨l, hl⟩ := hs i (by omega)
   have := cat_le hs m (i + 1) (by omega)
   rw [hl, List.length_append] at this
   omega
theorem zjB {H : AHeap} {q K : Nat} {vs : List AV} (cat : Nat -> List Va) (h0 : cat 0 = []) (hv : ∀ i, i < K -> ∃ v l, vs[i]? = some v /\ VsA v l /\ cat (i + 1) = cat i ++ l) (hK : vs.length = K) (hq : H.get q = some (.cells vs)) (hl : (cat K).length <= 1000000) (hn : K <= 1000) :
  Does Tryz.prog G 140 [.sl q 0 1 K K false] H fun r H1 => (∀ j x, H.get j = some x -> H1.get j = some x) /\ ((r = .nilsl /\ cat K = []) \/
  ∃ i cap op junk, r = .sl i 0 5 (cat K).length cap op /\ H.next <= i /\ H1.get i = some (.cells (zad (cat K) ++ junk)) /\ 0 < (cat K).length) := by
 refine Does.wf Tryz.call140 fun hw _ => ?_
 refine zaf Tryz.call140 Tryz.func140 rfl (by simp [Tryz.f140]) ?_
 have hcl : ∀ i, i <= K -> (cat i).length <= (cat K).length := fun i hi => cat_le (fun i hi => by obtain ⟨_, l, _, _, h⟩ := hv i hi; exact ⟨l, h⟩) (K - i) i (by omega)
 obtain ⟨cnt, hcnt⟩ : ∃ f : Nat -> Nat, ∀ i, f i = (cat i).length := ⟨_, fun _ => rfl⟩
 have hc0 : cnt 0 = 0 := by rw [hcnt, h0]; rfl
 have hcK : ∀ i, i <= K -> cnt i <= cnt K := fun i hi => by rw [hcnt, hcnt]; exact hcl i hi
 rw [<- hcnt] at hl ⊢
 simp [hq]
 refine za6 (fun m T' H' => H' = H /\ T' 0 = .sl q 0 1 K K false /\ T' 9 = .sl q 0 1 K K false /\ T' 10 = .int .i64 K /\ ∃ i : Nat, i + m = K /\ T' 11 = .int .i64 i /\ T' 3 = .int .i64 (cnt i)) K ⟨rfl, by simp, by simp, by simp, 0, by simp, by simp, by simp [hc0]⟩ ?_
 rintro m T H1 ⟨rfl, t0, t9, t10, i, him, t11, t3⟩
 by_cases hi : i < K
 · have hii : (i : Int) < K := by omega
   obtain ⟨v, l, hvi, hvl, hcs⟩ := hv i hi
   have hat := take1 hvi
   have hal := hvl.alen
   have hf : cnt (i + 1) = cnt i + l.length := by rw [hcnt, hcs, List.length_append, hcnt]
   have hfl := hcK (i + 1) hi
   have w1 : IntKind.i64.wrap ((cnt i : Int) + l.length) = ((cnt (i + 1) : Nat) : Int) := by rw [IntWalk.i64_in _ (by omega)]; omega
   have w2 : IntKind.i64.wrap ((i : Int) + 1) = ((i + 1 : Nat) : Int) := by rw [IntWalk.i64_in _ (by omega)]; omega
   have c1 : ¬ ((cnt (i + 1) : Nat) : Int) < 0 := by omega
   have c2 : i <= vs.length := by omega
   simp [t0, t9, t10, t11, t3, hq, hal, w1, c1, hii, hi, hvi, c2, hvl.sc, hvl.cells, -alen]
   exact ⟨m - 1, by omega, i + 1, by omega, w2, rfl⟩
 obtain rfl : i = K := by omega
 obtain ⟨N, hN⟩ : ∃ N, N = cnt i := ⟨_, rfl⟩
 rw [<- hN] at t3 hl ⊢
 simp [t0, t9, t10, t11, t3, hq, -alen]
 refine zav (growV_does (n := N) (by omega) H1) ?_
 have hold : ∀ j x, H1.get j = some x -> j ≠ H1.next := fun j x hj => by have l := zac hw hj; omega
 rintro r H2 (⟨hN0, rfl, rfl⟩ | ⟨hN0, rfl, rfl⟩) hw2 _
 · simp [t0]
   refine za6 (fun m T' H' => H' = H2 /\ T' 25 = .sl q 0 1 i i false /\ T' 26 = .int .i64 i /\ T' 6 = .nilsl /\ ∃ k : Nat, k + m = i /\ T' 27 = .int .i64 k) i ⟨rfl, by simp, by simp, by simp, 0, by simp, by simp⟩ ?_
   rintro m T H1 ⟨rfl, t25, t26, t6, k, hkm, t27⟩
   by_cases hk : k < i
   · have hkk : (k : Int) < i := by omega
     obtain ⟨v, l, hvi, hvl, hcs⟩ := hv k hk
     have hat := take1 hvi
     have hf : cnt (k + 1) = cnt k + l.length := by rw [hcnt, hcs, List.length_append, hcnt]
     have hfl := hcK (k + 1) hk
     have hl0 : l.length = 0 := by omega
     have a1 := hvl.len
     have a2 := hvl.first0 hl0
     have a3 := hvl.sc
     have a4 := hvl.ni
     have c2 : k <= vs.length := by omega
     have w2 : IntKind.i64.wrap ((k : Int) + 1) = ((k + 1 : Nat) : Int) := by rw [IntWalk.i64_in _ (by omega)]; omega
     rw [hl0] at a1
     simp [t25, t26, t27, t6, hq, hkk, hk, hvi, c2, a1, a2, a3, hvl.cells, -zaK, -zbR]
     exact ⟨m - 1, by omega, k + 1, by omega, w2⟩
   · obtain rfl : k = i := by omega
     simp [t25, t26, t27, t6]
     exact List.length_eq_zero_iff.1 (by rw [<- hcnt]; omega)
 · simp [t0, -arep]
   have hq2 := hold _ _ hq
   refine za6 (fun m T' H' => T' 25 = .sl q 0 1 i i false /\ T' 26 = .int .i64 i /\ (∀ j x, H1.get j = some x -> H'.get j = some x) /\ ∃ k : Nat, k + m = i /\ T' 27 = .int .i64 k /\ T' 6 = .sl H1.next 0 5 (cnt k) N true /\ H'.get H1.next = some (.cells (zad (cat k) ++ (arep zV N).drop (cnt k * 5)))) i ?_ ?_
   · refine ⟨by simp, by simp, fun j x hj => ?_, 0, by simp, by simp, by simp [hc0], by simp [h0, hc0, zad, -arep]⟩
     simp [hold j x hj, hj]
   rintro m T H3 ⟨t25, t26, hs, k, hkm, t27, t6, hg⟩
   have hlk := zam (cat k)
   have hck := hcnt k
   by_cases hk : k < i
   · have hkk : (k : Int) < i := by omega
     obtain ⟨v, l, hvi, hvl, hcs⟩ := hv k hk
     have hat := take1 hvi
     have hf : cnt (k + 1) = cnt k + l.length := by rw [hcnt, hcs, List.length_append, hcnt]
     have hfl := hcK (k + 1) hk
     have a1 := hvl.len
     have a2 := hvl.first
     have a3 := hvl.sc
     have a4 := hvl.ni
     have c2 : k <= vs.length := by omega
     have w2 : IntKind.i64.wrap ((k : Int) + 1) = ((k + 1 : Nat) : Int) := by rw [IntWalk.i64_in _ (by omega)]; omega
     have hq3 := hs _ _ hq
     have k1 : cnt k + l.length <= N := by omega
     have ha : (arep zV N).length = N * 5 := by rw [zdS]; rfl
     have k2 : (cnt k + l.length) * 5 <= (cat k).length * 5 + ((arep zV N).length - cnt k * 5) := by rw [ha]; omega
     have k3 : List.take (cnt k * 5) (zad (cat k) ++ List.drop (cnt k * 5) (arep zV N)) = zad (cat k) := List.take_left' (by omega)
     have k4 : List.drop (cnt k * 5 + l.length * 5) (zad (cat k) ++ List.drop (cnt k * 5) (arep zV N)) = List.drop (cnt (k + 1) * 5) (arep zV N) := by
      rw [<- List.drop_drop, List.drop_left' (by omega), List.drop_drop]
      congr 1; omega
     simp [t25, t26, t27, t6, hq3, hg, hkk, hk, hvi, c2, a1, a2, a3, k1, hvl.cells, zhO, zam, k2, k3, k4, -arep, -zaK, -zbR]
     refine ⟨m - 1, by omega, fun j x hj => ?_, k + 1, by omega, w2, hf.symm, by rw [hcs, zau, List.append_assoc]⟩
     rw [if_neg (hold j x hj)]
     exact hs j x hj
   · obtain rfl : k = i := by omega
     simp [t25, t26, t27, t6]
     exact ⟨hs, H1.next, ⟨rfl, hN.symm⟩, Nat.le_refl _, ⟨_, hg⟩, hN0⟩
theorem vsV_pos {l : List Va} (h : 0 < l.length) : vsV l = .vsl (zad l) l.length := by
 unfold vsV
 rw [if_neg (by cases l <;> simp_all)]
theorem zeY {H : AHeap} {q K : Nat} {vs : List AV} (cat : Nat -> List Va) (h0 : cat 0 = []) (hv : ∀ i, i < K -> ∃ v l, vs[i]? = some v /\ VsA v l /\ cat (i + 1) = cat i ++ l) (hK : vs.length = K) (hq : H.get q = some (.cells vs)) (hl : (cat K).length <= 1000000) (hn : K <= 1000) :
  Does Tryz.prog G 140 [.sl q 0 1 K K false] H fun r h => r = vsV (cat K) /\ h = H := by
 refine Does.wfs fun hw _ => (zjB cat h0 hv hK hq hl hn).ghost fun r H1 ⟨hs, ht⟩ => ?_
 rcases ht with ⟨rfl, e⟩ | ⟨i, cap, op, junk, rfl, hi, hg, hpos⟩
 · exact ⟨_, H, Ghost.back hw rfl hs, by rw [e]; rfl, rfl⟩
 · have e1 : AV.frz i (zad (cat K) ++ junk) (.sl i 0 5 (cat K).length cap op) = .vsl (zad (cat K)) (cat K).length := by
    simp only [AV.frz, if_true, List.drop_zero]
    rw [List.take_left' (zam _)]
   refine ⟨_, H, (Ghost.frz hg).trans (Ghost.back hw ?_ (AHeap.frz_old hw hi hs)), by rw [e1]; exact (vsV_pos hpos).symm, rfl⟩
   rw [e1]
   simpa [AV.idLt] using zca _ _
def cat2 (a b : List Va) : Nat -> List Va
 | 0 => []
 | 1 => a
 | _ => a ++ b
def cat3 (a b c : List Va) : Nat -> List Va
 | 0 => []
 | 1 => a
 | 2 => a ++ b
 | _ => a ++ b ++ c
theorem zdt {H : AHeap} {q : Nat} {va vb : AV} {a b : List Va} (ha : VsA va a) (hb : VsA vb b) (hq : H.get q = some (.cells [va, vb])) (hl : a.length + b.length <= 1000000) :
  Does Tryz.prog G 140 [.sl q 0 1 2 2 false] H fun r h => r = vsV (a ++ b) /\ h = H :=
 zeY (K := 2) (cat2 a b) rfl (fun i hi => match i, hi with
  | 0, _ => ⟨va, a, rfl, ha, rfl⟩
  | 1, _ => ⟨vb, b, rfl, hb, rfl⟩) rfl hq (by simpa [cat2] using hl) (by omega)
theorem zi7 {H : AHeap} {q : Nat} {va vb vc : AV} {a b c : List Va} (ha : VsA va a) (hb : VsA vb b) (hc : VsA vc c) (hq : H.get q = some (.cells [va, vb, vc])) (hl : a.length + b.length + c.length <= 1000000) :
  Does Tryz.prog G 140 [.sl q 0 1 3 3 false] H fun r h => r = vsV (a ++ b ++ c) /\ h = H :=
 zeY (K := 3) (cat3 a b c) rfl (fun i hi => match i, hi with
  | 0, _ => ⟨va, a, rfl, ha, rfl⟩
  | 1, _ => ⟨vb, b, rfl, hb, rfl⟩
  | 2, _ => ⟨vc, c, rfl, hc, rfl⟩) rfl hq (by simp only [cat3, List.length_append]; omega) (by omega)
theorem zcE : ∀ {l : List Va} {i : Nat} {x : Va}, l[i]? = some x -> ((zad l).drop (i * 5)).take 5 = zar x
 | [], i, x, h => by simp at h
 | a :: l, 0, x, h => by simp at h; subst h; simp [zad, zar]
 | a :: l, i + 1, x, h => by
   have := zcE (l := l) (i := i) (x := x) (by simpa using h)
   rw [zad, show (i + 1) * 5 = 5 + i * 5 by omega, <- List.drop_drop, List.drop_left' (by rfl)]
   exact this
theorem VsA.at {v : AV} {l : List Va} (h : VsA v l) {i : Nat} {x : Va} (hx : l[i]? = some x) : ∃ cs, v = .vsl cs l.length /\ (cs.drop (i * 5)).take 5 = zar x /\ 5 <= cs.length - i * 5 := by
 rcases h with ⟨rfl, rfl⟩ | ⟨ts, ht, rfl⟩
 · simp at hx
 · have hlt := (List.getElem?_eq_some_iff.1 hx).1
   have hl := zam l
   refine ⟨_, rfl, ?_, by rw [List.length_append]; omega⟩
   rw [List.drop_append_of_le_length (by omega), List.take_append_of_le_length (by rw [List.length_drop]; omega)]
   exact zcE hx
theorem ixV_does {l : List Va} {v : AV} (hv : VsA v l) {g : FuncId} {cap : List AV} {H : AHeap} {p : Va -> Bool} (hlen : l.length <= 1000000) (hp : ∀ x ∈ l, Does Tryz.prog G g (.agg (zar x) :: cap) H fun r h => r = .bool (p x) /\ h = H) :
  Does Tryz.prog G 147 [v, .func (.func g) [] cap] H fun r h => r = .int .i64 (ixOf p l) /\ h = H := by
 refine zaf Tryz.call147 Tryz.func147 rfl (by simp [Tryz.f147]) ?_
 have hal := hv.alen
 have hsc := hv.sc
 simp [hal, -alen]
 refine za6 (fun m T' H' => H' = H /\ T' 0 = v /\ T' 1 = .func (.func g) [] cap /\ T' 7 = .int .i64 l.length /\ ∃ i : Nat, i + m = l.length /\ T' 8 = .int .i64 i /\ ∀ j x, j < i -> l[j]? = some x -> p x = false) l.length ⟨rfl, by simp, by simp, by simp, 0, by simp, by simp, fun j x h => absurd h (by omega)⟩ ?_
 rintro m T H1 ⟨rfl, t0, t1, t7, i, him, t8, hno⟩
 by_cases hi : i < l.length
 · have hii : (i : Int) < l.length := by omega
   obtain ⟨x, hx⟩ : ∃ x, l[i]? = some x := ⟨_, List.getElem?_eq_getElem hi⟩
   obtain ⟨cs, rfl, hat, h6⟩ := hv.at hx
   have hd := hp x (List.mem_of_getElem? hx)
   have wr : IntKind.i64.wrap ((i : Int) + 1) = ((i + 1 : Nat) : Int) := by rw [IntWalk.i64_in _ (by omega)]; omega
   simp [t0, t1, t7, t8, hii, hi, hat, h6]
   refine zaa hd ?_
   rintro r H2 ⟨rfl, rfl⟩
   cases hpx : p x with
   | true =>
     simp [t0, t1, t7, t8]
     exact (zbH hx hpx hno).symm
   | false =>
     simp [t0, t1, t7, t8]
     refine ⟨m - 1, by omega, i + 1, by omega, wr, fun j y hj hy => ?_⟩
     by_cases e : j = i
     · subst e; rw [hx] at hy; cases hy; exact hpx
     · exact hno j y (by omega) hy
 · obtain rfl : i = l.length := by omega
   simp [t0, t1, t7, t8]
   exact (zcg fun x hx => by
    obtain ⟨j, hj⟩ := List.mem_iff_getElem?.1 hx
    exact hno j x (List.getElem?_eq_some_iff.1 hj).1 hj).symm
theorem zfJ {l : List Va} {v : AV} (hv : VsA v l) {g : FuncId} {cap : List AV} {H : AHeap} {p : Va -> Bool} (hlen : l.length <= 1000000) (hp : ∀ x ∈ l, Does Tryz.prog G g (.agg (zar x) :: cap) H fun r h => r = .bool (p x) /\ h = H) :
  Does Tryz.prog G 114 [v, .func (.func g) [] cap] H fun r h => r = .bool (l.any p) /\ h = H := by
 refine zaf Tryz.call114 Tryz.func114 rfl (by simp [Tryz.f114]) ?_
 simp [hv.sc, hv.cells]
 refine zaa (ixV_does hv hlen hp) ?_
 rintro r H2 ⟨rfl, rfl⟩
 simp
 exact zfn p l
theorem kept {f : FuncId} {args : List AV} {H : AHeap} {v : AV} (hv : ∀ n, v.idLt n = true) (h : Does Tryz.prog G f args H fun r h => r = v /\ ∀ j x, H.get j = some x -> h.get j = some x) : Does Tryz.prog G f args H fun r h => r = v /\ h = H :=
 Does.forgot h fun _ _ r H1 ⟨h1, h2⟩ => ⟨h2, by rw [h1]; exact hv _, h1, rfl⟩
theorem keptR {f : FuncId} {args : List AV} {H : AHeap} {R : AV -> Prop} (hv : ∀ r n, R r -> r.idLt n = true) (h : Does Tryz.prog G f args H fun r h => R r /\ ∀ j x, H.get j = some x -> h.get j = some x) : Does Tryz.prog G f args H fun r h => R r /\ h = H :=
 Does.forgot h fun _ _ r H1 ⟨h1, h2⟩ => ⟨h2, hv _ _ h1, h1, rfl⟩
theorem off1 {H : AHeap} (hw : H.Wf) {x : AObj} {j : Nat} {y : AObj} (hj : H.get j = some y) : (if j = H.next then some x else H.get j) = some y := by
 have := (hw _ _ hj).1
 rw [if_neg (by omega)]; exact hj
theorem off2 {H : AHeap} (hw : H.Wf) {x x2 : AObj} {j : Nat} {y : AObj} (hj : H.get j = some y) : (if j = H.next + 1 then some x2 else if j = H.next then some x else H.get j) = some y := by
 have := (hw _ _ hj).1
 rw [if_neg (by omega), if_neg (by omega)]; exact hj
theorem zh1 {n : Nd} (hl : n.ins.length + n.outs.length + n.locals.length <= 1000000) (H : AHeap) : Does Tryz.prog G 146 [.agg (zah n)] H fun r h => r = vsV n.decl /\ h = H := by
 refine kept (fun m => zeM m _) (Does.wf Tryz.call146 fun hw _ => ?_)
 refine zaf Tryz.call146 Tryz.func146 rfl (by simp [Tryz.f146]) ?_
 simp [zah]
 refine zaa (zi7 (VsA.vsV n.ins) (VsA.vsV n.outs) (VsA.vsV n.locals) (by simp) hl) ?_
 rintro _ H2 ⟨rfl, rfl⟩
 simp
 exact ⟨by simp [Nd.decl], fun j x hj => off2 hw hj⟩
theorem find1_does {nm : Bs} {k : Nat} {H : AHeap} (hk : H.get k = some (.cells [.str nm])) (x : Va) : Does Tryz.prog G 148 [.agg (zar x), .ptr k 0] H fun r h => r = .bool (x.name == nm) /\ h = H := by
 refine kept (fun _ => rfl) (Does.wf Tryz.call148 fun hw _ => ?_)
 have e1 : k ≠ H.next := by have := (hw _ _ hk).1; omega
 refine zaf Tryz.call148 Tryz.func148 rfl (by simp [Tryz.f148]) ?_
 simp [hk, e1, zar]
 exact fun j x hj => off1 hw hj
theorem nes {j n : Nat} (h : j < n) : j ≠ n /\ j ≠ n + 1 /\ j ≠ n + 1 + 1 /\ j ≠ n + 1 + 1 + 1 /\ j ≠ n + 1 + 1 + 1 + 1 /\ j ≠ n + 1 + 1 + 1 + 1 + 1 := by omega
def va0 : Va := ⟨[], 0, [], false, 0⟩
def nlen (n : Nd) : Nat := n.ins.length + n.outs.length + n.locals.length
theorem decl_len (n : Nd) : n.decl.length = nlen n := by simp [Nd.decl, nlen]; omega
theorem zfL {n : Nd} (hl : nlen n <= 1000000) (nm : Bs) (H : AHeap) : Does Tryz.prog G 110 [.agg (zah n), .str nm] H fun r h => r = .tuple [.agg (zar ((findV n.decl nm).getD va0)), .bool (findV n.decl nm).isSome] /\ h = H := by
 refine kept (fun _ => rfl) (Does.wf Tryz.call110 fun hw _ => ?_)
 refine zaf Tryz.call110 Tryz.func110 rfl (by simp [Tryz.f110]) ?_
 have hd := fun H => zh1 (G := G) (n := n) hl H
 simp only [zah] at hd
 have f1 : ¬ H.next = H.next + 1 + 1 := by omega
 simp [zah, f1]
 refine zaa (hd _) ?_
 have hr := VsA.vsV n.decl
 rintro _ H2 ⟨rfl, rfl⟩
 simp [hr.sc, hr.cells]
 refine zaa (ixV_does (p := fun v => v.name == nm) hr (by rw [decl_len]; exact hl) fun x _ => find1_does (by simp) x) ?_
 rintro _ H2 ⟨rfl, rfl⟩
 have hf : findV n.decl nm = n.decl.find? fun v => v.name == nm := rfl
 rcases zb5 (fun v : Va => v.name == nm) n.decl with ⟨h1, h2⟩ | ⟨i, x, h1, h2, h3, h4⟩
 · simp [h1]
   refine ⟨⟨by rw [hf, h2]; rfl, by rw [hf, h2]⟩, fun j x hj => ?_⟩
   obtain ⟨e0, e1, e2, e3, _⟩ := nes (zac hw hj)
   simp [e0, e1, e2, e3, hj]
 · obtain ⟨cs, hcs, hat, h6⟩ := hr.at h2
   have hi := (List.getElem?_eq_some_iff.1 h2).1
   have c1 : ¬ (i : Int) < 0 := by omega
   have c2 : (i : Int) < n.decl.length := by omega
   simp only [zar] at hat
   simp [h1, c1, c2, hi, hcs, hat, h6]
   refine ⟨⟨by rw [hf, h3]; rfl, by rw [hf, h3]; rfl⟩, fun j x hj => ?_⟩
   obtain ⟨e0, e1, e2, e3, _⟩ := nes (zac hw hj)
   simp [e0, e1, e2, e3, hj]
end Go.Proofs.YtnejkhhnpbcmaaaGreatDoor
namespace Go.Abs
open Go Go.Lex
def mapC (S : List Bs) : List (AV × AV) := S.map fun nm => (.str nm, .bool true)
theorem afind_no {nm : Bs} : ∀ {S : List Bs} (i : Nat), S.contains nm = false -> afind .string (.str nm) (mapC S) i = some none
 | [], i, _ => rfl
 | a :: S, i, h => by
   simp only [List.contains_cons, Bool.or_eq_false_iff] at h
   have ha : (nm == a) = false := h.1
   show (match asame .string (.str nm) (.str a) with | some true => _ | some false => _ | none => _) = _
   simp only [asame, ha]
   exact afind_no (i + 1) h.2
theorem ziS {nm : Bs} : ∀ {S : List Bs} (i : Nat), S.contains nm = true -> ∃ j, afind .string (.str nm) (mapC S) i = some (some (i + j, .bool true)) /\ (mapC S).set j (.str nm, .bool true) = mapC S
 | [], i, h => by simp at h
 | a :: S, i, h => by
   by_cases ha : nm = a
   · subst ha
     refine ⟨0, ?_, rfl⟩
     show (match asame .string (.str nm) (.str nm) with | some true => _ | some false => _ | none => _) = _
     simp [asame]
   · have hb : (nm == a) = false := by simpa using ha
     simp only [List.contains_cons, hb, Bool.false_or] at h
     obtain ⟨j, h1, h2⟩ := ziS (i + 1) h
     refine ⟨j + 1, ?_, ?_⟩
     · show (match asame .string (.str nm) (.str a) with | some true => _ | some false => _ | none => _) = _
       simp only [asame, hb]
       refine h1.trans ?_
       congr 3; omega
     · show (AV.str a, AV.bool true) :: (mapC S).set j (.str nm, .bool true) = _
       rw [h2]; rfl
theorem zbx (S : List Bs) (nm : Bs) : mapC S ++ [(.str nm, .bool true)] = mapC (S ++ [nm]) := by simp [mapC]
theorem za8 {nm : Bs} {S : List Bs} : (S.contains nm = false /\ afind .string (.str nm) (mapC S) 0 = some none) \/ (S.contains nm = true /\ ∃ j, afind .string (.str nm) (mapC S) 0 = some (some (j, .bool true)) /\ (mapC S).set j (.str nm, .bool true) = mapC S) := by
 cases h : S.contains nm with
 | false => exact .inl ⟨rfl, afind_no 0 h⟩
 | true =>
   obtain ⟨j, h1, h2⟩ := ziS 0 h
   rw [Nat.zero_add] at h1
   exact .inr ⟨rfl, j, h1, h2⟩
@[simp] theorem cells_map (i : Nat) : (AV.map i).cells = [.map i] := rfl
@[simp] theorem scalar_map (i : Nat) : (AV.map i).scalar = true := rfl
end Go.Abs
namespace Go.Proofs.YtnejkhhnpbcmaaaGreatDoor
open Go Go.Abs Go.Lex Go.Syn
variable {G : Nat -> Option AV}
def ckC (lv : AV) (n : Nd) (sm : AV) : List AV := [lv, .str n.name, vsV n.ins, vsV n.outs, vsV n.locals, eqsV n.eqs, .int .i64 n.pos, sm]
def Told (ok : Bool) (r : AV) : Prop := ∃ z : Int, r = .int .i64 z /\ (ok = true -> z = -1) /\ (ok = false -> 0 <= z)
theorem decls_run {H : AHeap} {k : Nat} {lv sm : AV} {n : Nd} (hk : H.get k = some (.cells (ckC lv n sm))) (hl : nlen n <= 1000000) (hlv : lv.scalar = true) (hlc : lv.cells = [lv]) :
  Does Tryz.prog G 104 [.ptr k 0] H fun r h => Told (zbQ n).isSome r /\ (∀ S, zbQ n = some S -> ∃ m, H.next <= m /\ h.get k = some (.cells (ckC lv n (.map m))) /\ h.get m = some (.map (mapC S))) /\ ∀ j x, j ≠ k -> H.get j = some x -> h.get j = some x := by
 refine Does.wf Tryz.call104 fun hw _ => ?_
 have hkn := zac hw hk
 have e1 : k ≠ H.next := by omega
 have e2 : k ≠ H.next + 1 := by omega
 have e3 : ¬ H.next = k := by omega
 refine zaf Tryz.call104 Tryz.func104 rfl (by simp [Tryz.f104]) ?_
 simp [hk, e1, e2, e3, ckC]
 refine zak [(4, 0), (9, 0)] mixedOrders (by kernel_rfl) ?_
 intro es hes
 simp [hk, e1, e2, e3, hlv, hlc, -alen]
 refine ⟨_, _, zdt (VsA.vsV n.ins) (VsA.vsV n.outs) (by simp) (by unfold nlen at hl; omega), by simp, ?_⟩
 have hal := (VsA.vsV (n.ins ++ n.outs)).alen
 obtain ⟨io, hio⟩ : ∃ l, l = n.ins ++ n.outs := ⟨_, rfl⟩
 rw [<- hio] at hal ⊢
 simp [hal, -alen, rds, heapF, hk, e1, e2, e3]
 refine ⟨⟨by subst hes; kernel_rfl, by subst hes; kernel_rfl⟩, ?_⟩
 clear hes
 have hiol : io.length <= 1000000 := by rw [hio, List.length_append]; unfold nlen at hl; omega
 have hev := VsA.vsV io
 refine zai (fun m T' H' => ∃ (i : Nat) (S : List Bs), i + m = io.length /\ T' 0 = .ptr k 0 /\ T' 22 = vsV io /\ T' 23 = .int .i64 io.length /\ T' 24 = .int .i64 i /\ seeIO io [] = seeIO (io.drop i) S /\ H'.get k = some (.cells (ckC lv n (.map H.next))) /\ H'.get H.next = some (.map (mapC S)) /\ ∀ j x, j ≠ k -> H.get j = some x -> H'.get j = some x) io.length ?_ ?_
 · refine ⟨0, [], by simp, by simp, by simp, by simp, by simp, by simp, ?_, ?_, ?_⟩
   · simp [e1, e2, ckC]
   · simp [e1, e2, e3, mapC]
   · intro j x hjk hj
     obtain ⟨f0, f1, _⟩ := nes (zac hw hj)
     simp [f0, f1, hjk, hj]
 rintro m T H1 ⟨i, S, him, t0, t22, t23, t24, hS, hck, hm, hkp⟩ hw1 _
 by_cases hi : i < io.length
 · have hii : (i : Int) < io.length := by omega
   obtain ⟨x, hx⟩ : ∃ x, io[i]? = some x := ⟨_, List.getElem?_eq_getElem hi⟩
   obtain ⟨cs, hcs, hat, h6⟩ := hev.at hx
   have hdr : io.drop i = x :: io.drop (i + 1) := by
    rw [List.drop_eq_getElem_cons hi]
    rw [List.getElem?_eq_getElem hi] at hx
    simp only [Option.some.injEq] at hx
    rw [hx]
   have wr : IntKind.i64.wrap ((i : Int) + 1) = ((i + 1 : Nat) : Int) := by rw [IntWalk.i64_in _ (by omega)]; omega
   have g1 : k ≠ H1.next := by have := zac hw1 hck; omega
   have g2 : H.next ≠ H1.next := by have := zac hw1 hm; omega
   simp only [zar] at hat
   simp only [ckC] at hck
   simp [t0, t22, t23, t24, hii, hi, hcs, hat, h6]
   refine zaM mixedOrders (by kernel_rfl) ?_
   intro es hes
   rcases za8 (nm := x.name) (S := S) with ⟨hc, hf⟩ | ⟨hc, j, hf, hset⟩
   · simp [t0, t22, t23, t24, hck, hm, g1, g2, hf, -afind]
     refine ⟨by subst hes; kernel_rfl, ?_⟩
     clear hes
     refine zak [(3, 0), (5, 0)] mixedOrders (by kernel_rfl) ?_
     intro es hes
     simp [t0, t22, t23, t24, hck, hm, g1, g2, hf, rds, heapF, -afind]
     refine ⟨⟨by subst hes; kernel_rfl, by subst hes; kernel_rfl⟩, m - 1, by omega, i + 1, by omega, wr, S ++ [x.name], ?_, ?_, zbx _ _, ?_⟩
     · rw [hS, hdr, seeIO, if_neg (by simpa using hc)]
     · rw [if_neg e1]; rfl
     · intro j y hjk hj
       have l1 := zac hw hj
       have l2 := zac hw1 (hkp j y hjk hj)
       rw [if_neg (by omega), if_neg (by omega)]
       exact hkp j y hjk hj
   · simp [t0, t22, t23, t24, hck, hm, g1, g2, hf, -afind]
     refine ⟨by subst hes; kernel_rfl, ?_⟩
     clear hes
     have hdn : zbQ n = none := by
      unfold zbQ
      rw [<- hio, hS, hdr, seeIO, if_pos hc]
     refine ⟨⟨x.pos, rfl, fun h => by simp [hdn] at h, fun _ => by omega⟩, fun S h => by simp [hdn] at h, fun j y hjk hj => ?_⟩
     have l2 := zac hw1 (hkp j y hjk hj)
     rw [if_neg (by omega)]
     exact hkp j y hjk hj
 · obtain rfl : i = io.length := by omega
   have hS1 : seeIO io [] = some S := by rw [hS, List.drop_length]; rfl
   have hdec : zbQ n = seeL n.locals S := by
    unfold zbQ
    rw [<- hio, hS1]
   clear hS
   have hlo : n.locals.length <= 1000000 := by unfold nlen at hl; omega
   have hal2 := (VsA.vsV n.locals).alen
   have hev2 := VsA.vsV n.locals
   obtain ⟨lo, hloe⟩ : ∃ l, l = n.locals := ⟨_, rfl⟩
   simp only [ckC] at hck
   rw [<- hloe] at hdec hlo hal2 hev2 hck
   simp [t0, t22, t23, t24, hck, hal2, -alen]
   refine zai (fun m T' H' => ∃ (i : Nat) (S' : List Bs), i + m = lo.length /\ T' 0 = .ptr k 0 /\ T' 48 = vsV lo /\ T' 49 = .int .i64 lo.length /\ T' 50 = .int .i64 i /\ seeL lo S = seeL (lo.drop i) S' /\ H'.get k = some (.cells (ckC lv n (.map H.next))) /\ H'.get H.next = some (.map (mapC S')) /\ ∀ j x, j ≠ k -> H.get j = some x -> H'.get j = some x) lo.length ?_ ?_
   · refine ⟨0, S, by simp, by simp [t0], by simp, by simp, by simp, by simp, ?_, hm, hkp⟩
     rw [hck, hloe]; rfl
   rintro m2 T2 H2 ⟨i, S', him2, u0, u48, u49, u50, hS2, hck2, hm2, hkp2⟩ hw2 _
   by_cases hi2 : i < lo.length
   · have hii : (i : Int) < lo.length := by omega
     obtain ⟨x, hx⟩ : ∃ x, lo[i]? = some x := ⟨_, List.getElem?_eq_getElem hi2⟩
     obtain ⟨cs, hcs, hat, h6⟩ := hev2.at hx
     have hdr : lo.drop i = x :: lo.drop (i + 1) := by
      rw [List.drop_eq_getElem_cons hi2]
      rw [List.getElem?_eq_getElem hi2] at hx
      simp only [Option.some.injEq] at hx
      rw [hx]
     have wr : IntKind.i64.wrap ((i : Int) + 1) = ((i + 1 : Nat) : Int) := by rw [IntWalk.i64_in _ (by omega)]; omega
     have g1 : k ≠ H2.next := by have := zac hw2 hck2; omega
     have g2 : H.next ≠ H2.next := by have := zac hw2 hm2; omega
     simp only [zar] at hat
     simp only [ckC] at hck2
     -- the way out with a fault
     have hbad : seeL (x :: lo.drop (i + 1)) S' = none -> Told (zbQ n).isSome (.int .i64 x.pos) /\ zbQ n = none := fun hno => by
      have hdn : zbQ n = none := by rw [hdec, hS2, hdr, hno]
      exact ⟨⟨x.pos, rfl, fun h => by simp [hdn] at h, fun _ => by omega⟩, hdn⟩
     simp [u0, u48, u49, u50, hii, hi2, hcs, hat, h6]
     refine zaM mixedOrders (by kernel_rfl) ?_
     intro es hes
     rcases za8 (nm := x.name) (S := S') with ⟨hc, hf⟩ | ⟨hc, j, hf, hset⟩
     · by_cases hon : x.on = []
       · simp [u0, u48, u49, u50, hck2, hm2, g1, g2, hf, hon, -afind]
         refine ⟨by subst hes; kernel_rfl, ?_⟩
         clear hes
         refine zak [(3, 0), (5, 0)] mixedOrders (by kernel_rfl) ?_
         intro es hes
         simp [u0, u48, u49, u50, hck2, hm2, g1, g2, hf, rds, heapF, -afind]
         refine ⟨⟨by subst hes; kernel_rfl, by subst hes; kernel_rfl⟩, m2 - 1, by omega, i + 1, by omega, wr, S' ++ [x.name], ?_, ?_, zbx _ _, ?_⟩
         · rw [hS2, hdr, seeL, if_neg (by rw [hc]; simp [hon])]
         · rw [if_neg e1]; rfl
         · intro j y hjk hj
           have l1 := zac hw hj
           have l2 := zac hw2 (hkp2 j y hjk hj)
           rw [if_neg (by omega), if_neg (by omega)]
           exact hkp2 j y hjk hj
       · have hon2 : x.on.isEmpty = false := by simpa using hon
         rcases za8 (nm := x.on) (S := S') with ⟨hc2, hf2⟩ | ⟨hc2, j2, hf2, hset2⟩
         · simp [u0, u48, u49, u50, hck2, hm2, g1, g2, hf, hf2, hon, hon2, -afind]
           refine ⟨by subst hes; kernel_rfl, ?_⟩
           clear hes
           obtain ⟨b1, b2⟩ := hbad (by rw [seeL, if_pos (by rw [hc, hc2]; simp [hon])])
           refine ⟨b1, fun S h => by simp [b2] at h, fun j y hjk hj => ?_⟩
           have l2 := zac hw2 (hkp2 j y hjk hj)
           rw [if_neg (by omega)]
           exact hkp2 j y hjk hj
         · simp [u0, u48, u49, u50, hck2, hm2, g1, g2, hf, hf2, hon, hon2, -afind]
           refine ⟨by subst hes; kernel_rfl, ?_⟩
           clear hes
           refine zak [(3, 0), (5, 0)] mixedOrders (by kernel_rfl) ?_
           intro es hes
           simp [u0, u48, u49, u50, hck2, hm2, g1, g2, hf, rds, heapF, -afind]
           refine ⟨⟨by subst hes; kernel_rfl, by subst hes; kernel_rfl⟩, m2 - 1, by omega, i + 1, by omega, wr, S' ++ [x.name], ?_, ?_, zbx _ _, ?_⟩
           · rw [hS2, hdr, seeL, if_neg (by rw [hc, hc2]; simp)]
           · rw [if_neg e1]; rfl
           · intro j y hjk hj
             have l1 := zac hw hj
             have l2 := zac hw2 (hkp2 j y hjk hj)
             rw [if_neg (by omega), if_neg (by omega)]
             exact hkp2 j y hjk hj
     · simp [u0, u48, u49, u50, hck2, hm2, g1, g2, hf, -afind]
       refine ⟨by subst hes; kernel_rfl, ?_⟩
       clear hes
       obtain ⟨b1, b2⟩ := hbad (by rw [seeL, if_pos (by rw [hc]; rfl)])
       refine ⟨b1, fun S h => by simp [b2] at h, fun j y hjk hj => ?_⟩
       have l2 := zac hw2 (hkp2 j y hjk hj)
       rw [if_neg (by omega)]
       exact hkp2 j y hjk hj
   · obtain rfl : i = lo.length := by omega
     simp [u0, u48, u49, u50]
     have hd2 : zbQ n = some S' := by rw [hdec, hS2, List.drop_length]; rfl
     refine ⟨⟨-1, rfl, fun _ => rfl, fun h => by simp [hd2] at h⟩, fun S3 h => ?_, hkp2⟩
     rw [hd2] at h
     simp only [Option.some.injEq] at h
     subst h
     exact ⟨H.next, Nat.le_refl _, hck2, hm2⟩
def NsA (v : AV) (l : List Nd) : Prop := (v = .nilsl /\ l = []) \/ ∃ ts, (∀ n, AV.allLt n ts = true) /\ v = .vsl (zal l ++ ts) l.length
theorem NsA.sc {v : AV} {l : List Nd} (h : NsA v l) : v.scalar = true := by rcases h with ⟨rfl, rfl⟩ | ⟨ts, ht, rfl⟩ <;> rfl
theorem NsA.cells {v : AV} {l : List Nd} (h : NsA v l) : v.cells = [v] := by rcases h with ⟨rfl, rfl⟩ | ⟨ts, ht, rfl⟩ <;> rfl
theorem NsA.alen {v : AV} {l : List Nd} (h : NsA v l) : Abs.alen Tryz.prog 23 v = some (.int .i64 l.length) := by
 rcases h with ⟨rfl, rfl⟩ | ⟨ts, ht, rfl⟩ <;> simp [Abs.alen]
theorem zf9 : ∀ {l : List Nd} {i : Nat} {x : Nd}, l[i]? = some x -> ((zal l).drop (i * 6)).take 6 = zah x
 | [], i, x, h => by simp at h
 | a :: l, 0, x, h => by simp at h; subst h; simp [zal, zah]
 | a :: l, i + 1, x, h => by
   have := zf9 (l := l) (i := i) (x := x) (by simpa using h)
   rw [zal, show (i + 1) * 6 = 6 + i * 6 by omega, <- List.drop_drop, List.drop_left' (by rfl)]
   exact this
theorem NsA.at {v : AV} {l : List Nd} (h : NsA v l) {i : Nat} {x : Nd} (hx : l[i]? = some x) : ∃ cs, v = .vsl cs l.length /\ (cs.drop (i * 6)).take 6 = zah x /\ 6 <= cs.length - i * 6 := by
 rcases h with ⟨rfl, rfl⟩ | ⟨ts, ht, rfl⟩
 · simp at hx
 · have hlt := (List.getElem?_eq_some_iff.1 hx).1
   have hl := zaY l
   refine ⟨_, rfl, ?_, by rw [List.length_append]; omega⟩
   rw [List.drop_append_of_le_length (by omega), List.take_append_of_le_length (by rw [List.length_drop]; omega)]
   exact zf9 hx
theorem ixN_does {l : List Nd} {v : AV} (hv : NsA v l) {g : FuncId} {cap : List AV} {H : AHeap} {p : Nd -> Bool} (hlen : l.length <= 1000000) (hp : ∀ x ∈ l, Does Tryz.prog G g (.agg (zah x) :: cap) H fun r h => r = .bool (p x) /\ h = H) :
  Does Tryz.prog G 138 [v, .func (.func g) [] cap] H fun r h => r = .int .i64 (ixOf p l) /\ h = H := by
 refine zaf Tryz.call138 Tryz.func138 rfl (by simp [Tryz.f138]) ?_
 have hal := hv.alen
 have hsc := hv.sc
 simp [hal, -alen]
 refine za6 (fun m T' H' => H' = H /\ T' 0 = v /\ T' 1 = .func (.func g) [] cap /\ T' 7 = .int .i64 l.length /\ ∃ i : Nat, i + m = l.length /\ T' 8 = .int .i64 i /\ ∀ j x, j < i -> l[j]? = some x -> p x = false) l.length ⟨rfl, by simp, by simp, by simp, 0, by simp, by simp, fun j x h => absurd h (by omega)⟩ ?_
 rintro m T H1 ⟨rfl, t0, t1, t7, i, him, t8, hno⟩
 by_cases hi : i < l.length
 · have hii : (i : Int) < l.length := by omega
   obtain ⟨x, hx⟩ : ∃ x, l[i]? = some x := ⟨_, List.getElem?_eq_getElem hi⟩
   obtain ⟨cs, rfl, hat, h6⟩ := hv.at hx
   have hd := hp x (List.mem_of_getElem? hx)
   have wr : IntKind.i64.wrap ((i : Int) + 1) = ((i + 1 : Nat) : Int) := by rw [IntWalk.i64_in _ (by omega)]; omega
   simp [t0, t1, t7, t8, hii, hi, hat, h6]
   refine zaa hd ?_
   rintro r H2 ⟨rfl, rfl⟩
   cases hpx : p x with
   | true =>
     simp [t0, t1, t7, t8]
     exact (zbH hx hpx hno).symm
   | false =>
     simp [t0, t1, t7, t8]
     refine ⟨m - 1, by omega, i + 1, by omega, wr, fun j y hj hy => ?_⟩
     by_cases e : j = i
     · subst e; rw [hx] at hy; cases hy; exact hpx
     · exact hno j y (by omega) hy
 · obtain rfl : i = l.length := by omega
   simp [t0, t1, t7, t8]
   exact (zcg fun x hx => by
    obtain ⟨j, hj⟩ := List.mem_iff_getElem?.1 hx
    exact hno j x (List.getElem?_eq_some_iff.1 hj).1 hj).symm
theorem node1_does {nm : Bs} {k : Nat} {H : AHeap} (hk : H.get k = some (.cells [.str nm])) (x : Nd) : Does Tryz.prog G 139 [.agg (zah x), .ptr k 0] H fun r h => r = .bool (x.name == nm) /\ h = H := by
 refine kept (fun _ => rfl) (Does.wf Tryz.call139 fun hw _ => ?_)
 have e1 : k ≠ H.next := by have := (hw _ _ hk).1; omega
 refine zaf Tryz.call139 Tryz.func139 rfl (by simp [Tryz.f139]) ?_
 simp [hk, e1, zah]
 exact fun j x hj => off1 hw hj
theorem zgy {cs L : List AV} {a z j : Nat} {v : AV} (h : (cs.drop a).take z = L) (hv : L[j]? = some v) : cs[a + j]? = some v := by
 rw [<- h, List.getElem?_take] at hv
 split at hv
 · rw [List.getElem?_drop] at hv; exact hv
 · simp at hv
def zih (l : List Nd) (nm : Bs) : Int := ixOf (fun d : Nd => d.name == nm) l
theorem zcK {v : AV} {l : List Nd} (hv : NsA v l) (hl : l.length <= 1000000) (nm : Bs) (H : AHeap) : Does Tryz.prog G 103 [v, .str nm] H fun r h => r = .int .i64 (zih l nm) /\ h = H := by
 refine kept (fun _ => rfl) (Does.wf Tryz.call103 fun hw _ => ?_)
 refine zaf Tryz.call103 Tryz.func103 rfl (by simp [Tryz.f103]) ?_
 simp [hv.sc, hv.cells]
 refine zaa (ixN_does (p := fun d => d.name == nm) hv hl fun x _ => node1_does (by simp) x) ?_
 rintro _ H2 ⟨rfl, rfl⟩
 simp
 exact ⟨rfl, fun j x hj => off1 hw hj⟩
theorem zbT (l : List Va) : Abs.alen Tryz.prog 38 (vsV l) = some (.int .i64 l.length) := (VsA.vsV l).alen
theorem zbo (l : List Ex) : Abs.alen Tryz.prog 59 (kidsV l) = some (.int .i64 l.length) := by
 unfold kidsV
 split
 · rename_i h
   have : l = [] := by simpa using h
   subst this
   simp [Abs.alen]
 · simp [Abs.alen]
theorem call_does {H : AHeap} {k : Nat} {lv sm : AV} {n : Nd} {ah : List Nd} (hk : H.get k = some (.cells (ckC lv n sm))) (hv : NsA lv ah) (hl : ah.length <= 1000000) (op nm : Bs) (num pos : Nat) (ks : List Ex) :
  Does Tryz.prog G 169 [.ptr k 0, .agg (zas (.mk op nm num pos ks))] H fun r h => r = .bool (zdI ah nm ks.length) /\ h = H := by
 refine kept (fun _ => rfl) (Does.wf Tryz.call169 fun hw _ => ?_)
 have e1 : k ≠ H.next := by have := (hw _ _ hk).1; omega
 refine zaf Tryz.call169 Tryz.func169 rfl (by simp [Tryz.f169]) ?_
 rw [zab]
 simp only [ckC] at hk
 simp [hk, e1]
 refine zak [(3, 0), (5, 0)] mixedOrders (by kernel_rfl) ?_
 intro es hes
 simp [hk, e1, hv.sc, hv.cells]
 refine ⟨_, _, zcK hv hl nm _, Nat.le_refl _, ?_⟩
 simp [hk, e1, rds, heapF, hv.sc, hv.cells]
 refine ⟨⟨by subst hes; kernel_rfl, by subst hes; kernel_rfl⟩, ?_⟩
 clear hes
 refine zaM mixedOrders (by kernel_rfl) ?_
 intro es hes
 have hf : findN ah nm = ah.find? fun d => d.name == nm := rfl
 have hka := zbo ks
 unfold zih
 rcases zb5 (fun d : Nd => d.name == nm) ah with ⟨h1, h2⟩ | ⟨i, x, h1, h2, h3, h4⟩
 · simp [hk, e1, h1]
   refine ⟨by subst hes; kernel_rfl, ?_, fun j x hj => off1 hw hj⟩
   unfold zdI
   rw [hf, h2]
 · obtain ⟨cs, rfl, hat, h6⟩ := hv.at h2
   have hi := (List.getElem?_eq_some_iff.1 h2).1
   have c1 : (0 : Int) <= i := by omega
   have c2 : (i : Int) < ah.length := by omega
   have ho := zbT x.outs
   have hin := zbT x.ins
   have g2 : cs[i * 6 + 2]? = some (vsV x.outs) := zgy hat rfl
   have g1 : cs[i * 6 + 1]? = some (vsV x.ins) := zgy hat rfl
   have hco : zdI ah nm ks.length = (x.outs.length == 1 && x.ins.length == ks.length) := by
    unfold zdI
    rw [hf, h3]
   by_cases d1 : x.outs.length = 1
   · have d1' : (x.outs.length : Int) = 1 := by omega
     simp [hk, e1, h1, c1, c2, hi, ho, hin, hka, g1, g2, d1, d1', -alen]
     exact ⟨by subst hes; kernel_rfl, by
      rw [hco, d1]
      by_cases e : x.ins.length = ks.length
      · simp [e]
      · have : ¬ (x.ins.length : Int) = ks.length := by omega
        simp [e, this], fun j x hj => off1 hw hj⟩
   · have d1' : ¬ (x.outs.length : Int) = 1 := by omega
     simp [hk, e1, h1, c1, c2, hi, ho, hin, hka, g1, g2, d1, d1', -alen]
     exact ⟨by subst hes; kernel_rfl, by rw [hco]; simp [d1], fun j x hj => off1 hw hj⟩
def ExD (G : Nat -> Option AV) (ah : List Nd) (S : List Bs) (e : Ex) : Prop := ∀ (H : AHeap) (k m : Nat) (lv : AV) (n : Nd), H.get k = some (.cells (ckC lv n (.map m))) -> H.get m = some (.map (mapC S)) -> NsA lv ah ->
    Does Tryz.prog G 142 [.ptr k 0, .agg (zas e)] H fun r h => r = .int .i64 (atE ah S e) /\ h = H
theorem expr_step {ah : List Nd} {S : List Bs} (hl : ah.length <= 1000000) {op nm : Bs} {num pos : Nat} {ks : List Ex} (hlen : ks.length <= 1000000) (hK : ∀ e ∈ ks, ExD G ah S e) : ExD G ah S (.mk op nm num pos ks) := by
 intro H k m lv n hk hm hv
 refine kept (fun _ => rfl) (Does.wf Tryz.call142 fun hw _ => ?_)
 have e1 : k ≠ H.next := by have := (hw _ _ hk).1; omega
 have e2 : m ≠ H.next := by have := (hw _ _ hm).1; omega
 refine zaf Tryz.call142 Tryz.func142 rfl (by simp [Tryz.f142]) ?_
 have hcall := fun (H : AHeap) h => call_does (G := G) (H := H) (k := k) (n := n) (sm := .map m) h hv hl op nm num pos ks
 rw [zab] at hcall ⊢
 simp only [ckC] at hk hcall
 have hka := zbo ks
 have hne : op = sVar \/ op = sWhen \/ op = sMerge -> zbP ah S op nm ks.length = S.contains nm := fun h => by unfold zbP; rw [if_pos h]
 simp [hk, e1]
 by_cases c1 : op = sVar
 · have hh := hne (.inl c1)
   subst c1
   simp [sVar, sWhen, sMerge]
   refine zaM mixedOrders (by kernel_rfl) ?_
   intro es hes
   rcases za8 (nm := nm) (S := S) with ⟨hc, hf⟩ | ⟨hc, j, hf, hset⟩
   · simp [hk, hm, e1, e2, hf, -afind]
     refine ⟨by subst hes; kernel_rfl, ?_, fun j x hj => off1 hw hj⟩
     rw [hc] at hh
     rw [atE, hh]; rfl
   · simp [hk, hm, e1, e2, hf, hka, -afind, -alen]
     refine ⟨by subst hes; kernel_rfl, ?_⟩
     clear hes
     have hok : zbP ah S _ nm ks.length = true := hh.trans hc
     have hfin : atE ah S (.mk sVar nm num pos ks) = atEs ah S ks := by rw [atE, hok, if_pos rfl]
     refine zai (fun j T' H' => ∃ i : Nat, i + j = ks.length /\ T' 0 = .ptr k 0 /\ T' 32 = kidsV ks /\ T' 33 = .int .i64 ks.length /\ T' 34 = .int .i64 i /\ atEs ah S ks = atEs ah S (ks.drop i) /\ ∀ j x, H.get j = some x -> H'.get j = some x) ks.length ⟨0, by simp, by simp, by simp, by simp, by simp, by simp, fun j x hj => off1 hw hj⟩ ?_
     rintro j T H1 ⟨i, hij, t0, t32, t33, t34, hat0, hkp⟩ hw1 _
     by_cases hi : i < ks.length
     · have hii : (i : Int) < ks.length := by omega
       obtain ⟨x, hx⟩ : ∃ x, ks[i]? = some x := ⟨_, List.getElem?_eq_getElem hi⟩
       have hkv : kidsV ks = .vsl (zae ks) ks.length := by unfold kidsV; rw [if_neg (by cases ks <;> simp_all)]
       have hat := zb0 hx
       have hlen5 := zap ks
       have h5 : 5 <= (zae ks).length - i * 5 := by omega
       have hd := hK x (List.mem_of_getElem? hx)
       have hdr := zdv ah S hx
       have wr : IntKind.i64.wrap ((i : Int) + 1) = ((i + 1 : Nat) : Int) := by rw [IntWalk.i64_in _ (by omega)]; omega
       have f1 : k ≠ H1.next := by have := zac hw1 (hkp _ _ hk); omega
       have f2 : m ≠ H1.next := by have := zac hw1 (hkp _ _ hm); omega
       obtain ⟨op', nm', n', p', ks'⟩ := x
       simp only [zab] at hat
       have hd' := fun (H : AHeap) a b => hd H k m lv n a b hv
       simp only [zab, ckC] at hd'
       simp [t0, t32, t33, t34, hii, hi, hkv, hat, h5]
       refine zaa (hd' _ (by simp [f1, hkp _ _ hk]) (by simp [f2, hkp _ _ hm])) ?_
       rintro _ H2 ⟨rfl, rfl⟩
       by_cases hz : atE ah S (.mk op' nm' n' p' ks') = -1
       · simp [t0, t32, t33, t34, hz]
         refine ⟨j - 1, by omega, i + 1, by omega, wr, by rw [hat0, hdr, if_pos hz], fun y z hy => off1 hw1 (hkp _ _ hy)⟩
       · have hz2 : (atE ah S (.mk op' nm' n' p' ks') != -1) = true := by simpa using hz
         simp [t0, t32, t33, t34, hz2]
         refine ⟨?_, fun y z hy => off1 hw1 (hkp _ _ hy)⟩
         rw [hfin, hat0, hdr, if_neg hz]
     · obtain rfl : i = ks.length := by omega
       simp [t0, t32, t33, t34]
       refine ⟨?_, hkp⟩
       rw [hfin, hat0, List.drop_length]; rfl
 by_cases c2 : op = sWhen
 · have hh := hne (.inr (.inl c2))
   subst c2
   simp [sVar, sWhen, sMerge]
   refine zaM mixedOrders (by kernel_rfl) ?_
   intro es hes
   rcases za8 (nm := nm) (S := S) with ⟨hc, hf⟩ | ⟨hc, j, hf, hset⟩
   · simp [hk, hm, e1, e2, hf, -afind]
     refine ⟨by subst hes; kernel_rfl, ?_, fun j x hj => off1 hw hj⟩
     rw [hc] at hh
     rw [atE, hh]; rfl
   · simp [hk, hm, e1, e2, hf, hka, -afind, -alen]
     refine ⟨by subst hes; kernel_rfl, ?_⟩
     clear hes
     have hok : zbP ah S _ nm ks.length = true := hh.trans hc
     have hfin : atE ah S (.mk sWhen nm num pos ks) = atEs ah S ks := by rw [atE, hok, if_pos rfl]
     refine zai (fun j T' H' => ∃ i : Nat, i + j = ks.length /\ T' 0 = .ptr k 0 /\ T' 32 = kidsV ks /\ T' 33 = .int .i64 ks.length /\ T' 34 = .int .i64 i /\ atEs ah S ks = atEs ah S (ks.drop i) /\ ∀ j x, H.get j = some x -> H'.get j = some x) ks.length ⟨0, by simp, by simp, by simp, by simp, by simp, by simp, fun j x hj => off1 hw hj⟩ ?_
     rintro j T H1 ⟨i, hij, t0, t32, t33, t34, hat0, hkp⟩ hw1 _
     by_cases hi : i < ks.length
     · have hii : (i : Int) < ks.length := by omega
       obtain ⟨x, hx⟩ : ∃ x, ks[i]? = some x := ⟨_, List.getElem?_eq_getElem hi⟩
       have hkv : kidsV ks = .vsl (zae ks) ks.length := by unfold kidsV; rw [if_neg (by cases ks <;> simp_all)]
       have hat := zb0 hx
       have hlen5 := zap ks
       have h5 : 5 <= (zae ks).length - i * 5 := by omega
       have hd := hK x (List.mem_of_getElem? hx)
       have hdr := zdv ah S hx
       have wr : IntKind.i64.wrap ((i : Int) + 1) = ((i + 1 : Nat) : Int) := by rw [IntWalk.i64_in _ (by omega)]; omega
       have f1 : k ≠ H1.next := by have := zac hw1 (hkp _ _ hk); omega
       have f2 : m ≠ H1.next := by have := zac hw1 (hkp _ _ hm); omega
       obtain ⟨op', nm', n', p', ks'⟩ := x
       simp only [zab] at hat
       have hd' := fun (H : AHeap) a b => hd H k m lv n a b hv
       simp only [zab, ckC] at hd'
       simp [t0, t32, t33, t34, hii, hi, hkv, hat, h5]
       refine zaa (hd' _ (by simp [f1, hkp _ _ hk]) (by simp [f2, hkp _ _ hm])) ?_
       rintro _ H2 ⟨rfl, rfl⟩
       by_cases hz : atE ah S (.mk op' nm' n' p' ks') = -1
       · simp [t0, t32, t33, t34, hz]
         refine ⟨j - 1, by omega, i + 1, by omega, wr, by rw [hat0, hdr, if_pos hz], fun y z hy => off1 hw1 (hkp _ _ hy)⟩
       · have hz2 : (atE ah S (.mk op' nm' n' p' ks') != -1) = true := by simpa using hz
         simp [t0, t32, t33, t34, hz2]
         refine ⟨?_, fun y z hy => off1 hw1 (hkp _ _ hy)⟩
         rw [hfin, hat0, hdr, if_neg hz]
     · obtain rfl : i = ks.length := by omega
       simp [t0, t32, t33, t34]
       refine ⟨?_, hkp⟩
       rw [hfin, hat0, List.drop_length]; rfl
 by_cases c3 : op = sMerge
 · have hh := hne (.inr (.inr c3))
   subst c3
   simp [sVar, sWhen, sMerge]
   refine zaM mixedOrders (by kernel_rfl) ?_
   intro es hes
   rcases za8 (nm := nm) (S := S) with ⟨hc, hf⟩ | ⟨hc, j, hf, hset⟩
   · simp [hk, hm, e1, e2, hf, -afind]
     refine ⟨by subst hes; kernel_rfl, ?_, fun j x hj => off1 hw hj⟩
     rw [hc] at hh
     rw [atE, hh]; rfl
   · simp [hk, hm, e1, e2, hf, hka, -afind, -alen]
     refine ⟨by subst hes; kernel_rfl, ?_⟩
     clear hes
     have hok : zbP ah S _ nm ks.length = true := hh.trans hc
     have hfin : atE ah S (.mk sMerge nm num pos ks) = atEs ah S ks := by rw [atE, hok, if_pos rfl]
     refine zai (fun j T' H' => ∃ i : Nat, i + j = ks.length /\ T' 0 = .ptr k 0 /\ T' 32 = kidsV ks /\ T' 33 = .int .i64 ks.length /\ T' 34 = .int .i64 i /\ atEs ah S ks = atEs ah S (ks.drop i) /\ ∀ j x, H.get j = some x -> H'.get j = some x) ks.length ⟨0, by simp, by simp, by simp, by simp, by simp, by simp, fun j x hj => off1 hw hj⟩ ?_
     rintro j T H1 ⟨i, hij, t0, t32, t33, t34, hat0, hkp⟩ hw1 _
     by_cases hi : i < ks.length
     · have hii : (i : Int) < ks.length := by omega
       obtain ⟨x, hx⟩ : ∃ x, ks[i]? = some x := ⟨_, List.getElem?_eq_getElem hi⟩
       have hkv : kidsV ks = .vsl (zae ks) ks.length := by unfold kidsV; rw [if_neg (by cases ks <;> simp_all)]
       have hat := zb0 hx
       have hlen5 := zap ks
       have h5 : 5 <= (zae ks).length - i * 5 := by omega
       have hd := hK x (List.mem_of_getElem? hx)
       have hdr := zdv ah S hx
       have wr : IntKind.i64.wrap ((i : Int) + 1) = ((i + 1 : Nat) : Int) := by rw [IntWalk.i64_in _ (by omega)]; omega
       have f1 : k ≠ H1.next := by have := zac hw1 (hkp _ _ hk); omega
       have f2 : m ≠ H1.next := by have := zac hw1 (hkp _ _ hm); omega
       obtain ⟨op', nm', n', p', ks'⟩ := x
       simp only [zab] at hat
       have hd' := fun (H : AHeap) a b => hd H k m lv n a b hv
       simp only [zab, ckC] at hd'
       simp [t0, t32, t33, t34, hii, hi, hkv, hat, h5]
       refine zaa (hd' _ (by simp [f1, hkp _ _ hk]) (by simp [f2, hkp _ _ hm])) ?_
       rintro _ H2 ⟨rfl, rfl⟩
       by_cases hz : atE ah S (.mk op' nm' n' p' ks') = -1
       · simp [t0, t32, t33, t34, hz]
         refine ⟨j - 1, by omega, i + 1, by omega, wr, by rw [hat0, hdr, if_pos hz], fun y z hy => off1 hw1 (hkp _ _ hy)⟩
       · have hz2 : (atE ah S (.mk op' nm' n' p' ks') != -1) = true := by simpa using hz
         simp [t0, t32, t33, t34, hz2]
         refine ⟨?_, fun y z hy => off1 hw1 (hkp _ _ hy)⟩
         rw [hfin, hat0, hdr, if_neg hz]
     · obtain rfl : i = ks.length := by omega
       simp [t0, t32, t33, t34]
       refine ⟨?_, hkp⟩
       rw [hfin, hat0, List.drop_length]; rfl
 by_cases c4 : op = sCall
 · have hh : zbP ah S op nm ks.length = zdI ah nm ks.length := by unfold zbP; rw [if_neg (by simp [c1, c2, c3]), if_pos c4]
   subst c4
   simp [sCall, hk, e1]
   refine zaa (hcall _ (by simp [hk, e1])) ?_
   rintro _ H2 ⟨rfl, rfl⟩
   cases hc : zdI ah nm ks.length with
   | false =>
     simp [hk, e1]
     refine ⟨?_, fun j x hj => off1 hw hj⟩
     rw [hc] at hh
     rw [atE, hh]; rfl
   | true =>
     have hok : zbP ah S sCall nm ks.length = true := hh.trans hc
     simp [hk, e1, hka, -alen]
     have hfin : atE ah S (.mk sCall nm num pos ks) = atEs ah S ks := by rw [atE, hok, if_pos rfl]
     refine zai (fun j T' H' => ∃ i : Nat, i + j = ks.length /\ T' 0 = .ptr k 0 /\ T' 32 = kidsV ks /\ T' 33 = .int .i64 ks.length /\ T' 34 = .int .i64 i /\ atEs ah S ks = atEs ah S (ks.drop i) /\ ∀ j x, H.get j = some x -> H'.get j = some x) ks.length ⟨0, by simp, by simp, by simp, by simp, by simp, by simp, fun j x hj => off1 hw hj⟩ ?_
     rintro j T H1 ⟨i, hij, t0, t32, t33, t34, hat0, hkp⟩ hw1 _
     by_cases hi : i < ks.length
     · have hii : (i : Int) < ks.length := by omega
       obtain ⟨x, hx⟩ : ∃ x, ks[i]? = some x := ⟨_, List.getElem?_eq_getElem hi⟩
       have hkv : kidsV ks = .vsl (zae ks) ks.length := by unfold kidsV; rw [if_neg (by cases ks <;> simp_all)]
       have hat := zb0 hx
       have hlen5 := zap ks
       have h5 : 5 <= (zae ks).length - i * 5 := by omega
       have hd := hK x (List.mem_of_getElem? hx)
       have hdr := zdv ah S hx
       have wr : IntKind.i64.wrap ((i : Int) + 1) = ((i + 1 : Nat) : Int) := by rw [IntWalk.i64_in _ (by omega)]; omega
       have f1 : k ≠ H1.next := by have := zac hw1 (hkp _ _ hk); omega
       have f2 : m ≠ H1.next := by have := zac hw1 (hkp _ _ hm); omega
       obtain ⟨op', nm', n', p', ks'⟩ := x
       simp only [zab] at hat
       have hd' := fun (H : AHeap) a b => hd H k m lv n a b hv
       simp only [zab, ckC] at hd'
       simp [t0, t32, t33, t34, hii, hi, hkv, hat, h5]
       refine zaa (hd' _ (by simp [f1, hkp _ _ hk]) (by simp [f2, hkp _ _ hm])) ?_
       rintro _ H2 ⟨rfl, rfl⟩
       by_cases hz : atE ah S (.mk op' nm' n' p' ks') = -1
       · simp [t0, t32, t33, t34, hz]
         refine ⟨j - 1, by omega, i + 1, by omega, wr, by rw [hat0, hdr, if_pos hz], fun y z hy => off1 hw1 (hkp _ _ hy)⟩
       · have hz2 : (atE ah S (.mk op' nm' n' p' ks') != -1) = true := by simpa using hz
         simp [t0, t32, t33, t34, hz2]
         refine ⟨?_, fun y z hy => off1 hw1 (hkp _ _ hy)⟩
         rw [hfin, hat0, hdr, if_neg hz]
     · obtain rfl : i = ks.length := by omega
       simp [t0, t32, t33, t34]
       refine ⟨?_, hkp⟩
       rw [hfin, hat0, List.drop_length]; rfl
 have hok : zbP ah S op nm ks.length = true := by unfold zbP; rw [if_neg (by simp [c1, c2, c3]), if_neg c4]
 have d1 : (op == ([118, 97, 114] : Bs)) = false := by simpa [sVar] using c1
 have d2 : (op == ([119, 104, 101, 110] : Bs)) = false := by simpa [sWhen] using c2
 have d3 : (op == ([109, 101, 114, 103, 101] : Bs)) = false := by simpa [sMerge] using c3
 have d4 : (op == ([99, 97, 108, 108] : Bs)) = false := by simpa [sCall] using c4
 simp [d1, d2, d3, d4, hk, e1, hka, -alen]
 have hfin : atE ah S (.mk op nm num pos ks) = atEs ah S ks := by rw [atE, hok, if_pos rfl]
 refine zai (fun j T' H' => ∃ i : Nat, i + j = ks.length /\ T' 0 = .ptr k 0 /\ T' 32 = kidsV ks /\ T' 33 = .int .i64 ks.length /\ T' 34 = .int .i64 i /\ atEs ah S ks = atEs ah S (ks.drop i) /\ ∀ j x, H.get j = some x -> H'.get j = some x) ks.length ⟨0, by simp, by simp, by simp, by simp, by simp, by simp, fun j x hj => off1 hw hj⟩ ?_
 rintro j T H1 ⟨i, hij, t0, t32, t33, t34, hat0, hkp⟩ hw1 _
 by_cases hi : i < ks.length
 · have hii : (i : Int) < ks.length := by omega
   obtain ⟨x, hx⟩ : ∃ x, ks[i]? = some x := ⟨_, List.getElem?_eq_getElem hi⟩
   have hkv : kidsV ks = .vsl (zae ks) ks.length := by unfold kidsV; rw [if_neg (by cases ks <;> simp_all)]
   have hat := zb0 hx
   have hlen5 := zap ks
   have h5 : 5 <= (zae ks).length - i * 5 := by omega
   have hd := hK x (List.mem_of_getElem? hx)
   have hdr := zdv ah S hx
   have wr : IntKind.i64.wrap ((i : Int) + 1) = ((i + 1 : Nat) : Int) := by rw [IntWalk.i64_in _ (by omega)]; omega
   have f1 : k ≠ H1.next := by have := zac hw1 (hkp _ _ hk); omega
   have f2 : m ≠ H1.next := by have := zac hw1 (hkp _ _ hm); omega
   obtain ⟨op', nm', n', p', ks'⟩ := x
   simp only [zab] at hat
   have hd' := fun (H : AHeap) a b => hd H k m lv n a b hv
   simp only [zab, ckC] at hd'
   simp [t0, t32, t33, t34, hii, hi, hkv, hat, h5]
   refine zaa (hd' _ (by simp [f1, hkp _ _ hk]) (by simp [f2, hkp _ _ hm])) ?_
   rintro _ H2 ⟨rfl, rfl⟩
   by_cases hz : atE ah S (.mk op' nm' n' p' ks') = -1
   · simp [t0, t32, t33, t34, hz]
     refine ⟨j - 1, by omega, i + 1, by omega, wr, by rw [hat0, hdr, if_pos hz], fun y z hy => off1 hw1 (hkp _ _ hy)⟩
   · have hz2 : (atE ah S (.mk op' nm' n' p' ks') != -1) = true := by simpa using hz
     simp [t0, t32, t33, t34, hz2]
     refine ⟨?_, fun y z hy => off1 hw1 (hkp _ _ hy)⟩
     rw [hfin, hat0, hdr, if_neg hz]
 · obtain rfl : i = ks.length := by omega
   simp [t0, t32, t33, t34]
   refine ⟨?_, hkp⟩
   rw [hfin, hat0, List.drop_length]; rfl
theorem expr_does {ah : List Nd} {S : List Bs} (hl : ah.length <= 1000000) : ∀ e : Ex, e.wt <= 1000000 -> ExD G ah S e :=
 fun e he => zer (P := fun e => e.wt <= 1000000 -> ExD G ah S e) (fun op nm n pos ks ih hw => by
  rw [Ex.wt] at hw
  have := zcw ks
  exact expr_step hl (by omega) fun k hk => ih k hk (by have := zcn hk; omega)) e he
theorem any_name (l : List Va) (nm : Bs) : (l.any fun v => v.name == nm) = (l.map Va.name).contains nm := by
 induction l with
 | nil => rfl
 | cons v l ih =>
   rw [List.any_cons, List.map_cons, List.contains_cons, ih]
   congr 1
   exact Bool.eq_iff_iff.2 (by rw [beq_iff_eq, beq_iff_eq]; exact eq_comm)
theorem eqs1_does {q : Eqn} {k : Nat} {H : AHeap} (hk : H.get k = some (.cells (zao q))) (x : Va) : Does Tryz.prog G 141 [.agg (zar x), .ptr k 0] H fun r h => r = .bool (x.name == q.name) /\ h = H := by
 refine kept (fun _ => rfl) (Does.wf Tryz.call141 fun hw _ => ?_)
 have e1 : k ≠ H.next := by have := (hw _ _ hk).1; omega
 obtain ⟨qn, ⟨op, nm, num, pos, ks⟩, qp⟩ := q
 simp only [zao, zab] at hk
 refine zaf Tryz.call141 Tryz.func141 rfl (by simp [Tryz.f141]) ?_
 simp [hk, e1, zar]
 exact fun j x hj => off1 hw hj
theorem zcj (l : List Eqn) : Abs.alen Tryz.prog 39 (eqsV l) = some (.int .i64 l.length) := by
 unfold eqsV
 split
 · rename_i h
   have : l = [] := by simpa using h
   subst this
   simp [Abs.alen]
 · simp [Abs.alen]
theorem zcs {l : List Eqn} {i : Nat} (h : i < l.length) : eqsV l = .vsl (zag l) l.length := by
 unfold eqsV
 rw [if_neg (by cases l <;> simp_all)]
theorem zcQ : ∀ {l : List Eqn} {i : Nat} {x : Eqn}, l[i]? = some x -> ((zag l).drop (i * 7)).take 7 = zao x
 | [], i, x, h => by simp at h
 | a :: l, 0, x, h => by
   simp at h; subst h
   obtain ⟨qn, ⟨op, nm, num, pos, ks⟩, qp⟩ := a
   simp [zag, zao, zab]
 | a :: l, i + 1, x, h => by
   have := zcQ (l := l) (i := i) (x := x) (by simpa using h)
   rw [zag, show (i + 1) * 7 = 7 + i * 7 by omega, <- List.drop_drop, List.drop_left' (zaZ a)]
   exact this
theorem eqsF_drop {ah : List Nd} {S own : List Bs} {l : List Eqn} {i : Nat} {q : Eqn} (h : l[i]? = some q) (D : List Bs) : eqsF ah S own (l.drop i) D = if D.contains q.name || !own.contains q.name then none else if okE ah S q.e then eqsF ah S own (l.drop (i + 1)) (D ++ [q.name]) else none := by
 have hlt := (List.getElem?_eq_some_iff.1 h).1
 rw [List.getElem?_eq_getElem hlt] at h
 simp only [Option.some.injEq] at h
 rw [List.drop_eq_getElem_cons hlt, h, eqsF]
theorem eqs_does {H : AHeap} {k m : Nat} {lv : AV} {n : Nd} {ah : List Nd} {S : List Bs} (hk : H.get k = some (.cells (ckC lv n (.map m)))) (hm : H.get m = some (.map (mapC S))) (hv : NsA lv ah) (hl : ah.length <= 1000000) (hn : nlen n <= 1000000) (hq : n.eqs.length <= 1000000) (hw8 : ∀ q ∈ n.eqs, q.e.wt <= 1000000) :
  Does Tryz.prog G 105 [.ptr k 0] H fun r h => Told (eqsOk ah S n) r /\ h = H := by
 refine keptR (fun r n h => by obtain ⟨z, rfl, _⟩ := h; rfl) (Does.wf Tryz.call105 fun hw _ => ?_)
 have e1 : k ≠ H.next := by have := (hw _ _ hk).1; omega
 have e2 : m ≠ H.next := by have := (hw _ _ hm).1; omega
 have e3 : k ≠ H.next + 1 := by have := (hw _ _ hk).1; omega
 have e4 : m ≠ H.next + 1 := by have := (hw _ _ hm).1; omega
 refine zaf Tryz.call105 Tryz.func105 rfl (by simp [Tryz.f105]) ?_
 simp only [ckC] at hk
 simp [hk, e1]
 refine zak [(4, 0), (9, 0)] mixedOrders (by kernel_rfl) ?_
 intro es hes
 simp [hk, e1, -alen]
 refine ⟨_, _, zdt (VsA.vsV n.outs) (VsA.vsV n.locals) (by simp) (by unfold nlen at hn; omega), by simp, ?_⟩
 have how : n.outs ++ n.locals = n.own := rfl
 rw [how]
 have hal := zcj n.eqs
 simp [hk, e1, e3, rds, heapF, hal, -alen]
 refine ⟨⟨by subst hes; kernel_rfl, by subst hes; kernel_rfl⟩, ?_⟩
 clear hes
 have hov := VsA.vsV n.own
 have hol : n.own.length <= 1000000 := by rw [<- how, List.length_append]; unfold nlen at hn; omega
 obtain ⟨md, hmd⟩ : ∃ md, md = H.next + 1 := ⟨_, rfl⟩
 -- the end, by what was done
 have hbad : ∀ {z : Int}, 0 <= z -> eqsF ah S (n.own.map Va.name) n.eqs [] = none -> Told (eqsOk ah S n) (.int .i64 z) := fun {z} hz h => by
  have : eqsOk ah S n = false := by unfold eqsOk; rw [h]
  exact ⟨z, rfl, fun h => by simp [this] at h, fun _ => hz⟩
 refine zai (fun j T' H' => ∃ (i : Nat) (D : List Bs), i + j = n.eqs.length /\ T' 0 = .ptr k 0 /\ T' 3 = vsV n.own /\ T' 4 = .map md /\ T' 27 = eqsV n.eqs /\ T' 28 = .int .i64 n.eqs.length /\ T' 29 = .int .i64 i /\ eqsF ah S (n.own.map Va.name) n.eqs [] = eqsF ah S (n.own.map Va.name) (n.eqs.drop i) D /\ H'.get md = some (.map (mapC D)) /\ ∀ j x, H.get j = some x -> H'.get j = some x) n.eqs.length ⟨0, [], by simp, by simp, by simp, by simp [hmd], by simp, by simp, by simp, by simp, by simp [hmd, mapC], fun j x hj => off2 hw hj⟩ ?_
 rintro j T H1 ⟨i, D, hij, t0, t3, t4, t27, t28, t29, hD, hmp, hkp⟩ hw1 _
 have hk1 := hkp _ _ hk
 have hm1 := hkp _ _ hm
 by_cases hi : i < n.eqs.length
 · have hii : (i : Int) < n.eqs.length := by omega
   obtain ⟨x, hx⟩ : ∃ x, n.eqs[i]? = some x := ⟨_, List.getElem?_eq_getElem hi⟩
   have hxm := List.mem_of_getElem? hx
   have hat := zcQ hx
   have hpv := zcs hi
   have hlen7 := zaq n.eqs
   have h7 : 7 <= (zag n.eqs).length - i * 7 := by omega
   have hdr := eqsF_drop (ah := ah) (S := S) (own := n.own.map Va.name) hx D
   have wr : IntKind.i64.wrap ((i : Int) + 1) = ((i + 1 : Nat) : Int) := by rw [IntWalk.i64_in _ (by omega)]; omega
   have f1 : k ≠ H1.next := by have := zac hw1 hk1; omega
   have f2 : m ≠ H1.next := by have := zac hw1 hm1; omega
   have f3 : md ≠ H1.next := by have := zac hw1 hmp; omega
   have f4 : md ≠ k := by have := zac hw hk; omega
   have f5 : md ≠ m := by have := zac hw hm; omega
   have hds := fun (H : AHeap) a b => expr_does (G := G) (S := S) hl x.e (hw8 x hxm) H k m lv n a b hv
   have hcl := fun (H : AHeap) (kq : Nat) h => zfJ (G := G) (g := 141) (cap := [.ptr kq 0]) (H := H) (p := fun v => v.name == x.name) hov hol fun v _ => eqs1_does h v
   obtain ⟨qn, ⟨op, nm, num, pos, ks⟩, qp⟩ := x
   simp only [zao, zab, ckC, List.cons_append, List.nil_append] at hat hds hcl
   simp [t0, t3, t4, t27, t28, t29, hii, hi, hpv, hat, h7]
   rcases za8 (nm := qn) (S := D) with ⟨hc, hf⟩ | ⟨hc, j2, hf, hset⟩
   · simp [t0, t3, t4, hmp, f3, hf, hov.sc, hov.cells, -afind]
     refine zaa (hcl _ _ (by simp)) ?_
     rintro _ H2 ⟨rfl, rfl⟩
     have han := any_name n.own qn
     cases ha : (n.own.any fun v => v.name == qn) with
     | false =>
       rw [ha] at han
       simp [t0, t3, t4, hmp, f3, hf, -afind]
       refine ⟨hbad (by omega) ?_, fun y z hy => off1 hw1 (hkp _ _ hy)⟩
       rw [hD, hdr, hc, <- han]; rfl
     | true =>
       rw [ha] at han
       simp [t0, t3, t4, hmp, f3, Ne.symm f3, hf, -afind]
       refine zaa (hds _ ?h1 ?h2) ?_
       case h1 => simp [f1, Ne.symm f4, hk1]
       case h2 => simp [f2, Ne.symm f5, hm1]
       rintro _ H2 ⟨rfl, rfl⟩
       obtain ⟨ok1, ok2⟩ := atE_ok ah S (.mk op nm num pos ks)
       cases hok : okE ah S (.mk op nm num pos ks) with
       | false =>
         have hz := ok2 hok
         have hz2 : (atE ah S (.mk op nm num pos ks) != -1) = true := by simp; omega
         simp [t0, t3, t4, hz2]
         refine ⟨hbad hz ?_, fun y z hy => ?_⟩
         · rw [hD, hdr, hc, <- han, hok]; rfl
         · have l1 := zac hw hy
           have l2 := zac hw1 (hkp _ _ hy)
           rw [if_neg (by omega), if_neg (by omega)]
           exact hkp _ _ hy
       | true =>
         have hz := ok1 hok
         simp [t0, t3, t4, t27, t28, t29, hz]
         refine ⟨j - 1, by omega, i + 1, by omega, wr, D ++ [qn], ?_, zbx _ _, fun y z hy => ?_⟩
         · rw [hD, hdr, hc, <- han, hok]; rfl
         · have l1 := zac hw hy
           have l2 := zac hw1 (hkp _ _ hy)
           rw [if_neg (by omega), if_neg (by omega)]
           exact hkp _ _ hy
   · simp [t0, t3, t4, hmp, f3, hf, -afind]
     refine ⟨hbad (by omega) ?_, fun y z hy => off1 hw1 (hkp _ _ hy)⟩
     rw [hD, hdr, hc]; rfl
 · obtain rfl : i = n.eqs.length := by omega
   have hD1 : eqsF ah S (n.own.map Va.name) n.eqs [] = some D := by rw [hD, List.drop_length]; rfl
   have hok : eqsOk ah S n = n.own.all fun v => D.contains v.name := by unfold eqsOk; rw [hD1]
   clear hD
   have hal2 := hov.alen
   simp [t0, t3, t4, t27, t28, t29, hal2, -alen]
   refine zai (fun j T' H' => ∃ i : Nat, i + j = n.own.length /\ T' 4 = .map md /\ T' 56 = vsV n.own /\ T' 57 = .int .i64 n.own.length /\ T' 58 = .int .i64 i /\ (n.own.all fun v => D.contains v.name) = ((n.own.drop i).all fun v => D.contains v.name) /\ H'.get md = some (.map (mapC D)) /\ ∀ j x, H.get j = some x -> H'.get j = some x) n.own.length ⟨0, by simp, by simp [t4], by simp, by simp, by simp, by simp, hmp, hkp⟩ ?_
   rintro j2 T2 H2 ⟨i, hij2, u4, u56, u57, u58, hA, hmp2, hkp2⟩ hw2 _
   by_cases hi2 : i < n.own.length
   · have hii : (i : Int) < n.own.length := by omega
     obtain ⟨x, hx⟩ : ∃ x, n.own[i]? = some x := ⟨_, List.getElem?_eq_getElem hi2⟩
     obtain ⟨cs, hcs, hat, h6⟩ := hov.at hx
     have hdr : n.own.drop i = x :: n.own.drop (i + 1) := by
      rw [List.drop_eq_getElem_cons hi2]
      rw [List.getElem?_eq_getElem hi2] at hx
      simp only [Option.some.injEq] at hx
      rw [hx]
     have wr : IntKind.i64.wrap ((i : Int) + 1) = ((i + 1 : Nat) : Int) := by rw [IntWalk.i64_in _ (by omega)]; omega
     have g2 : md ≠ H2.next := by have := zac hw2 hmp2; omega
     simp only [zar] at hat
     rw [hdr, List.all_cons] at hA
     simp [u4, u56, u57, u58, hii, hi2, hcs, hat, h6]
     rcases za8 (nm := x.name) (S := D) with ⟨hc, hf⟩ | ⟨hc, j3, hf, hset⟩
     · simp [u4, u56, u57, u58, hmp2, g2, hf, -afind]
       refine ⟨⟨x.pos, rfl, fun h => ?_, fun _ => by omega⟩, fun y z hy => off1 hw2 (hkp2 _ _ hy)⟩
       rw [hok, hA, hc] at h
       simp at h
     · simp [u4, u56, u57, u58, hmp2, g2, hf, -afind]
       refine ⟨j2 - 1, by omega, i + 1, by omega, wr, ?_, fun y z hy => off1 hw2 (hkp2 _ _ hy)⟩
       rw [hc, Bool.true_and] at hA
       simpa using hA
   · obtain rfl : i = n.own.length := by omega
     simp [u4, u56, u57, u58]
     refine ⟨⟨-1, rfl, fun _ => rfl, fun h => ?_⟩, hkp2⟩
     rw [hok, hA, List.drop_length] at h
     simp at h
@[simp] theorem eqsV_sc (l : List Eqn) : (eqsV l).scalar = true := by unfold eqsV; split <;> rfl
structure NdOk (n : Nd) : Prop where
 vars : nlen n <= 1000000
 eqs : n.eqs.length <= 1000000
 wt : ∀ q ∈ n.eqs, q.e.wt <= 1000000
theorem node_run {H : AHeap} {k : Nat} {lv sm : AV} {n : Nd} {ah : List Nd} (hk : H.get k = some (.cells (ckC lv n sm))) (hv : NsA lv ah) (hl : ah.length <= 1000000) (hn : NdOk n) :
  Does Tryz.prog G 55 [.ptr k 0] H fun r h => Told (zbG ah n) r /\ ∀ j x, j ≠ k -> H.get j = some x -> h.get j = some x := by
 refine Does.wf Tryz.call55 fun hw _ => ?_
 refine zaf Tryz.call55 Tryz.func55 rfl (by simp [Tryz.f55]) ?_
 have hdr := decls_run (G := G) hk hn.vars hv.sc hv.cells
 simp only [ckC] at hk
 have hf : findN ah n.name = ah.find? fun d => d.name == n.name := rfl
 have hal := zbT n.outs
 rcases zb5 (fun d : Nd => d.name == n.name) ah with ⟨h1, h2⟩ | ⟨i, x, h1, h2, h3, h4⟩
 · have h1' : zih ah n.name = -1 := h1
   have hfn : (findN ah n.name).isNone = true := by rw [hf, h2]; rfl
   simp [hk]
   refine zak [(3, 0), (8, 0), (16, 10)] mixedOrders (by kernel_rfl) ?_
   intro es hes
   simp [hk, hv.sc, hv.cells]
   refine ⟨_, _, zcK hv hl n.name _, Nat.le_refl _, ?_⟩
   simp [hk, h1', hal, rds, heapF, -alen]
   refine ⟨⟨by subst hes; kernel_rfl, by subst hes; kernel_rfl⟩, ?_⟩
   clear hes
   by_cases h0 : n.outs = []
   · simp [h0, hk]
     refine ⟨n.pos, rfl, fun h => ?_, fun _ => by omega⟩
     rw [zbG, hfn, h0] at h
     simp at h
   · simp [h0, hk]
     refine zav hdr ?_
     rintro r H1 ⟨⟨z, rfl, hz1, hz2⟩, hS, hkp⟩ hw1 _
     have hnm : zbG ah n = (match zbQ n with | none => false | some S => eqsOk ah S n) := by
      unfold zbG
      rw [hfn, show (n.outs.length != 0) = true by simpa using h0]
      rfl
     cases hd : zbQ n with
     | none =>
       rw [hd] at hnm
       have hz := hz2 (by rw [hd]; rfl)
       have hz3 : (z != -1) = true := by simp; omega
       simp [hz3]
       exact ⟨⟨z, rfl, fun h => by simp [hnm] at h, fun _ => hz⟩, hkp⟩
     | some S =>
       rw [hd] at hnm
       obtain ⟨m, hmn, hk1, hm1⟩ := hS S hd
       have hz := hz1 (by rw [hd]; rfl)
       simp [hz]
       refine zaa (eqs_does hk1 hm1 hv hl hn.vars hn.eqs hn.wt) ?_
       rintro r H2 ⟨⟨z, rfl, hz1, hz2⟩, rfl⟩
       simp
       exact ⟨⟨z, rfl, fun h => hz1 (by rw [<- h, hnm]), fun h => hz2 (by rw [<- h, hnm])⟩, hkp⟩
 · have h1' : zih ah n.name = i := h1
   have c1 : (0 : Int) <= i := by omega
   have hfn : (findN ah n.name).isNone = false := by rw [hf, h3]; rfl
   simp [hk]
   refine zak [(3, 0), (8, 0)] mixedOrders (by kernel_rfl) ?_
   intro es hes
   simp [hk, hv.sc, hv.cells]
   refine ⟨_, _, zcK hv hl n.name _, Nat.le_refl _, ?_⟩
   simp [hk, h1', c1, hal, rds, heapF, -alen]
   refine ⟨⟨by subst hes; kernel_rfl, by subst hes; kernel_rfl⟩, ?_⟩
   refine ⟨n.pos, rfl, fun h => ?_, fun _ => by omega⟩
   rw [zbG, hfn] at h
   simp at h
def FaultA (ok : Bool) (e : Nat) (r : AV) : Prop := ∃ x y : Int, r = .agg [.int .i64 x, .int .i64 y] /\ (ok = true -> x = 0 /\ y = 0) /\ (ok = false -> x = e /\ 0 <= y)
theorem FaultA.lt {ok : Bool} {e : Nat} {r : AV} (h : FaultA ok e r) (n : Nat) : r.idLt n = true := by obtain ⟨x, y, rfl, _⟩ := h; rfl
theorem NsA.take {v : AV} {l : List Nd} {cs : List AV} (h : NsA v l) (hc : v = .vsl cs l.length) (i : Nat) (hi : i <= l.length) : NsA (.vsl cs i) (l.take i) := by
 rcases h with ⟨rfl, rfl⟩ | ⟨ts, ht, rfl⟩
 · simp at hc
 · simp only [AV.vsl.injEq, and_true] at hc
   subst hc
   have hl : l = l.take i ++ l.drop i := (List.take_append_drop i l).symm
   have e1 : zal l = zal (l.take i) ++ zal (l.drop i) := by rw [<- zaB, <- hl]
   refine .inr ⟨zal (l.drop i) ++ ts, fun n => by rw [zbh, zce, ht]; rfl, ?_⟩
   rw [e1, List.length_take, Nat.min_eq_left hi, List.append_assoc]
theorem ziP {f : List Nd -> Nd -> Bool} {l : List Nd} {i : Nat} {x : Nd} (h : l[i]? = some x) : allN f (l.take i) (l.drop i) = (f (l.take i) x && allN f (l.take (i + 1)) (l.drop (i + 1))) := by
 have hlt := (List.getElem?_eq_some_iff.1 h).1
 have h2 := h
 rw [List.getElem?_eq_getElem hlt] at h2
 simp only [Option.some.injEq] at h2
 rw [List.drop_eq_getElem_cons hlt, h2, allN, List.take_add_one, h]; rfl
theorem zfA {v : AV} {l : List Nd} (hv : NsA v l) (hl : l.length <= 1000000) (hn : ∀ n ∈ l, NdOk n) (H : AHeap) :
  Does Tryz.prog G 28 [v] H fun r h => FaultA (allN zbG [] l) 8 r /\ h = H := by
 refine keptR (fun r n h => h.lt n) (Does.wf Tryz.call28 fun hw _ => ?_)
 refine zaf Tryz.call28 Tryz.func28 rfl (by simp [Tryz.f28]) ?_
 have hal := hv.alen
 have hsc := hv.sc
 simp [hal, hsc, hv.cells, -alen]
 refine zai (fun j T' H' => ∃ i : Nat, i + j = l.length /\ T' 0 = v /\ T' 2 = .ptr H.next 0 /\ T' 7 = v /\ T' 8 = .int .i64 l.length /\ T' 9 = .int .i64 i /\ allN zbG [] l = allN zbG (l.take i) (l.drop i) /\ H'.get H.next = some (.cells [.int .i64 0, .int .i64 0]) /\ ∀ j x, H.get j = some x -> H'.get j = some x) l.length ⟨0, by simp, by simp, by simp, by simp, by simp, by simp, by simp, by simp, fun j x hj => off1 hw hj⟩ ?_
 rintro j T H1 ⟨i, hij, t0, t2, t7, t8, t9, hA, hc, hkp⟩ hw1 _
 by_cases hi : i < l.length
 · have hii : (i : Int) < l.length := by omega
   obtain ⟨x, hx⟩ : ∃ x, l[i]? = some x := ⟨_, List.getElem?_eq_getElem hi⟩
   obtain ⟨cs, hcs, hat, h6⟩ := hv.at hx
   have htk := hv.take hcs i (by omega)
   have hxn := hn x (List.mem_of_getElem? hx)
   have hdr := ziP (f := zbG) hx
   have wr : IntKind.i64.wrap ((i : Int) + 1) = ((i + 1 : Nat) : Int) := by rw [IntWalk.i64_in _ (by omega)]; omega
   have g1 : H.next ≠ H1.next := by have := zac hw1 hc; omega
   have hl0 : 0 < l.length := by omega
   have hl1 : (0 : Int) <= i := by omega
   have hl2 : (i : Int) <= l.length := by omega
   simp only [zah] at hat
   simp [t0, t2, t7, t8, t9, hii, hi, hcs, hat, h6]
   refine zak [(3, 0)] mixedOrders (by kernel_rfl) ?_
   intro es hes
   simp [t0, t2, t7, t8, t9, hcs, hl0, hl1, hl2, rds, heapF]
   refine ⟨⟨by subst hes; kernel_rfl, by subst hes; kernel_rfl⟩, ?_⟩
   clear hes
   refine zav (node_run (ah := l.take i) (lv := .vsl cs i) (n := x) (sm := .nilmap) (by simp [ckC]) htk (by rw [List.length_take]; omega) hxn) ?_
   rintro r H2 ⟨⟨z, rfl, hz1, hz2⟩, hk2⟩ hw2 _
   have old : ∀ y w, H.get y = some w -> H2.get y = some w := fun y w hy => by
    have l2 := zac hw1 (hkp _ _ hy)
    exact hk2 _ _ (by omega) (by simp [show y ≠ H1.next by omega, show y ≠ H1.next + 1 by omega, hkp _ _ hy])
   have hc2 : H2.get H.next = some (.cells [.int .i64 0, .int .i64 0]) := hk2 _ _ (by have := zac hw1 hc; omega) (by
    have l2 := zac hw1 hc
    simp [g1, show H.next ≠ H1.next + 1 by omega, hc])
   cases ho : zbG (l.take i) x with
   | false =>
     have hz := hz2 ho
     have hz3 : (z != -1) = true := by simp; omega
     simp [t0, t2, t7, t8, t9, hz3, hc2]
     refine ⟨⟨8, z, rfl, fun h => ?_, fun _ => ⟨rfl, hz⟩⟩, fun y w hy => ?_⟩
     · rw [hA, hdr, ho] at h
       simp at h
     · have l1 := zac hw hy
       rw [if_neg (by omega)]
       exact old y w hy
   | true =>
     have hz := hz1 ho
     simp [t0, t2, t7, t8, t9, hz, hc2]
     refine ⟨j - 1, by omega, i + 1, by omega, wr, ?_, old⟩
     rw [hA, hdr, ho, Bool.true_and]
 · obtain rfl : i = l.length := by omega
   simp [t0, t2, t7, t8, t9, hc]
   refine ⟨⟨0, 0, rfl, fun _ => ⟨rfl, rfl⟩, fun h => ?_⟩, fun y w hy => ?_⟩
   · rw [hA, List.drop_length, allN] at h
     simp at h
   · have l1 := zac hw hy
     rw [if_neg (by omega)]
     exact hkp y w hy
def kCs (l : List Nat) : List AV := l.map fun (k : Nat) => .int .i64 k
def KsA (v : AV) (l : List Nat) : Prop := (v = .nilsl /\ l = []) \/ ∃ ts, (∀ n, AV.allLt n ts = true) /\ v = .vsl (kCs l ++ ts) l.length
theorem KsA.sc {v : AV} {l : List Nat} (h : KsA v l) : v.scalar = true := by rcases h with ⟨rfl, rfl⟩ | ⟨ts, ht, rfl⟩ <;> rfl
theorem KsA.cells {v : AV} {l : List Nat} (h : KsA v l) : v.cells = [v] := by rcases h with ⟨rfl, rfl⟩ | ⟨ts, ht, rfl⟩ <;> rfl
theorem KsA.alen {v : AV} {l : List Nat} (h : KsA v l) : Abs.alen Tryz.prog 202 v = some (.int .i64 l.length) := by
 rcases h with ⟨rfl, rfl⟩ | ⟨ts, ht, rfl⟩ <;> simp [Abs.alen]
theorem KsA.at {v : AV} {l : List Nat} (h : KsA v l) {i : Nat} {x : Nat} (hx : l[i]? = some x) : ∃ cs, v = .vsl cs l.length /\ cs[i]? = some (.int .i64 x) /\ i <= cs.length := by
 rcases h with ⟨rfl, rfl⟩ | ⟨ts, ht, rfl⟩
 · simp at hx
 · have hlt := (List.getElem?_eq_some_iff.1 hx).1
   have hl : (kCs l).length = l.length := by simp [kCs]
   refine ⟨_, rfl, ?_, by rw [List.length_append]; omega⟩
   rw [List.getElem?_append_left (by omega)]
   simp [kCs, hx]
theorem ixK_does {l : List Nat} {v : AV} (hv : KsA v l) {g : FuncId} {cap : List AV} {H : AHeap} {p : Nat -> Bool} (hlen : l.length <= 1000000) (hp : ∀ x ∈ l, Does Tryz.prog G g (.int .i64 x :: cap) H fun r h => r = .bool (p x) /\ h = H) :
  Does Tryz.prog G 210 [v, .func (.func g) [] cap] H fun r h => r = .int .i64 (ixOf p l) /\ h = H := by
 refine zaf Tryz.call210 Tryz.func210 rfl (by simp [Tryz.f210]) ?_
 have hal := hv.alen
 have hsc := hv.sc
 simp [hal, -alen]
 refine za6 (fun m T' H' => H' = H /\ T' 0 = v /\ T' 1 = .func (.func g) [] cap /\ T' 7 = .int .i64 l.length /\ ∃ i : Nat, i + m = l.length /\ T' 8 = .int .i64 i /\ ∀ j x, j < i -> l[j]? = some x -> p x = false) l.length ⟨rfl, by simp, by simp, by simp, 0, by simp, by simp, fun j x h => absurd h (by omega)⟩ ?_
 rintro m T H1 ⟨rfl, t0, t1, t7, i, him, t8, hno⟩
 by_cases hi : i < l.length
 · have hii : (i : Int) < l.length := by omega
   obtain ⟨x, hx⟩ : ∃ x, l[i]? = some x := ⟨_, List.getElem?_eq_getElem hi⟩
   obtain ⟨cs, rfl, hat, h6⟩ := hv.at hx
   have hd := hp x (List.mem_of_getElem? hx)
   have wr : IntKind.i64.wrap ((i : Int) + 1) = ((i + 1 : Nat) : Int) := by rw [IntWalk.i64_in _ (by omega)]; omega
   simp [t0, t1, t7, t8, hii, hi, hat, h6]
   refine zaa hd ?_
   rintro r H2 ⟨rfl, rfl⟩
   cases hpx : p x with
   | true =>
     simp [t0, t1, t7, t8]
     exact (zbH hx hpx hno).symm
   | false =>
     simp [t0, t1, t7, t8]
     refine ⟨m - 1, by omega, i + 1, by omega, wr, fun j y hj hy => ?_⟩
     by_cases e : j = i
     · subst e; rw [hx] at hy; cases hy; exact hpx
     · exact hno j y (by omega) hy
 · obtain rfl : i = l.length := by omega
   simp [t0, t1, t7, t8]
   exact (zcg fun x hx => by
    obtain ⟨j, hj⟩ := List.mem_iff_getElem?.1 hx
    exact hno j x (List.getElem?_eq_some_iff.1 hj).1 hj).symm
theorem hasK_does {l : List Nat} {v : AV} (hv : KsA v l) {g : FuncId} {cap : List AV} {H : AHeap} {p : Nat -> Bool} (hlen : l.length <= 1000000) (hp : ∀ x ∈ l, Does Tryz.prog G g (.int .i64 x :: cap) H fun r h => r = .bool (p x) /\ h = H) :
  Does Tryz.prog G 197 [v, .func (.func g) [] cap] H fun r h => r = .bool (l.any p) /\ h = H := by
 refine zaf Tryz.call197 Tryz.func197 rfl (by simp [Tryz.f197]) ?_
 simp [hv.sc, hv.cells]
 refine zaa (ixK_does hv hlen hp) ?_
 rintro r H2 ⟨rfl, rfl⟩
 simp
 exact zfn p l
theorem zaR {v : AV} {l : List Nat} (hv : KsA v l) (want thn : Nat) (H : AHeap) : Does Tryz.prog G 170 [v, .int .i64 want, .int .i64 thn] H fun r h => r = .int .i64 (bothK l want thn) /\ h = H := by
 refine zaf Tryz.call170 Tryz.func170 rfl (by simp [Tryz.f170]) ?_
 have hal := hv.alen
 by_cases h2 : l.length = 2
 · obtain ⟨a, b, rfl⟩ : ∃ a b, l = [a, b] := by
    match l, h2 with
    | [a, b], _ => exact ⟨a, b, rfl⟩
   obtain ⟨cs, hcs, ha, hca⟩ := hv.at (i := 0) rfl
   obtain ⟨cs2, hcs2, hb, hcb⟩ := hv.at (i := 1) rfl
   obtain rfl : cs = cs2 := by rw [hcs] at hcs2; simpa using hcs2
   subst hcs
   by_cases ea : a = want
   · subst ea
     by_cases eb : b = a
     · subst eb
       simp [ha, hb, hca, hcb, bothK]
     · have eb' : ¬ (b : Int) = a := by omega
       simp [ha, hb, hca, hcb, bothK, eb, eb']
   · have ea' : ¬ (a : Int) = want := by omega
     simp [ha, hb, hca, hcb, bothK, ea, ea']
 · have h2' : ¬ (l.length : Int) = 2 := by omega
   have hb : bothK l want thn = 0 := by
    unfold bothK
    rw [if_neg (fun h => h2 (by rw [h]; rfl))]
   simp [hal, hv.sc, hv.cells, h2', hb, -alen]
theorem alike1_does {v : AV} {a : Nat} {l : List Nat} (hv : KsA v (a :: l)) {k : Nat} {H : AHeap} (hk : H.get k = some (.cells [v])) (x : Nat) : Does Tryz.prog G 198 [.int .i64 x, .ptr k 0] H fun r h => r = .bool (x != a) /\ h = H := by
 refine zaf Tryz.call198 Tryz.func198 rfl (by simp [Tryz.f198]) ?_
 obtain ⟨cs, hcs, ha, hca⟩ := hv.at (i := 0) rfl
 have hl : (0 : Int) < (a :: l).length := by simp
 by_cases e : x = a
 · subst e
   simp [hk, hcs, ha]
 · have e' : ¬ (x : Int) = a := by omega
   have e1 : ((x : Int) != (a : Int)) = true := by simpa using e'
   have e2 : (x != a) = true := by simpa using e
   simp [hk, hcs, ha, e1, e2]
theorem zcC {v : AV} {l : List Nat} (hv : KsA v l) (n : Nat) (hl : l.length <= 1000000) (hn : 0 < n) (H : AHeap) : Does Tryz.prog G 171 [v, .int .i64 n] H fun r h => r = .bool (zbb l n) /\ h = H := by
 refine kept (fun _ => rfl) (Does.wf Tryz.call171 fun hw _ => ?_)
 refine zaf Tryz.call171 Tryz.func171 rfl (by simp [Tryz.f171]) ?_
 have hal := hv.alen
 by_cases h2 : l.length = n
 · have h2' : (l.length : Int) = n := by omega
   obtain ⟨a, l', rfl⟩ : ∃ a l', l = a :: l' := by
    match l, h2 with
    | [], h => simp at h; omega
    | a :: l', _ => exact ⟨a, l', rfl⟩
   have h3 : (l'.length : Int) + 1 = n := by simpa using h2'
   simp [hal, hv.sc, hv.cells, h3, -alen]
   refine zaa (hasK_does (p := fun x => x != a) hv hl fun x _ => alike1_does hv (by simp) x) ?_
   rintro _ H2 ⟨rfl, rfl⟩
   have hb : zbb (a :: l') n = !((a :: l').any fun x => x != a) := by
    unfold zbb
    have hq : ∀ l : List Nat, (l.all fun k => k == a) = !(l.any fun x => x != a) := fun l => by
     induction l with
     | nil => rfl
     | cons b l ih =>
       rw [List.all_cons, List.any_cons, ih]
       by_cases e : b = a
       · subst e; simp
       · have e1 : (b == a) = false := by simpa using e
         have e2 : (b != a) = true := by simpa using e
         rw [e1, e2]; rfl
    rw [h2, beq_self_eq_true, Bool.true_and]
    exact hq _
   rw [hb]
   cases (a :: l').any fun x => x != a <;> simp [h3] <;> exact fun j x hj => off1 hw hj
 · have h2' : ¬ (l.length : Int) = n := by omega
   have hb : zbb l n = false := by unfold zbb; simp [h2]
   simp [hal, hv.sc, hv.cells, h2', hb, -alen]
   exact fun j x hj => off1 hw hj
def tyC (lv : AV) (n : Nd) (wv : AV) : List AV := [lv, .str n.name, vsV n.ins, vsV n.outs, vsV n.locals, eqsV n.eqs, .int .i64 n.pos, wv]
theorem zaw {H : AHeap} {k : Nat} {lv wv : AV} {n : Nd} (hk : H.get k = some (.cells (tyC lv n wv))) (hn : nlen n <= 1000000) (nm : Bs) :
  Does Tryz.prog G 106 [.ptr k 0, .str nm] H fun r h => r = .int .i64 (kindV n nm) /\ h = H := by
 refine kept (fun _ => rfl) (Does.wf Tryz.call106 fun hw _ => ?_)
 refine zaf Tryz.call106 Tryz.func106 rfl (by simp [Tryz.f106]) ?_
 have hd := fun H => zfL (G := G) hn nm H
 have hkv : kindV n nm = ((findV n.decl nm).getD va0).kind := by unfold kindV; cases findV n.decl nm <;> rfl
 obtain ⟨w, hwv⟩ : ∃ w, w = (findV n.decl nm).getD va0 := ⟨_, rfl⟩
 rw [<- hwv] at hkv
 simp only [<- hwv] at hd
 simp only [zah, zar] at hd
 simp only [tyC] at hk
 simp [hk]
 refine zaa (hd _) ?_
 rintro _ H2 ⟨rfl, rfl⟩
 simp [hkv]
 exact fun j x hj => off1 hw hj
theorem tcall_does {H : AHeap} {k : Nat} {lv wv kv : AV} {n : Nd} {ah : List Nd} {kl : List Nat} (hk : H.get k = some (.cells (tyC lv n wv))) (hv : NsA lv ah) (hl : ah.length <= 1000000) (hah : ∀ d ∈ ah, NdOk d) (hkv : KsA kv kl) (hkl : kl.length <= 1000000) (op nm : Bs) (num pos : Nat) (ks : List Ex) :
  Does Tryz.prog G 172 [.ptr k 0, .agg (zas (.mk op nm num pos ks)), kv] H fun r h => r = .int .i64 (zdE ah nm kl) /\ h = H := by
 refine kept (fun _ => rfl) (Does.wf Tryz.call172 fun hw _ => ?_)
 have e1 : k ≠ H.next := by have := (hw _ _ hk).1; omega
 refine zaf Tryz.call172 Tryz.func172 rfl (by simp [Tryz.f172]) ?_
 rw [zab]
 simp only [tyC] at hk
 simp [hk, e1]
 refine zak [(3, 0), (5, 0)] mixedOrders (by kernel_rfl) ?_
 intro es hes
 simp [hk, e1, hv.sc, hv.cells]
 refine ⟨_, _, zcK hv hl nm _, Nat.le_refl _, ?_⟩
 simp [hk, e1, rds, heapF, hv.sc, hv.cells]
 refine ⟨⟨by subst hes; kernel_rfl, by subst hes; kernel_rfl⟩, ?_⟩
 clear hes
 have hf : findN ah nm = ah.find? fun d => d.name == nm := rfl
 unfold zih
 rcases zb5 (fun d : Nd => d.name == nm) ah with ⟨h1, h2⟩ | ⟨i, x, h1, h2, h3, h4⟩
 · simp [hk, e1, h1]
   refine ⟨?_, fun j x hj => off1 hw hj⟩
   unfold zdE
   rw [hf, h2]; rfl
 · obtain ⟨cs, rfl, hat, h6⟩ := hv.at h2
   have hi := (List.getElem?_eq_some_iff.1 h2).1
   have c0 : ¬ (i : Int) < 0 := by omega
   have c2 : (i : Int) < ah.length := by omega
   have ho := zbT x.outs
   have hin := zbT x.ins
   have hka := hkv.alen
   have g2 : cs[i * 6 + 2]? = some (vsV x.outs) := zgy hat rfl
   have g1 : cs[i * 6 + 1]? = some (vsV x.ins) := zgy hat rfl
   have hco : zdE ah nm kl = (if x.outs.length = 1 /\ x.ins.length = kl.length /\ x.ins.map Va.kind = kl then headV x.outs else 0) := by
    unfold zdE
    rw [hf, h3]
   by_cases d1 : x.outs.length = 1
   · have d1' : (x.outs.length : Int) = 1 := by omega
     by_cases d2 : x.ins.length = kl.length
     · have d2' : (x.ins.length : Int) = kl.length := by omega
       simp [hk, e1, h1, c0, c2, hi, ho, hin, hka, g1, g2, d1, d1', d2, d2', hkv.sc, hkv.cells, -alen]
       have hiv := VsA.vsV x.ins
       have hil : x.ins.length <= 1000000 := by omega
       have hhv : zdE ah nm kl = if x.ins.map Va.kind = kl then headV x.outs else 0 := by
        rw [hco]
        by_cases e : x.ins.map Va.kind = kl
        · rw [if_pos ⟨d1, d2, e⟩, if_pos e]
        · rw [if_neg (fun h => e h.2.2), if_neg e]
       refine zai (fun j T' H' => ∃ q : Nat, q + j = x.ins.length /\ T' 0 = .ptr k 0 /\ T' 2 = kv /\ T' 7 = .int .i64 i /\ T' 52 = vsV x.ins /\ T' 53 = .int .i64 x.ins.length /\ T' 54 = .int .i64 q /\ (x.ins.map Va.kind).take q = kl.take q /\ ∀ j x, H.get j = some x -> H'.get j = some x) x.ins.length ⟨0, by simp, by simp, by simp, by simp [h1], by simp, by simp [d2'], by simp, by simp, fun j x hj => off1 hw hj⟩ ?_
       rintro j T H1 ⟨q, hqj, t0, t2, t7, t52, t53, t54, hA, hkp⟩ hw1 _
       have hk1 := hkp _ _ hk
       have f1 : k ≠ H1.next := by have := zac hw1 hk1; omega
       by_cases hq : q < x.ins.length
       · have hqq : (q : Int) < x.ins.length := by omega
         obtain ⟨y, hy⟩ : ∃ y, x.ins[q]? = some y := ⟨_, List.getElem?_eq_getElem hq⟩
         obtain ⟨z, hz⟩ : ∃ z, kl[q]? = some z := ⟨_, List.getElem?_eq_getElem (by omega)⟩
         obtain ⟨ci, hci, hati, h5⟩ := hiv.at hy
         obtain ⟨ck, hck, hatk, hk5⟩ := hkv.at hz
         have hq2 : (q : Int) < kl.length := by omega
         have hq3 : q < kl.length := by omega
         have wr : IntKind.i64.wrap ((q : Int) + 1) = ((q + 1 : Nat) : Int) := by rw [IntWalk.i64_in _ (by omega)]; omega
         simp only [zar] at hati
         simp [t0, t2, t7, t52, t53, t54, hqq, hq, hci, hati, h5]
         refine zaM mixedOrders (by kernel_rfl) ?_
         intro es hes
         by_cases e : y.kind = z
         · have e1 : ((y.kind : Int) != (z : Int)) = false := by simp [e]
           simp [t0, t2, t7, t52, t53, t54, hck, hatk, hk5, hq2, hq3, e1]
           refine ⟨by subst hes; kernel_rfl, j - 1, by omega, q + 1, by omega, wr, ?_, fun a b hb => off1 hw1 (hkp _ _ hb)⟩
           rw [List.take_add_one, List.getElem?_map, hy, List.take_add_one, hz, hA]
           simp [e]
         · have e1 : ((y.kind : Int) != (z : Int)) = true := by simp; omega
           simp [t0, t2, t7, t52, t53, t54, hck, hatk, hk5, hq2, hq3, e1]
           refine ⟨by subst hes; kernel_rfl, ?_, fun a b hb => off1 hw1 (hkp _ _ hb)⟩
           rw [hhv, if_neg (fun h => e ?_)]
           · rfl
           · have h1 : (x.ins.map Va.kind)[q]? = some y.kind := by rw [List.getElem?_map, hy]; rfl
             rw [h, hz] at h1
             simpa using h1.symm
       · obtain rfl : q = x.ins.length := by omega
         rw [List.take_of_length_le (by simp), List.take_of_length_le (by omega)] at hA
         obtain ⟨o, hoe⟩ : ∃ o, x.outs = [o] := by
          match hx : x.outs, d1 with
          | [o], _ => exact ⟨o, rfl⟩
         have ov := VsA.vsV x.outs
         obtain ⟨co, hco2, hato, ho5⟩ := ov.at (i := 0) (x := o) (by rw [hoe]; rfl)
         have hox : co[1]? = some (.int .i64 o.kind) := by
          have := zgy (a := 0) (z := 5) (j := 1) (L := zar o) (by simpa using hato) rfl
          simpa using this
         have hol : (0 : Int) < x.outs.length := by omega
         simp [t0, t2, t7, t52, t53, t54, hk1, c2, hi, g2, hco2, hol, hox, d1]
         refine ⟨?_, hkp⟩
         rw [hhv, if_pos hA, hoe]; rfl
     · have d2' : ¬ (x.ins.length : Int) = kl.length := by omega
       simp [hk, e1, h1, c0, c2, hi, ho, hin, hka, g1, g2, d1, d1', d2, d2', hkv.sc, hkv.cells, show ((x.ins.length : Int) != kl.length) = true by simpa using d2', -alen]
       refine ⟨?_, fun j x hj => off1 hw hj⟩
       rw [hco, if_neg (fun h => d2 h.2.1)]; rfl
   · have d1' : ¬ (x.outs.length : Int) = 1 := by omega
     simp [hk, e1, h1, c0, c2, hi, ho, hin, hka, g1, g2, d1, d1', show ((x.outs.length : Int) != 1) = true by simpa using d1', -alen]
     refine ⟨?_, fun j x hj => off1 hw hj⟩
     rw [hco, if_neg (fun h => d1 h.1)]; rfl
structure OfAt (H : AHeap) (k : Nat) (lv wv kv : AV) (n : Nd) (ah : List Nd) (kl : List Nat) : Prop where
 hk : H.get k = some (.cells (tyC lv n wv))
 hv : NsA lv ah
 hl : ah.length <= 1000000
 hah : ∀ d ∈ ah, NdOk d
 hn : nlen n <= 1000000
 hkv : KsA kv kl
 hkl : kl.length <= 1000000
def OfD (G : Nat -> Option AV) (op : Bs) : Prop := ∀ (H : AHeap) (k : Nat) (lv wv kv : AV) (n : Nd) (ah : List Nd) (kl : List Nat) (nm : Bs) (num pos : Nat) (ks : List Ex), OfAt H k lv wv kv n ah kl ->
    Does Tryz.prog G 143 [.ptr k 0, .agg (zas (.mk op nm num pos ks)), kv] H fun r h => r = .int .i64 (ofK ah n op nm kl) /\ h = H
theorem KsA.shape {kv : AV} {kl : List Nat} (h : KsA kv kl) : (kl = [] /\ Abs.alen Tryz.prog 202 kv = some (.int .i64 0)) \/ (∃ a cs, kl = [a] /\ kv = .vsl cs 1 /\ cs[0]? = some (.int .i64 a)) \/ (∃ a b cs, kl = [a, b] /\ kv = .vsl cs 2 /\ cs[0]? = some (.int .i64 a) /\ cs[1]? = some (.int .i64 b) /\ 1 <= cs.length) \/
  (∃ a b c cs, kl = [a, b, c] /\ kv = .vsl cs 3 /\ cs[0]? = some (.int .i64 a) /\ cs[1]? = some (.int .i64 b) /\ cs[2]? = some (.int .i64 c) /\ 1 <= cs.length /\ 2 <= cs.length) \/ (3 < kl.length /\ Abs.alen Tryz.prog 202 kv = some (.int .i64 kl.length)) := by
 have hal := h.alen
 match kl, h, hal with
 | [], h, hal => exact .inl ⟨rfl, hal⟩
 | [a], h, hal =>
   obtain ⟨cs, hcs, ha, _⟩ := h.at (i := 0) rfl
   exact .inr (.inl ⟨a, cs, rfl, hcs, ha⟩)
 | [a, b], h, hal =>
   obtain ⟨cs, hcs, ha, _⟩ := h.at (i := 0) rfl
   obtain ⟨cs2, hcs2, hb, h1⟩ := h.at (i := 1) rfl
   obtain rfl : cs = cs2 := by rw [hcs] at hcs2; simpa using hcs2
   exact .inr (.inr (.inl ⟨a, b, cs, rfl, hcs, ha, hb, h1⟩))
 | [a, b, c], h, hal =>
   obtain ⟨cs, hcs, ha, _⟩ := h.at (i := 0) rfl
   obtain ⟨cs2, hcs2, hb, h1⟩ := h.at (i := 1) rfl
   obtain ⟨cs3, hcs3, hc, h2⟩ := h.at (i := 2) rfl
   obtain rfl : cs = cs2 := by rw [hcs] at hcs2; simpa using hcs2
   obtain rfl : cs = cs3 := by rw [hcs] at hcs3; simpa using hcs3
   exact .inr (.inr (.inr (.inl ⟨a, b, c, cs, rfl, hcs, ha, hb, hc, h1, h2⟩)))
 | a :: b :: c :: d :: l, h, hal => exact .inr (.inr (.inr (.inr ⟨by simp, hal⟩)))
theorem of_Int : OfD G sInt := by
 intro H k lv wv kv n ah kl nm num pos ks h
 obtain ⟨hk, hv, hl, hah, hn, hkv, hkl⟩ := h
 refine kept (fun _ => rfl) (Does.wf Tryz.call143 fun hw _ => ?_)
 have e1 : k ≠ H.next := by have := (hw _ _ hk).1; omega
 refine zaf Tryz.call143 Tryz.func143 rfl (by simp [Tryz.f143]) ?_
 have hna := fun (H : AHeap) h => zaw (G := G) (H := H) (k := k) (lv := lv) (wv := wv) (n := n) h hn nm
 have hof : ofK ah n sInt nm kl = lastK (kl.length == 0) 2 kl := by simp [ofK, sInt, sBool, sVar, sNot, sNeg, sPre, sFby, sWhen, sIf, sMerge, sCall]
 rw [hof]
 clear hof
 have hsc := hkv.sc
 have hcl := hkv.cells
 have w0 : IntKind.i64.wrap 0 = 0 := by decide
 have w1 : IntKind.i64.wrap 1 = 1 := by decide
 have w2 : IntKind.i64.wrap 2 = 2 := by decide
 rw [zab]
 simp only [tyC] at hk
 rcases hkv.shape with ⟨rfl, hal⟩ | ⟨a, cs, rfl, rfl, ha⟩ | ⟨a, b, cs, rfl, rfl, ha, hb, h1⟩ | ⟨a, b, c, cs, rfl, rfl, ha, hb, hc, h1, h2⟩ | ⟨h3, hal⟩
 · simp [sInt, lastK, hal, hsc, hcl, -alen]
   exact fun j x hj => off1 hw hj
 · simp [sInt, lastK, ha, w0]
   exact fun j x hj => off1 hw hj
 · simp [sInt, lastK, ha, hb, h1, w1]
   exact fun j x hj => off1 hw hj
 · simp [sInt, lastK, ha, hb, hc, h1, h2, w2]
   exact fun j x hj => off1 hw hj
 · have c0 : ¬ (kl.length : Int) = 0 := by omega
   have c1 : ¬ (kl.length : Int) = 1 := by omega
   have c2 : ¬ (kl.length : Int) = 2 := by omega
   have c3 : ¬ (kl.length : Int) = 3 := by omega
   have n0 : ¬ kl = [] := fun h => by rw [h] at h3; simp at h3
   have n1 : ¬ kl.length = 1 := by omega
   have n3 : ¬ kl.length = 3 := by omega
   simp [sInt, lastK, hal, hsc, hcl, c0, c1, c2, c3, n0, n1, n3, -alen]
   exact fun j x hj => off1 hw hj
theorem of_Bool : OfD G sBool := by
 intro H k lv wv kv n ah kl nm num pos ks h
 obtain ⟨hk, hv, hl, hah, hn, hkv, hkl⟩ := h
 refine kept (fun _ => rfl) (Does.wf Tryz.call143 fun hw _ => ?_)
 have e1 : k ≠ H.next := by have := (hw _ _ hk).1; omega
 refine zaf Tryz.call143 Tryz.func143 rfl (by simp [Tryz.f143]) ?_
 have hna := fun (H : AHeap) h => zaw (G := G) (H := H) (k := k) (lv := lv) (wv := wv) (n := n) h hn nm
 have hof : ofK ah n sBool nm kl = lastK (kl.length == 0) 1 kl := by simp [ofK, sInt, sBool, sVar, sNot, sNeg, sPre, sFby, sWhen, sIf, sMerge, sCall]
 rw [hof]
 clear hof
 have hsc := hkv.sc
 have hcl := hkv.cells
 have w0 : IntKind.i64.wrap 0 = 0 := by decide
 have w1 : IntKind.i64.wrap 1 = 1 := by decide
 have w2 : IntKind.i64.wrap 2 = 2 := by decide
 rw [zab]
 simp only [tyC] at hk
 rcases hkv.shape with ⟨rfl, hal⟩ | ⟨a, cs, rfl, rfl, ha⟩ | ⟨a, b, cs, rfl, rfl, ha, hb, h1⟩ | ⟨a, b, c, cs, rfl, rfl, ha, hb, hc, h1, h2⟩ | ⟨h3, hal⟩
 · simp [sBool, lastK, hal, hsc, hcl, -alen]
   exact fun j x hj => off1 hw hj
 · simp [sBool, lastK, ha, w0]
   exact fun j x hj => off1 hw hj
 · simp [sBool, lastK, ha, hb, h1, w1]
   exact fun j x hj => off1 hw hj
 · simp [sBool, lastK, ha, hb, hc, h1, h2, w2]
   exact fun j x hj => off1 hw hj
 · have c0 : ¬ (kl.length : Int) = 0 := by omega
   have c1 : ¬ (kl.length : Int) = 1 := by omega
   have c2 : ¬ (kl.length : Int) = 2 := by omega
   have c3 : ¬ (kl.length : Int) = 3 := by omega
   have n0 : ¬ kl = [] := fun h => by rw [h] at h3; simp at h3
   have n1 : ¬ kl.length = 1 := by omega
   have n3 : ¬ kl.length = 3 := by omega
   simp [sBool, lastK, hal, hsc, hcl, c0, c1, c2, c3, n0, n1, n3, -alen]
   exact fun j x hj => off1 hw hj
theorem of_Var : OfD G sVar := by
 intro H k lv wv kv n ah kl nm num pos ks h
 obtain ⟨hk, hv, hl, hah, hn, hkv, hkl⟩ := h
 refine kept (fun _ => rfl) (Does.wf Tryz.call143 fun hw _ => ?_)
 have e1 : k ≠ H.next := by have := (hw _ _ hk).1; omega
 refine zaf Tryz.call143 Tryz.func143 rfl (by simp [Tryz.f143]) ?_
 have hna := fun (H : AHeap) h => zaw (G := G) (H := H) (k := k) (lv := lv) (wv := wv) (n := n) h hn nm
 have hof : ofK ah n sVar nm kl = lastK (kl.length == 0) (kindV n nm) kl := by simp [ofK, sInt, sBool, sVar, sNot, sNeg, sPre, sFby, sWhen, sIf, sMerge, sCall]
 rw [hof]
 clear hof
 have hsc := hkv.sc
 have hcl := hkv.cells
 have w0 : IntKind.i64.wrap 0 = 0 := by decide
 have w1 : IntKind.i64.wrap 1 = 1 := by decide
 have w2 : IntKind.i64.wrap 2 = 2 := by decide
 rw [zab]
 simp only [tyC] at hk
 rcases hkv.shape with ⟨rfl, hal⟩ | ⟨a, cs, rfl, rfl, ha⟩ | ⟨a, b, cs, rfl, rfl, ha, hb, h1⟩ | ⟨a, b, c, cs, rfl, rfl, ha, hb, hc, h1, h2⟩ | ⟨h3, hal⟩
 · simp [sVar, lastK, hal, hsc, hcl, -alen, hk, e1]
   refine zaa (hna _ ?h1) ?_
   case h1 => simp [hk, e1, tyC]
   rintro _ H2 ⟨rfl, rfl⟩
   by_cases e : kindV n nm = 0
   · simp [sVar, lastK, hal, hsc, hcl, -alen, e]
     exact fun j x hj => off1 hw hj
   · have e2 : ¬ (kindV n nm : Int) = 0 := by omega
     simp [sVar, lastK, hal, hsc, hcl, -alen, e, e2]
     exact fun j x hj => off1 hw hj
 · simp [sVar, lastK, ha, w0, hk, e1]
   refine zaa (hna _ ?h1) ?_
   case h1 => simp [hk, e1, tyC]
   rintro _ H2 ⟨rfl, rfl⟩
   simp [sVar, lastK, ha, w0]
   exact fun j x hj => off1 hw hj
 · simp [sVar, lastK, ha, hb, h1, w1, hk, e1]
   refine zaa (hna _ ?h1) ?_
   case h1 => simp [hk, e1, tyC]
   rintro _ H2 ⟨rfl, rfl⟩
   simp [sVar, lastK, ha, hb, h1, w1]
   exact fun j x hj => off1 hw hj
 · simp [sVar, lastK, ha, hb, hc, h1, h2, w2, hk, e1]
   refine zaa (hna _ ?h1) ?_
   case h1 => simp [hk, e1, tyC]
   rintro _ H2 ⟨rfl, rfl⟩
   simp [sVar, lastK, ha, hb, hc, h1, h2, w2]
   exact fun j x hj => off1 hw hj
 · have c0 : ¬ (kl.length : Int) = 0 := by omega
   have c1 : ¬ (kl.length : Int) = 1 := by omega
   have c2 : ¬ (kl.length : Int) = 2 := by omega
   have c3 : ¬ (kl.length : Int) = 3 := by omega
   have n0 : ¬ kl = [] := fun h => by rw [h] at h3; simp at h3
   have n1 : ¬ kl.length = 1 := by omega
   have n3 : ¬ kl.length = 3 := by omega
   simp [sVar, lastK, hal, hsc, hcl, c0, c1, c2, c3, n0, n1, n3, -alen, hk, e1]
   refine zaa (hna _ ?h1) ?_
   case h1 => simp [hk, e1, tyC]
   rintro _ H2 ⟨rfl, rfl⟩
   simp [sVar, lastK, hal, hsc, hcl, c0, c1, c2, c3, n0, n1, n3, -alen]
   exact fun j x hj => off1 hw hj
theorem of_Not : OfD G sNot := by
 intro H k lv wv kv n ah kl nm num pos ks h
 obtain ⟨hk, hv, hl, hah, hn, hkv, hkl⟩ := h
 refine kept (fun _ => rfl) (Does.wf Tryz.call143 fun hw _ => ?_)
 have e1 : k ≠ H.next := by have := (hw _ _ hk).1; omega
 refine zaf Tryz.call143 Tryz.func143 rfl (by simp [Tryz.f143]) ?_
 have hna := fun (H : AHeap) h => zaw (G := G) (H := H) (k := k) (lv := lv) (wv := wv) (n := n) h hn nm
 have hof : ofK ah n sNot nm kl = lastK (kl == [1]) 1 kl := by simp [ofK, sInt, sBool, sVar, sNot, sNeg, sPre, sFby, sWhen, sIf, sMerge, sCall]
 rw [hof]
 clear hof
 have hsc := hkv.sc
 have hcl := hkv.cells
 have w0 : IntKind.i64.wrap 0 = 0 := by decide
 have w1 : IntKind.i64.wrap 1 = 1 := by decide
 have w2 : IntKind.i64.wrap 2 = 2 := by decide
 rw [zab]
 simp only [tyC] at hk
 rcases hkv.shape with ⟨rfl, hal⟩ | ⟨a, cs, rfl, rfl, ha⟩ | ⟨a, b, cs, rfl, rfl, ha, hb, h1⟩ | ⟨a, b, c, cs, rfl, rfl, ha, hb, hc, h1, h2⟩ | ⟨h3, hal⟩
 · simp [sNot, lastK, hal, hsc, hcl, -alen]
   exact fun j x hj => off1 hw hj
 · by_cases e : a = 1
   · subst e
     simp [sNot, lastK, ha, w0]
     exact fun j x hj => off1 hw hj
   · have e2 : ¬ (a : Int) = 1 := by omega
     simp [sNot, lastK, ha, w0, e, e2]
     exact fun j x hj => off1 hw hj
 · simp [sNot, lastK, ha, hb, h1, w1]
   exact fun j x hj => off1 hw hj
 · simp [sNot, lastK, ha, hb, hc, h1, h2, w2]
   exact fun j x hj => off1 hw hj
 · have d1 : (kl == [1]) = false := by simp; intro h; rw [h] at h3; simp at h3
   have c0 : ¬ (kl.length : Int) = 0 := by omega
   have c1 : ¬ (kl.length : Int) = 1 := by omega
   have c2 : ¬ (kl.length : Int) = 2 := by omega
   have c3 : ¬ (kl.length : Int) = 3 := by omega
   have n0 : ¬ kl = [] := fun h => by rw [h] at h3; simp at h3
   have n1 : ¬ kl.length = 1 := by omega
   have n3 : ¬ kl.length = 3 := by omega
   simp [d1, sNot, lastK, hal, hsc, hcl, c0, c1, c2, c3, n0, n1, n3, -alen, d1]
   exact fun j x hj => off1 hw hj
theorem of_Neg : OfD G sNeg := by
 intro H k lv wv kv n ah kl nm num pos ks h
 obtain ⟨hk, hv, hl, hah, hn, hkv, hkl⟩ := h
 refine kept (fun _ => rfl) (Does.wf Tryz.call143 fun hw _ => ?_)
 have e1 : k ≠ H.next := by have := (hw _ _ hk).1; omega
 refine zaf Tryz.call143 Tryz.func143 rfl (by simp [Tryz.f143]) ?_
 have hna := fun (H : AHeap) h => zaw (G := G) (H := H) (k := k) (lv := lv) (wv := wv) (n := n) h hn nm
 have hof : ofK ah n sNeg nm kl = lastK (kl == [2]) 2 kl := by simp [ofK, sInt, sBool, sVar, sNot, sNeg, sPre, sFby, sWhen, sIf, sMerge, sCall]
 rw [hof]
 clear hof
 have hsc := hkv.sc
 have hcl := hkv.cells
 have w0 : IntKind.i64.wrap 0 = 0 := by decide
 have w1 : IntKind.i64.wrap 1 = 1 := by decide
 have w2 : IntKind.i64.wrap 2 = 2 := by decide
 rw [zab]
 simp only [tyC] at hk
 rcases hkv.shape with ⟨rfl, hal⟩ | ⟨a, cs, rfl, rfl, ha⟩ | ⟨a, b, cs, rfl, rfl, ha, hb, h1⟩ | ⟨a, b, c, cs, rfl, rfl, ha, hb, hc, h1, h2⟩ | ⟨h3, hal⟩
 · simp [sNeg, lastK, hal, hsc, hcl, -alen]
   exact fun j x hj => off1 hw hj
 · by_cases e : a = 2
   · subst e
     simp [sNeg, lastK, ha, w0]
     exact fun j x hj => off1 hw hj
   · have e2 : ¬ (a : Int) = 2 := by omega
     simp [sNeg, lastK, ha, w0, e, e2]
     exact fun j x hj => off1 hw hj
 · simp [sNeg, lastK, ha, hb, h1, w1]
   exact fun j x hj => off1 hw hj
 · simp [sNeg, lastK, ha, hb, hc, h1, h2, w2]
   exact fun j x hj => off1 hw hj
 · have d1 : (kl == [2]) = false := by simp; intro h; rw [h] at h3; simp at h3
   have c0 : ¬ (kl.length : Int) = 0 := by omega
   have c1 : ¬ (kl.length : Int) = 1 := by omega
   have c2 : ¬ (kl.length : Int) = 2 := by omega
   have c3 : ¬ (kl.length : Int) = 3 := by omega
   have n0 : ¬ kl = [] := fun h => by rw [h] at h3; simp at h3
   have n1 : ¬ kl.length = 1 := by omega
   have n3 : ¬ kl.length = 3 := by omega
   simp [d1, sNeg, lastK, hal, hsc, hcl, c0, c1, c2, c3, n0, n1, n3, -alen, d1]
   exact fun j x hj => off1 hw hj
theorem of_Pre : OfD G sPre := by
 intro H k lv wv kv n ah kl nm num pos ks h
 obtain ⟨hk, hv, hl, hah, hn, hkv, hkl⟩ := h
 refine kept (fun _ => rfl) (Does.wf Tryz.call143 fun hw _ => ?_)
 have e1 : k ≠ H.next := by have := (hw _ _ hk).1; omega
 refine zaf Tryz.call143 Tryz.func143 rfl (by simp [Tryz.f143]) ?_
 have hna := fun (H : AHeap) h => zaw (G := G) (H := H) (k := k) (lv := lv) (wv := wv) (n := n) h hn nm
 have hof : ofK ah n sPre nm kl = lastK (kl.length == 1) 0 kl := by simp [ofK, sInt, sBool, sVar, sNot, sNeg, sPre, sFby, sWhen, sIf, sMerge, sCall]
 rw [hof]
 clear hof
 have hsc := hkv.sc
 have hcl := hkv.cells
 have w0 : IntKind.i64.wrap 0 = 0 := by decide
 have w1 : IntKind.i64.wrap 1 = 1 := by decide
 have w2 : IntKind.i64.wrap 2 = 2 := by decide
 rw [zab]
 simp only [tyC] at hk
 rcases hkv.shape with ⟨rfl, hal⟩ | ⟨a, cs, rfl, rfl, ha⟩ | ⟨a, b, cs, rfl, rfl, ha, hb, h1⟩ | ⟨a, b, c, cs, rfl, rfl, ha, hb, hc, h1, h2⟩ | ⟨h3, hal⟩
 · simp [sPre, lastK, hal, hsc, hcl, -alen]
   exact fun j x hj => off1 hw hj
 · simp [sPre, lastK, ha, w0]
   exact fun j x hj => off1 hw hj
 · simp [sPre, lastK, ha, hb, h1, w1]
   exact fun j x hj => off1 hw hj
 · simp [sPre, lastK, ha, hb, hc, h1, h2, w2]
   exact fun j x hj => off1 hw hj
 · have c0 : ¬ (kl.length : Int) = 0 := by omega
   have c1 : ¬ (kl.length : Int) = 1 := by omega
   have c2 : ¬ (kl.length : Int) = 2 := by omega
   have c3 : ¬ (kl.length : Int) = 3 := by omega
   have n0 : ¬ kl = [] := fun h => by rw [h] at h3; simp at h3
   have n1 : ¬ kl.length = 1 := by omega
   have n3 : ¬ kl.length = 3 := by omega
   simp [sPre, lastK, hal, hsc, hcl, c0, c1, c2, c3, n0, n1, n3, -alen]
   exact fun j x hj => off1 hw hj
theorem of_Add : OfD G [43] := by
 intro H k lv wv kv n ah kl nm num pos ks h
 obtain ⟨hk, hv, hl, hah, hn, hkv, hkl⟩ := h
 refine kept (fun _ => rfl) (Does.wf Tryz.call143 fun hw _ => ?_)
 have e1 : k ≠ H.next := by have := (hw _ _ hk).1; omega
 refine zaf Tryz.call143 Tryz.func143 rfl (by simp [Tryz.f143]) ?_
 have hna := fun (H : AHeap) h => zaw (G := G) (H := H) (k := k) (lv := lv) (wv := wv) (n := n) h hn nm
 have hof : ofK ah n [43] nm kl = bothK kl 2 2 := by simp [ofK, sInt, sBool, sVar, sNot, sNeg, sPre, sFby, sWhen, sIf, sMerge, sCall]
 rw [hof]
 clear hof
 have hsc := hkv.sc
 have hcl := hkv.cells
 have w0 : IntKind.i64.wrap 0 = 0 := by decide
 have w1 : IntKind.i64.wrap 1 = 1 := by decide
 have w2 : IntKind.i64.wrap 2 = 2 := by decide
 have hb := fun H => zaR (G := G) hkv 2 2 H
 rw [zab]
 simp
 refine zaa (hb _) ?_
 rintro _ H2 ⟨rfl, rfl⟩
 simp
 exact fun j x hj => off1 hw hj
theorem of_Sub : OfD G [45] := by
 intro H k lv wv kv n ah kl nm num pos ks h
 obtain ⟨hk, hv, hl, hah, hn, hkv, hkl⟩ := h
 refine kept (fun _ => rfl) (Does.wf Tryz.call143 fun hw _ => ?_)
 have e1 : k ≠ H.next := by have := (hw _ _ hk).1; omega
 refine zaf Tryz.call143 Tryz.func143 rfl (by simp [Tryz.f143]) ?_
 have hna := fun (H : AHeap) h => zaw (G := G) (H := H) (k := k) (lv := lv) (wv := wv) (n := n) h hn nm
 have hof : ofK ah n [45] nm kl = bothK kl 2 2 := by simp [ofK, sInt, sBool, sVar, sNot, sNeg, sPre, sFby, sWhen, sIf, sMerge, sCall]
 rw [hof]
 clear hof
 have hsc := hkv.sc
 have hcl := hkv.cells
 have w0 : IntKind.i64.wrap 0 = 0 := by decide
 have w1 : IntKind.i64.wrap 1 = 1 := by decide
 have w2 : IntKind.i64.wrap 2 = 2 := by decide
 have hb := fun H => zaR (G := G) hkv 2 2 H
 rw [zab]
 simp
 refine zaa (hb _) ?_
 rintro _ H2 ⟨rfl, rfl⟩
 simp
 exact fun j x hj => off1 hw hj
theorem of_Mul : OfD G [42] := by
 intro H k lv wv kv n ah kl nm num pos ks h
 obtain ⟨hk, hv, hl, hah, hn, hkv, hkl⟩ := h
 refine kept (fun _ => rfl) (Does.wf Tryz.call143 fun hw _ => ?_)
 have e1 : k ≠ H.next := by have := (hw _ _ hk).1; omega
 refine zaf Tryz.call143 Tryz.func143 rfl (by simp [Tryz.f143]) ?_
 have hna := fun (H : AHeap) h => zaw (G := G) (H := H) (k := k) (lv := lv) (wv := wv) (n := n) h hn nm
 have hof : ofK ah n [42] nm kl = bothK kl 2 2 := by simp [ofK, sInt, sBool, sVar, sNot, sNeg, sPre, sFby, sWhen, sIf, sMerge, sCall]
 rw [hof]
 clear hof
 have hsc := hkv.sc
 have hcl := hkv.cells
 have w0 : IntKind.i64.wrap 0 = 0 := by decide
 have w1 : IntKind.i64.wrap 1 = 1 := by decide
 have w2 : IntKind.i64.wrap 2 = 2 := by decide
 have hb := fun H => zaR (G := G) hkv 2 2 H
 rw [zab]
 simp
 refine zaa (hb _) ?_
 rintro _ H2 ⟨rfl, rfl⟩
 simp
 exact fun j x hj => off1 hw hj
theorem of_Div : OfD G [47] := by
 intro H k lv wv kv n ah kl nm num pos ks h
 obtain ⟨hk, hv, hl, hah, hn, hkv, hkl⟩ := h
 refine kept (fun _ => rfl) (Does.wf Tryz.call143 fun hw _ => ?_)
 have e1 : k ≠ H.next := by have := (hw _ _ hk).1; omega
 refine zaf Tryz.call143 Tryz.func143 rfl (by simp [Tryz.f143]) ?_
 have hna := fun (H : AHeap) h => zaw (G := G) (H := H) (k := k) (lv := lv) (wv := wv) (n := n) h hn nm
 have hof : ofK ah n [47] nm kl = bothK kl 2 2 := by simp [ofK, sInt, sBool, sVar, sNot, sNeg, sPre, sFby, sWhen, sIf, sMerge, sCall]
 rw [hof]
 clear hof
 have hsc := hkv.sc
 have hcl := hkv.cells
 have w0 : IntKind.i64.wrap 0 = 0 := by decide
 have w1 : IntKind.i64.wrap 1 = 1 := by decide
 have w2 : IntKind.i64.wrap 2 = 2 := by decide
 have hb := fun H => zaR (G := G) hkv 2 2 H
 rw [zab]
 simp
 refine zaa (hb _) ?_
 rintro _ H2 ⟨rfl, rfl⟩
 simp
 exact fun j x hj => off1 hw hj
theorem of_Mod : OfD G [109, 111, 100] := by
 intro H k lv wv kv n ah kl nm num pos ks h
 obtain ⟨hk, hv, hl, hah, hn, hkv, hkl⟩ := h
 refine kept (fun _ => rfl) (Does.wf Tryz.call143 fun hw _ => ?_)
 have e1 : k ≠ H.next := by have := (hw _ _ hk).1; omega
 refine zaf Tryz.call143 Tryz.func143 rfl (by simp [Tryz.f143]) ?_
 have hna := fun (H : AHeap) h => zaw (G := G) (H := H) (k := k) (lv := lv) (wv := wv) (n := n) h hn nm
 have hof : ofK ah n [109, 111, 100] nm kl = bothK kl 2 2 := by simp [ofK, sInt, sBool, sVar, sNot, sNeg, sPre, sFby, sWhen, sIf, sMerge, sCall]
 rw [hof]
 clear hof
 have hsc := hkv.sc
 have hcl := hkv.cells
 have w0 : IntKind.i64.wrap 0 = 0 := by decide
 have w1 : IntKind.i64.wrap 1 = 1 := by decide
 have w2 : IntKind.i64.wrap 2 = 2 := by decide
 have hb := fun H => zaR (G := G) hkv 2 2 H
 rw [zab]
 simp
 refine zaa (hb _) ?_
 rintro _ H2 ⟨rfl, rfl⟩
 simp
 exact fun j x hj => off1 hw hj
theorem of_Lt : OfD G [60] := by
 intro H k lv wv kv n ah kl nm num pos ks h
 obtain ⟨hk, hv, hl, hah, hn, hkv, hkl⟩ := h
 refine kept (fun _ => rfl) (Does.wf Tryz.call143 fun hw _ => ?_)
 have e1 : k ≠ H.next := by have := (hw _ _ hk).1; omega
 refine zaf Tryz.call143 Tryz.func143 rfl (by simp [Tryz.f143]) ?_
 have hna := fun (H : AHeap) h => zaw (G := G) (H := H) (k := k) (lv := lv) (wv := wv) (n := n) h hn nm
 have hof : ofK ah n [60] nm kl = bothK kl 2 1 := by simp [ofK, sInt, sBool, sVar, sNot, sNeg, sPre, sFby, sWhen, sIf, sMerge, sCall]
 rw [hof]
 clear hof
 have hsc := hkv.sc
 have hcl := hkv.cells
 have w0 : IntKind.i64.wrap 0 = 0 := by decide
 have w1 : IntKind.i64.wrap 1 = 1 := by decide
 have w2 : IntKind.i64.wrap 2 = 2 := by decide
 have hb := fun H => zaR (G := G) hkv 2 1 H
 rw [zab]
 simp
 refine zaa (hb _) ?_
 rintro _ H2 ⟨rfl, rfl⟩
 simp
 exact fun j x hj => off1 hw hj
theorem of_Le : OfD G [60, 61] := by
 intro H k lv wv kv n ah kl nm num pos ks h
 obtain ⟨hk, hv, hl, hah, hn, hkv, hkl⟩ := h
 refine kept (fun _ => rfl) (Does.wf Tryz.call143 fun hw _ => ?_)
 have e1 : k ≠ H.next := by have := (hw _ _ hk).1; omega
 refine zaf Tryz.call143 Tryz.func143 rfl (by simp [Tryz.f143]) ?_
 have hna := fun (H : AHeap) h => zaw (G := G) (H := H) (k := k) (lv := lv) (wv := wv) (n := n) h hn nm
 have hof : ofK ah n [60, 61] nm kl = bothK kl 2 1 := by simp [ofK, sInt, sBool, sVar, sNot, sNeg, sPre, sFby, sWhen, sIf, sMerge, sCall]
 rw [hof]
 clear hof
 have hsc := hkv.sc
 have hcl := hkv.cells
 have w0 : IntKind.i64.wrap 0 = 0 := by decide
 have w1 : IntKind.i64.wrap 1 = 1 := by decide
 have w2 : IntKind.i64.wrap 2 = 2 := by decide
 have hb := fun H => zaR (G := G) hkv 2 1 H
 rw [zab]
 simp
 refine zaa (hb _) ?_
 rintro _ H2 ⟨rfl, rfl⟩
 simp
 exact fun j x hj => off1 hw hj
theorem of_Gt : OfD G [62] := by
 intro H k lv wv kv n ah kl nm num pos ks h
 obtain ⟨hk, hv, hl, hah, hn, hkv, hkl⟩ := h
 refine kept (fun _ => rfl) (Does.wf Tryz.call143 fun hw _ => ?_)
 have e1 : k ≠ H.next := by have := (hw _ _ hk).1; omega
 refine zaf Tryz.call143 Tryz.func143 rfl (by simp [Tryz.f143]) ?_
 have hna := fun (H : AHeap) h => zaw (G := G) (H := H) (k := k) (lv := lv) (wv := wv) (n := n) h hn nm
 have hof : ofK ah n [62] nm kl = bothK kl 2 1 := by simp [ofK, sInt, sBool, sVar, sNot, sNeg, sPre, sFby, sWhen, sIf, sMerge, sCall]
 rw [hof]
 clear hof
 have hsc := hkv.sc
 have hcl := hkv.cells
 have w0 : IntKind.i64.wrap 0 = 0 := by decide
 have w1 : IntKind.i64.wrap 1 = 1 := by decide
 have w2 : IntKind.i64.wrap 2 = 2 := by decide
 have hb := fun H => zaR (G := G) hkv 2 1 H
 rw [zab]
 simp
 refine zaa (hb _) ?_
 rintro _ H2 ⟨rfl, rfl⟩
 simp
 exact fun j x hj => off1 hw hj
theorem of_Ge : OfD G [62, 61] := by
 intro H k lv wv kv n ah kl nm num pos ks h
 obtain ⟨hk, hv, hl, hah, hn, hkv, hkl⟩ := h
 refine kept (fun _ => rfl) (Does.wf Tryz.call143 fun hw _ => ?_)
 have e1 : k ≠ H.next := by have := (hw _ _ hk).1; omega
 refine zaf Tryz.call143 Tryz.func143 rfl (by simp [Tryz.f143]) ?_
 have hna := fun (H : AHeap) h => zaw (G := G) (H := H) (k := k) (lv := lv) (wv := wv) (n := n) h hn nm
 have hof : ofK ah n [62, 61] nm kl = bothK kl 2 1 := by simp [ofK, sInt, sBool, sVar, sNot, sNeg, sPre, sFby, sWhen, sIf, sMerge, sCall]
 rw [hof]
 clear hof
 have hsc := hkv.sc
 have hcl := hkv.cells
 have w0 : IntKind.i64.wrap 0 = 0 := by decide
 have w1 : IntKind.i64.wrap 1 = 1 := by decide
 have w2 : IntKind.i64.wrap 2 = 2 := by decide
 have hb := fun H => zaR (G := G) hkv 2 1 H
 rw [zab]
 simp
 refine zaa (hb _) ?_
 rintro _ H2 ⟨rfl, rfl⟩
 simp
 exact fun j x hj => off1 hw hj
theorem of_And : OfD G [97, 110, 100] := by
 intro H k lv wv kv n ah kl nm num pos ks h
 obtain ⟨hk, hv, hl, hah, hn, hkv, hkl⟩ := h
 refine kept (fun _ => rfl) (Does.wf Tryz.call143 fun hw _ => ?_)
 have e1 : k ≠ H.next := by have := (hw _ _ hk).1; omega
 refine zaf Tryz.call143 Tryz.func143 rfl (by simp [Tryz.f143]) ?_
 have hna := fun (H : AHeap) h => zaw (G := G) (H := H) (k := k) (lv := lv) (wv := wv) (n := n) h hn nm
 have hof : ofK ah n [97, 110, 100] nm kl = bothK kl 1 1 := by simp [ofK, sInt, sBool, sVar, sNot, sNeg, sPre, sFby, sWhen, sIf, sMerge, sCall]
 rw [hof]
 clear hof
 have hsc := hkv.sc
 have hcl := hkv.cells
 have w0 : IntKind.i64.wrap 0 = 0 := by decide
 have w1 : IntKind.i64.wrap 1 = 1 := by decide
 have w2 : IntKind.i64.wrap 2 = 2 := by decide
 have hb := fun H => zaR (G := G) hkv 1 1 H
 rw [zab]
 simp
 refine zaa (hb _) ?_
 rintro _ H2 ⟨rfl, rfl⟩
 simp
 exact fun j x hj => off1 hw hj
theorem of_Or : OfD G [111, 114] := by
 intro H k lv wv kv n ah kl nm num pos ks h
 obtain ⟨hk, hv, hl, hah, hn, hkv, hkl⟩ := h
 refine kept (fun _ => rfl) (Does.wf Tryz.call143 fun hw _ => ?_)
 have e1 : k ≠ H.next := by have := (hw _ _ hk).1; omega
 refine zaf Tryz.call143 Tryz.func143 rfl (by simp [Tryz.f143]) ?_
 have hna := fun (H : AHeap) h => zaw (G := G) (H := H) (k := k) (lv := lv) (wv := wv) (n := n) h hn nm
 have hof : ofK ah n [111, 114] nm kl = bothK kl 1 1 := by simp [ofK, sInt, sBool, sVar, sNot, sNeg, sPre, sFby, sWhen, sIf, sMerge, sCall]
 rw [hof]
 clear hof
 have hsc := hkv.sc
 have hcl := hkv.cells
 have w0 : IntKind.i64.wrap 0 = 0 := by decide
 have w1 : IntKind.i64.wrap 1 = 1 := by decide
 have w2 : IntKind.i64.wrap 2 = 2 := by decide
 have hb := fun H => zaR (G := G) hkv 1 1 H
 rw [zab]
 simp
 refine zaa (hb _) ?_
 rintro _ H2 ⟨rfl, rfl⟩
 simp
 exact fun j x hj => off1 hw hj
theorem of_Xor : OfD G [120, 111, 114] := by
 intro H k lv wv kv n ah kl nm num pos ks h
 obtain ⟨hk, hv, hl, hah, hn, hkv, hkl⟩ := h
 refine kept (fun _ => rfl) (Does.wf Tryz.call143 fun hw _ => ?_)
 have e1 : k ≠ H.next := by have := (hw _ _ hk).1; omega
 refine zaf Tryz.call143 Tryz.func143 rfl (by simp [Tryz.f143]) ?_
 have hna := fun (H : AHeap) h => zaw (G := G) (H := H) (k := k) (lv := lv) (wv := wv) (n := n) h hn nm
 have hof : ofK ah n [120, 111, 114] nm kl = bothK kl 1 1 := by simp [ofK, sInt, sBool, sVar, sNot, sNeg, sPre, sFby, sWhen, sIf, sMerge, sCall]
 rw [hof]
 clear hof
 have hsc := hkv.sc
 have hcl := hkv.cells
 have w0 : IntKind.i64.wrap 0 = 0 := by decide
 have w1 : IntKind.i64.wrap 1 = 1 := by decide
 have w2 : IntKind.i64.wrap 2 = 2 := by decide
 have hb := fun H => zaR (G := G) hkv 1 1 H
 rw [zab]
 simp
 refine zaa (hb _) ?_
 rintro _ H2 ⟨rfl, rfl⟩
 simp
 exact fun j x hj => off1 hw hj
theorem of_Eq : OfD G [61] := by
 intro H k lv wv kv n ah kl nm num pos ks h
 obtain ⟨hk, hv, hl, hah, hn, hkv, hkl⟩ := h
 refine kept (fun _ => rfl) (Does.wf Tryz.call143 fun hw _ => ?_)
 have e1 : k ≠ H.next := by have := (hw _ _ hk).1; omega
 refine zaf Tryz.call143 Tryz.func143 rfl (by simp [Tryz.f143]) ?_
 have hna := fun (H : AHeap) h => zaw (G := G) (H := H) (k := k) (lv := lv) (wv := wv) (n := n) h hn nm
 have hof : ofK ah n [61] nm kl = lastK (zbb kl 2) 1 kl := by simp [ofK, sInt, sBool, sVar, sNot, sNeg, sPre, sFby, sWhen, sIf, sMerge, sCall]
 rw [hof]
 clear hof
 have hsc := hkv.sc
 have hcl := hkv.cells
 have w0 : IntKind.i64.wrap 0 = 0 := by decide
 have w1 : IntKind.i64.wrap 1 = 1 := by decide
 have w2 : IntKind.i64.wrap 2 = 2 := by decide
 rw [zab]
 simp only [tyC] at hk
 have hb0 := fun H => zcC (G := G) hkv 2 hkl (by omega) H
 simp []
 refine zaa (hb0 _) ?_
 rintro _ H2 ⟨rfl, rfl⟩
 cases hak : zbb kl 2 with
 | false =>
   simp [lastK, hak]
   exact fun j x hj => off1 hw hj
 | true =>
   obtain ⟨a, b, cs, rfl, rfl, ha, hb, h1⟩ : ∃ a b cs, kl = [a, b] /\ kv = .vsl cs 2 /\ cs[0]? = some (.int .i64 a) /\ cs[1]? = some (.int .i64 b) /\ 1 <= cs.length := by
    have hl2 : kl.length = 2 := by
     unfold zbb at hak
     simp only [Bool.and_eq_true, beq_iff_eq] at hak
     exact hak.1
    rcases hkv.shape with ⟨rfl, hal⟩ | ⟨a, cs, rfl, rfl, ha⟩ | ⟨a, b, cs, rfl, rfl, ha, hb, h1⟩ | ⟨a, b, c, cs, rfl, rfl, ha, hb, hc, h1, h2⟩ | ⟨h3, hal⟩
    · simp at hl2
    · simp at hl2
    · exact ⟨a, b, cs, rfl, rfl, ha, hb, h1⟩
    · simp at hl2
    · omega
   simp [lastK, hak, ha, hb, h1, w1]
   exact fun j x hj => off1 hw hj
theorem of_Ne : OfD G [60, 62] := by
 intro H k lv wv kv n ah kl nm num pos ks h
 obtain ⟨hk, hv, hl, hah, hn, hkv, hkl⟩ := h
 refine kept (fun _ => rfl) (Does.wf Tryz.call143 fun hw _ => ?_)
 have e1 : k ≠ H.next := by have := (hw _ _ hk).1; omega
 refine zaf Tryz.call143 Tryz.func143 rfl (by simp [Tryz.f143]) ?_
 have hna := fun (H : AHeap) h => zaw (G := G) (H := H) (k := k) (lv := lv) (wv := wv) (n := n) h hn nm
 have hof : ofK ah n [60, 62] nm kl = lastK (zbb kl 2) 1 kl := by simp [ofK, sInt, sBool, sVar, sNot, sNeg, sPre, sFby, sWhen, sIf, sMerge, sCall]
 rw [hof]
 clear hof
 have hsc := hkv.sc
 have hcl := hkv.cells
 have w0 : IntKind.i64.wrap 0 = 0 := by decide
 have w1 : IntKind.i64.wrap 1 = 1 := by decide
 have w2 : IntKind.i64.wrap 2 = 2 := by decide
 rw [zab]
 simp only [tyC] at hk
 have hb0 := fun H => zcC (G := G) hkv 2 hkl (by omega) H
 simp []
 refine zaa (hb0 _) ?_
 rintro _ H2 ⟨rfl, rfl⟩
 cases hak : zbb kl 2 with
 | false =>
   simp [lastK, hak]
   exact fun j x hj => off1 hw hj
 | true =>
   obtain ⟨a, b, cs, rfl, rfl, ha, hb, h1⟩ : ∃ a b cs, kl = [a, b] /\ kv = .vsl cs 2 /\ cs[0]? = some (.int .i64 a) /\ cs[1]? = some (.int .i64 b) /\ 1 <= cs.length := by
    have hl2 : kl.length = 2 := by
     unfold zbb at hak
     simp only [Bool.and_eq_true, beq_iff_eq] at hak
     exact hak.1
    rcases hkv.shape with ⟨rfl, hal⟩ | ⟨a, cs, rfl, rfl, ha⟩ | ⟨a, b, cs, rfl, rfl, ha, hb, h1⟩ | ⟨a, b, c, cs, rfl, rfl, ha, hb, hc, h1, h2⟩ | ⟨h3, hal⟩
    · simp at hl2
    · simp at hl2
    · exact ⟨a, b, cs, rfl, rfl, ha, hb, h1⟩
    · simp at hl2
    · omega
   simp [lastK, hak, ha, hb, h1, w1]
   exact fun j x hj => off1 hw hj
theorem of_Arr : OfD G [45, 62] := by
 intro H k lv wv kv n ah kl nm num pos ks h
 obtain ⟨hk, hv, hl, hah, hn, hkv, hkl⟩ := h
 refine kept (fun _ => rfl) (Does.wf Tryz.call143 fun hw _ => ?_)
 have e1 : k ≠ H.next := by have := (hw _ _ hk).1; omega
 refine zaf Tryz.call143 Tryz.func143 rfl (by simp [Tryz.f143]) ?_
 have hna := fun (H : AHeap) h => zaw (G := G) (H := H) (k := k) (lv := lv) (wv := wv) (n := n) h hn nm
 have hof : ofK ah n [45, 62] nm kl = lastK (zbb kl 2) 0 kl := by simp [ofK, sInt, sBool, sVar, sNot, sNeg, sPre, sFby, sWhen, sIf, sMerge, sCall]
 rw [hof]
 clear hof
 have hsc := hkv.sc
 have hcl := hkv.cells
 have w0 : IntKind.i64.wrap 0 = 0 := by decide
 have w1 : IntKind.i64.wrap 1 = 1 := by decide
 have w2 : IntKind.i64.wrap 2 = 2 := by decide
 rw [zab]
 simp only [tyC] at hk
 have hb0 := fun H => zcC (G := G) hkv 2 hkl (by omega) H
 simp []
 refine zaa (hb0 _) ?_
 rintro _ H2 ⟨rfl, rfl⟩
 cases hak : zbb kl 2 with
 | false =>
   simp [lastK, hak]
   exact fun j x hj => off1 hw hj
 | true =>
   obtain ⟨a, b, cs, rfl, rfl, ha, hb, h1⟩ : ∃ a b cs, kl = [a, b] /\ kv = .vsl cs 2 /\ cs[0]? = some (.int .i64 a) /\ cs[1]? = some (.int .i64 b) /\ 1 <= cs.length := by
    have hl2 : kl.length = 2 := by
     unfold zbb at hak
     simp only [Bool.and_eq_true, beq_iff_eq] at hak
     exact hak.1
    rcases hkv.shape with ⟨rfl, hal⟩ | ⟨a, cs, rfl, rfl, ha⟩ | ⟨a, b, cs, rfl, rfl, ha, hb, h1⟩ | ⟨a, b, c, cs, rfl, rfl, ha, hb, hc, h1, h2⟩ | ⟨h3, hal⟩
    · simp at hl2
    · simp at hl2
    · exact ⟨a, b, cs, rfl, rfl, ha, hb, h1⟩
    · simp at hl2
    · omega
   simp [lastK, hak, ha, hb, h1, w1]
   exact fun j x hj => off1 hw hj
theorem of_Fby : OfD G sFby := by
 intro H k lv wv kv n ah kl nm num pos ks h
 obtain ⟨hk, hv, hl, hah, hn, hkv, hkl⟩ := h
 refine kept (fun _ => rfl) (Does.wf Tryz.call143 fun hw _ => ?_)
 have e1 : k ≠ H.next := by have := (hw _ _ hk).1; omega
 refine zaf Tryz.call143 Tryz.func143 rfl (by simp [Tryz.f143]) ?_
 have hna := fun (H : AHeap) h => zaw (G := G) (H := H) (k := k) (lv := lv) (wv := wv) (n := n) h hn nm
 have hof : ofK ah n sFby nm kl = lastK (zbb kl 2) 0 kl := by simp [ofK, sInt, sBool, sVar, sNot, sNeg, sPre, sFby, sWhen, sIf, sMerge, sCall]
 rw [hof]
 clear hof
 have hsc := hkv.sc
 have hcl := hkv.cells
 have w0 : IntKind.i64.wrap 0 = 0 := by decide
 have w1 : IntKind.i64.wrap 1 = 1 := by decide
 have w2 : IntKind.i64.wrap 2 = 2 := by decide
 rw [zab]
 simp only [tyC] at hk
 have hb0 := fun H => zcC (G := G) hkv 2 hkl (by omega) H
 simp [sFby]
 refine zaa (hb0 _) ?_
 rintro _ H2 ⟨rfl, rfl⟩
 cases hak : zbb kl 2 with
 | false =>
   simp [sFby, lastK, hak]
   exact fun j x hj => off1 hw hj
 | true =>
   obtain ⟨a, b, cs, rfl, rfl, ha, hb, h1⟩ : ∃ a b cs, kl = [a, b] /\ kv = .vsl cs 2 /\ cs[0]? = some (.int .i64 a) /\ cs[1]? = some (.int .i64 b) /\ 1 <= cs.length := by
    have hl2 : kl.length = 2 := by
     unfold zbb at hak
     simp only [Bool.and_eq_true, beq_iff_eq] at hak
     exact hak.1
    rcases hkv.shape with ⟨rfl, hal⟩ | ⟨a, cs, rfl, rfl, ha⟩ | ⟨a, b, cs, rfl, rfl, ha, hb, h1⟩ | ⟨a, b, c, cs, rfl, rfl, ha, hb, hc, h1, h2⟩ | ⟨h3, hal⟩
    · simp at hl2
    · simp at hl2
    · exact ⟨a, b, cs, rfl, rfl, ha, hb, h1⟩
    · simp at hl2
    · omega
   simp [sFby, lastK, hak, ha, hb, h1, w1]
   exact fun j x hj => off1 hw hj
theorem of_When : OfD G sWhen := by
 intro H k lv wv kv n ah kl nm num pos ks h
 obtain ⟨hk, hv, hl, hah, hn, hkv, hkl⟩ := h
 refine kept (fun _ => rfl) (Does.wf Tryz.call143 fun hw _ => ?_)
 have e1 : k ≠ H.next := by have := (hw _ _ hk).1; omega
 refine zaf Tryz.call143 Tryz.func143 rfl (by simp [Tryz.f143]) ?_
 have hna := fun (H : AHeap) h => zaw (G := G) (H := H) (k := k) (lv := lv) (wv := wv) (n := n) h hn nm
 have hof : ofK ah n sWhen nm kl = lastK (kl.length == 1 && kindV n nm == 1) 0 kl := by simp [ofK, sInt, sBool, sVar, sNot, sNeg, sPre, sFby, sWhen, sIf, sMerge, sCall]
 rw [hof]
 clear hof
 have hsc := hkv.sc
 have hcl := hkv.cells
 have w0 : IntKind.i64.wrap 0 = 0 := by decide
 have w1 : IntKind.i64.wrap 1 = 1 := by decide
 have w2 : IntKind.i64.wrap 2 = 2 := by decide
 rw [zab]
 simp only [tyC] at hk
 rcases hkv.shape with ⟨rfl, hal⟩ | ⟨a, cs, rfl, rfl, ha⟩ | ⟨a, b, cs, rfl, rfl, ha, hb, h1⟩ | ⟨a, b, c, cs, rfl, rfl, ha, hb, hc, h1, h2⟩ | ⟨h3, hal⟩
 · simp [sWhen, lastK, hal, hsc, hcl, -alen]
   exact fun j x hj => off1 hw hj
 · simp [sWhen, lastK, ha, w0, hk, e1]
   refine zaa (hna _ ?h1) ?_
   case h1 => simp [hk, e1, tyC]
   rintro _ H2 ⟨rfl, rfl⟩
   by_cases e : kindV n nm = 1
   · simp [sWhen, lastK, ha, w0, e]
     exact fun j x hj => off1 hw hj
   · have e2 : ¬ (kindV n nm : Int) = 1 := by omega
     simp [sWhen, lastK, ha, w0, e, e2]
     exact fun j x hj => off1 hw hj
 · simp [sWhen, lastK, ha, hb, h1, w1]
   exact fun j x hj => off1 hw hj
 · simp [sWhen, lastK, ha, hb, hc, h1, h2, w2]
   exact fun j x hj => off1 hw hj
 · have c0 : ¬ (kl.length : Int) = 0 := by omega
   have c1 : ¬ (kl.length : Int) = 1 := by omega
   have c2 : ¬ (kl.length : Int) = 2 := by omega
   have c3 : ¬ (kl.length : Int) = 3 := by omega
   have n0 : ¬ kl = [] := fun h => by rw [h] at h3; simp at h3
   have n1 : ¬ kl.length = 1 := by omega
   have n3 : ¬ kl.length = 3 := by omega
   simp [sWhen, lastK, hal, hsc, hcl, c0, c1, c2, c3, n0, n1, n3, -alen]
   exact fun j x hj => off1 hw hj
theorem of_If : OfD G sIf := by
 intro H k lv wv kv n ah kl nm num pos ks h
 obtain ⟨hk, hv, hl, hah, hn, hkv, hkl⟩ := h
 refine kept (fun _ => rfl) (Does.wf Tryz.call143 fun hw _ => ?_)
 have e1 : k ≠ H.next := by have := (hw _ _ hk).1; omega
 refine zaf Tryz.call143 Tryz.func143 rfl (by simp [Tryz.f143]) ?_
 have hna := fun (H : AHeap) h => zaw (G := G) (H := H) (k := k) (lv := lv) (wv := wv) (n := n) h hn nm
 have hof : ofK ah n sIf nm kl = lastK (kl.length == 3 && (kl.getD 0 0 == 1 && kl.getD 1 0 == kl.getD 2 0)) 0 kl := by simp [ofK, sInt, sBool, sVar, sNot, sNeg, sPre, sFby, sWhen, sIf, sMerge, sCall]
 rw [hof]
 clear hof
 have hsc := hkv.sc
 have hcl := hkv.cells
 have w0 : IntKind.i64.wrap 0 = 0 := by decide
 have w1 : IntKind.i64.wrap 1 = 1 := by decide
 have w2 : IntKind.i64.wrap 2 = 2 := by decide
 rw [zab]
 simp only [tyC] at hk
 rcases hkv.shape with ⟨rfl, hal⟩ | ⟨a, cs, rfl, rfl, ha⟩ | ⟨a, b, cs, rfl, rfl, ha, hb, h1⟩ | ⟨a, b, c, cs, rfl, rfl, ha, hb, hc, h1, h2⟩ | ⟨h3, hal⟩
 · simp [sIf]
   refine zaM mixedOrders (by kernel_rfl) ?_
   intro es hes
   simp [sIf, lastK, hal, hsc, hcl, -alen]
   refine ⟨by subst hes; kernel_rfl, ?_⟩
   exact fun j x hj => off1 hw hj
 · simp [sIf]
   refine zaM mixedOrders (by kernel_rfl) ?_
   intro es hes
   simp [sIf, lastK, ha, w0]
   refine ⟨by subst hes; kernel_rfl, ?_⟩
   exact fun j x hj => off1 hw hj
 · simp [sIf]
   refine zaM mixedOrders (by kernel_rfl) ?_
   intro es hes
   simp [sIf, lastK, ha, hb, h1, w1]
   refine ⟨by subst hes; kernel_rfl, ?_⟩
   exact fun j x hj => off1 hw hj
 · by_cases e : a = 1
   · subst e
     by_cases e2 : b = c
     · subst e2
       simp [sIf]
       refine zaM mixedOrders (by kernel_rfl) ?_
       intro es hes
       simp [sIf, lastK, ha, hb, hc, h1, h2, w2]
       refine ⟨by subst hes; kernel_rfl, ?_⟩
       exact fun j x hj => off1 hw hj
     · have e3 : ¬ (b : Int) = c := by omega
       simp [sIf]
       refine zaM mixedOrders (by kernel_rfl) ?_
       intro es hes
       simp [sIf, lastK, ha, hb, hc, h1, h2, w2, e2, e3]
       refine ⟨by subst hes; kernel_rfl, ?_⟩
       exact fun j x hj => off1 hw hj
   · have e3 : ¬ (a : Int) = 1 := by omega
     simp [sIf]
     refine zaM mixedOrders (by kernel_rfl) ?_
     intro es hes
     simp [sIf, lastK, ha, hb, hc, h1, h2, w2, e, e3]
     refine ⟨by subst hes; kernel_rfl, ?_⟩
     exact fun j x hj => off1 hw hj
 · have c0 : ¬ (kl.length : Int) = 0 := by omega
   have c1 : ¬ (kl.length : Int) = 1 := by omega
   have c2 : ¬ (kl.length : Int) = 2 := by omega
   have c3 : ¬ (kl.length : Int) = 3 := by omega
   have n0 : ¬ kl = [] := fun h => by rw [h] at h3; simp at h3
   have n1 : ¬ kl.length = 1 := by omega
   have n3 : ¬ kl.length = 3 := by omega
   simp [sIf]
   refine zaM mixedOrders (by kernel_rfl) ?_
   intro es hes
   simp [sIf, lastK, hal, hsc, hcl, c0, c1, c2, c3, n0, n1, n3, -alen]
   refine ⟨by subst hes; kernel_rfl, ?_⟩
   exact fun j x hj => off1 hw hj
theorem of_Mrg : OfD G sMerge := by
 intro H k lv wv kv n ah kl nm num pos ks h
 obtain ⟨hk, hv, hl, hah, hn, hkv, hkl⟩ := h
 refine kept (fun _ => rfl) (Does.wf Tryz.call143 fun hw _ => ?_)
 have e1 : k ≠ H.next := by have := (hw _ _ hk).1; omega
 refine zaf Tryz.call143 Tryz.func143 rfl (by simp [Tryz.f143]) ?_
 have hna := fun (H : AHeap) h => zaw (G := G) (H := H) (k := k) (lv := lv) (wv := wv) (n := n) h hn nm
 have hof : ofK ah n sMerge nm kl = lastK (zbb kl 2 && kindV n nm == 1) 0 kl := by simp [ofK, sInt, sBool, sVar, sNot, sNeg, sPre, sFby, sWhen, sIf, sMerge, sCall]
 rw [hof]
 clear hof
 have hsc := hkv.sc
 have hcl := hkv.cells
 have w0 : IntKind.i64.wrap 0 = 0 := by decide
 have w1 : IntKind.i64.wrap 1 = 1 := by decide
 have w2 : IntKind.i64.wrap 2 = 2 := by decide
 rw [zab]
 simp only [tyC] at hk
 have hb0 := fun H => zcC (G := G) hkv 2 hkl (by omega) H
 simp [sMerge]
 refine zaa (hb0 _) ?_
 rintro _ H2 ⟨rfl, rfl⟩
 cases hak : zbb kl 2 with
 | false =>
   simp [sMerge, lastK, hak]
   exact fun j x hj => off1 hw hj
 | true =>
   obtain ⟨a, b, cs, rfl, rfl, ha, hb, h1⟩ : ∃ a b cs, kl = [a, b] /\ kv = .vsl cs 2 /\ cs[0]? = some (.int .i64 a) /\ cs[1]? = some (.int .i64 b) /\ 1 <= cs.length := by
    have hl2 : kl.length = 2 := by
     unfold zbb at hak
     simp only [Bool.and_eq_true, beq_iff_eq] at hak
     exact hak.1
    rcases hkv.shape with ⟨rfl, hal⟩ | ⟨a, cs, rfl, rfl, ha⟩ | ⟨a, b, cs, rfl, rfl, ha, hb, h1⟩ | ⟨a, b, c, cs, rfl, rfl, ha, hb, hc, h1, h2⟩ | ⟨h3, hal⟩
    · simp at hl2
    · simp at hl2
    · exact ⟨a, b, cs, rfl, rfl, ha, hb, h1⟩
    · simp at hl2
    · omega
   simp [sMerge, lastK, hak, hk, e1, ha, hb, h1, w1]
   refine zaa (hna _ ?h1) ?_
   case h1 => simp [hk, e1, tyC]
   rintro _ H2 ⟨rfl, rfl⟩
   by_cases e : kindV n nm = 1
   · simp [sMerge, lastK, ha, hb, h1, w1, hak, e]
     exact fun j x hj => off1 hw hj
   · have e2 : ¬ (kindV n nm : Int) = 1 := by omega
     simp [sMerge, lastK, ha, hb, h1, w1, hak, e, e2]
     exact fun j x hj => off1 hw hj
theorem of_Call : OfD G sCall := by
 intro H k lv wv kv n ah kl nm num pos ks h
 obtain ⟨hk, hv, hl, hah, hn, hkv, hkl⟩ := h
 refine kept (fun _ => rfl) (Does.wf Tryz.call143 fun hw _ => ?_)
 have e1 : k ≠ H.next := by have := (hw _ _ hk).1; omega
 refine zaf Tryz.call143 Tryz.func143 rfl (by simp [Tryz.f143]) ?_
 have hna := fun (H : AHeap) h => zaw (G := G) (H := H) (k := k) (lv := lv) (wv := wv) (n := n) h hn nm
 have hof : ofK ah n sCall nm kl = zdE ah nm kl := by simp [ofK, sInt, sBool, sVar, sNot, sNeg, sPre, sFby, sWhen, sIf, sMerge, sCall]
 rw [hof]
 clear hof
 have hsc := hkv.sc
 have hcl := hkv.cells
 have w0 : IntKind.i64.wrap 0 = 0 := by decide
 have w1 : IntKind.i64.wrap 1 = 1 := by decide
 have w2 : IntKind.i64.wrap 2 = 2 := by decide
 have hb := fun (H : AHeap) h => tcall_does (G := G) (H := H) (k := k) (lv := lv) (wv := wv) (n := n) h hv hl hah hkv hkl sCall nm num pos ks
 rw [zab] at hb ⊢
 simp only [sCall] at hb
 simp [sCall]
 refine zaa (hb _ ?h1) ?_
 case h1 => simp [hk, e1]
 rintro _ H2 ⟨rfl, rfl⟩
 simp
 exact fun j x hj => off1 hw hj
theorem of_does (op : Bs) (hop : op ∈ opsAll) : OfD G op := by
 simp only [opsAll, List.mem_cons, List.not_mem_nil, or_false] at hop
 rcases hop with rfl | rfl | rfl | rfl | rfl | rfl | rfl | rfl | rfl | rfl | rfl | rfl | rfl | rfl | rfl | rfl | rfl | rfl | rfl | rfl | rfl | rfl | rfl | rfl | rfl | rfl
 · exact of_Int
 · exact of_Bool
 · exact of_Var
 · exact of_Not
 · exact of_Neg
 · exact of_Pre
 · exact of_Add
 · exact of_Sub
 · exact of_Mul
 · exact of_Div
 · exact of_Mod
 · exact of_Lt
 · exact of_Le
 · exact of_Gt
 · exact of_Ge
 · exact of_And
 · exact of_Or
 · exact of_Xor
 · exact of_Eq
 · exact of_Ne
 · exact of_Arr
 · exact of_Fby
 · exact of_When
 · exact of_If
 · exact of_Mrg
 · exact of_Call
end Go.Proofs.YtnejkhhnpbcmaaaGreatDoor
namespace Go.Rp
open Go Go.Abs
theorem frz_old1 {H0 H : AHeap} (hw : H0.Wf) {i : Nat} (hi : H0.next <= i) {cs : List AV} {j : Nat} {x : AObj} (h0 : H0.get j = some x) (h : H.get j = some x) : (H.frz i cs).get j = some x := by
 have h1 := hw j x h0
 simp only [AHeap.frz]
 rw [if_neg (by omega), h]
 cases x with
 | cells c => simp only; rw [AV.frzs_lt hi c h1.2]
 | row t c => simp only; rw [AV.frzs_lt hi c h1.2]
 | map es =>
   have h2 := h1.2
   rw [AObj.cellsList, AV.allLt_append, Bool.and_eq_true] at h2
   have e1 := AV.frzs_fst i cs es
   have e2 := AV.frzs_snd i cs es
   rw [AV.frzs_lt hi _ h2.1] at e1
   rw [AV.frzs_lt hi _ h2.2] at e2
   simp only
   congr 2
   exact zf3 e1 e2
theorem vrels_of {E E' : Env} {g : AV -> AV} (h : ∀ {a : AV} {v : Value}, VRel E a v -> VRel E' (g a) v) : ∀ {as_ : List AV} {vs : List Value}, VRels E as_ vs -> VRels E' (as_.map g) vs
 | _, _, .nil => .nil
 | _, _, .cons hv t => .cons (h hv) (vrels_of h t)
theorem Does.lend {P : Program} {G : Nat -> Option AV} {f : FuncId} {args : List AV} {H : AHeap} {i : Nat} {cs : List AV} {R : AV -> AHeap -> Prop} (hi : H.get i = some (.cells cs))
  (h : Does P G f (args.map (AV.frz i cs)) (H.frz i cs) R) : Does P G f args H R :=
 ⟨fun E w vs hR hG hv => by
  obtain ⟨E', hx, hR', hk⟩ := hR.frz hi
  exact (h.run E' w vs hR' (hG.mono hx.knows) (vrels_of hk hv)).mono fun v w' ⟨r, H1, E1, g1, g2, g3, g4⟩ => ⟨r, H1, E1, g1, hx.trans g2, g3, g4⟩⟩
def Gr (H : AHeap) (z n : Nat) (cs : List AV) (v : AV) (b : Nat -> Prop) : Prop :=
 (n = 0 /\ cs = [] /\ v = .nilsl) \/ ∃ p o cap op pre junk, v = .sl p o z n cap op /\ b p /\ H.get p = some (.cells (pre ++ (cs ++ junk))) /\ pre.length = o /\ cs.length = n * z /\ n * z + junk.length = cap * z /\ n <= cap
theorem Gr.keep {H H' : AHeap} {z n : Nat} {cs : List AV} {v : AV} {b : Nat -> Prop} (h : Gr H z n cs v b) (hk : ∀ j x, b j -> H.get j = some x -> H'.get j = some x) : Gr H' z n cs v b := by
 rcases h with h | ⟨p, o, cap, op, pre, junk, h1, h2, h3, h4⟩
 · exact .inl h
 · exact .inr ⟨p, o, cap, op, pre, junk, h1, h2, hk p _ h2 h3, h4⟩
theorem Gr.mono {H : AHeap} {z n : Nat} {cs : List AV} {v : AV} {b b' : Nat -> Prop} (h : Gr H z n cs v b) (hb : ∀ j, b j -> b' j) : Gr H z n cs v b' := by
 rcases h with h | ⟨p, o, cap, op, pre, junk, h1, h2, h3⟩
 · exact .inl h
 · exact .inr ⟨p, o, cap, op, pre, junk, h1, hb p h2, h3⟩
theorem Gr.sc {H : AHeap} {z n : Nat} {cs : List AV} {v : AV} {b : Nat -> Prop} (h : Gr H z n cs v b) : v.scalar = true := by
 rcases h with ⟨_, _, rfl⟩ | ⟨p, o, cap, op, pre, junk, rfl, _⟩ <;> rfl
theorem Gr.cells {H : AHeap} {z n : Nat} {cs : List AV} {v : AV} {b : Nat -> Prop} (h : Gr H z n cs v b) : v.cells = [v] := by
 rcases h with ⟨_, _, rfl⟩ | ⟨p, o, cap, op, pre, junk, rfl, _⟩ <;> rfl
theorem Gr.alen {H : AHeap} {z n : Nat} {cs : List AV} {v : AV} {b : Nat -> Prop} (h : Gr H z n cs v b) {P : Program} {t e : TypeId} (ht : P.underlying t = some (.slice e)) : Go.Abs.alen P t v = some (.int .i64 n) := by
 rcases h with ⟨rfl, _, rfl⟩ | ⟨p, o, cap, op, pre, junk, rfl, _⟩
 · simp [Go.Abs.alen, ht]
 · simp [Go.Abs.alen, ht]
theorem Gr.len {H : AHeap} {z n : Nat} {cs : List AV} {v : AV} {b : Nat -> Prop} (h : Gr H z n cs v b) : zbR v = some n := by
 rcases h with ⟨rfl, _, rfl⟩ | ⟨p, o, cap, op, pre, junk, rfl, _⟩ <;> rfl
structure ElemOk (P : Program) (t u e : TypeId) (z by_ : Nat) : Prop where
 slice : P.underlying t = some (.slice e)
 seq : ∃ d, P.underlying u = some d /\ isSeq d = true
 info : ∃ info zz, P.info? e = some info /\ azero P e = some zz /\ zz.cells.length = z /\ info.size = z /\ info.bytes = by_
theorem Gr.app {P : Program} {t u e : TypeId} {z by_ : Nat} (he : ElemOk P t u e z by_) {H : AHeap} {n m : Nat} {cs news : List AV} {v x : AV} {b : Nat -> Prop} (h : Gr H z n cs v b)
  (hx : ∀ k i, x ≠ .int k i) (hl : zbR x = some m) (hf : zaK H.get z m x = some news) (hsc : news.all AV.scalar = true) (hn : news.length = m * z) (h0 : 0 < m) (hz : 0 < z) (hb1 : (n + m) * by_ <= 140737488355328) (hb2 : n + m <= 4611686018427387904) {nx : Nat} (hnx : nx = H.next) :
  ∃ v' eff, zaF P t u H.get nx v x = some (v', eff) /\ Gr (H.eff eff) z (n + m) (cs ++ news) v' (fun j => b j \/ j = H.next) /\ (∀ j, ¬ b j -> j ≠ H.next -> (H.eff eff).get j = H.get j) /\ H.next <= (H.eff eff).next := by
 subst hnx
 obtain ⟨d, hu, hd⟩ := he.seq
 obtain ⟨info, zz, i1, i2, i3, i4, i5⟩ := he.info
 have hunf : ∀ s, zaF P t u H.get H.next s x = (match s with
       | .nilsl => if m = 0 then some (.nilsl, .same)
         else if m * info.bytes <= 140737488355328 /\ m <= 4611686018427387904 then some (.sl H.next 0 info.size m m true, .new (.cells news)) else none
       | .vsl cs len => if m = 0 then some (.vsl cs len, .same) else none
       | .csl cs len => if m = 0 then some (.csl cs len, .same)
         else if len * info.size <= cs.length /\ (len + m) * info.bytes <= 140737488355328 /\ len + m <= 4611686018427387904 then some (.sl H.next 0 info.size (len + m) (len + m) true, .new (.cells (cs.take (len * info.size) ++ news)))
         else none
       | .sl i o zz len cap opn => if zz = info.size then
         match H.get i with
         | some (.cells cs) =>
           if len + m <= cap then
            if o + (len + m) * zz <= cs.length then some (.sl i o zz (len + m) cap opn, .put i (.cells (splice cs (o + len * zz) news))) else none
           else if o + len * zz <= cs.length /\ (len + m) * info.bytes <= 140737488355328 /\ len + m <= 4611686018427387904 then
            if opn then some (.sl H.next 0 zz (len + m) (len + m) true, .move i (.cells ((cs.drop o).take (len * zz) ++ news)))
            else some (.sl H.next 0 zz (len + m) (len + m) true, .new (.cells ((cs.drop o).take (len * zz) ++ news)))
           else none
         | _ => none
         else none
       | _ => none) := by
  intro s
  unfold zaF
  split
  · exact absurd rfl (hx _ _)
  · have hf' : zaK H.get info.size m x = some news := by rw [i4]; exact hf
    simp only [he.slice, hu, hd, i1, i2, if_true, hl, hf']
    rw [if_pos (i3.trans i4.symm), if_pos ⟨hsc, by rw [i4]; exact hn⟩]
    rfl
 rw [hunf]
 rcases h with ⟨rfl, rfl, rfl⟩ | ⟨p, o, cap, op, pre, junk, rfl, h2, h3, h4, h5, h6, h7⟩
 · simp only
   rw [if_neg (by omega), if_pos (by rw [i5]; simp only [Nat.zero_add] at hb1 hb2; exact ⟨hb1, hb2⟩)]
   refine ⟨_, _, rfl, .inr ⟨H.next, 0, m, true, [], [], by rw [i4, Nat.zero_add], .inr rfl, by simp, rfl, by simpa using hn, by simp, by omega⟩, fun j _ hj => by simp [hj], by simp⟩
 · have hpl : o + (n + m) * z <= (pre ++ (cs ++ junk)).length \/ cap < n + m := by
    rcases Nat.lt_or_ge cap (n + m) with q | q
    · exact .inr q
    · left
      have := Nat.mul_le_mul_right z q
      simp only [List.length_append]; omega
   have htk : ((pre ++ (cs ++ junk)).drop o).take (n * z) = cs := by rw [List.drop_left' h4, List.take_left' h5]
   have hle : o + n * z <= (pre ++ (cs ++ junk)).length := by simp only [List.length_append]; omega
   simp only [h3]
   rw [if_pos i4.symm]
   by_cases hc : n + m <= cap
   · rw [if_pos hc, if_pos (by rcases hpl with q | q <;> omega)]
     refine ⟨_, _, rfl, .inr ⟨p, o, cap, op, pre, junk.drop (m * z), rfl, .inl h2, ?_, h4, ?_, ?_, hc⟩, fun j hj _ => ?_, by simp⟩
     · have e : splice (pre ++ (cs ++ junk)) (o + n * z) news = pre ++ ((cs ++ news) ++ junk.drop (m * z)) := by
        unfold splice
        have e1 : (pre ++ (cs ++ junk)).take (o + n * z) = pre ++ cs := by
         rw [<- List.append_assoc, List.take_left' (by simp [h4, h5])]
        have e2 : (pre ++ (cs ++ junk)).drop (o + n * z + news.length) = junk.drop (m * z) := by
         rw [<- List.append_assoc, <- List.drop_drop, List.drop_left' (by simp [h4, h5]), hn]
        rw [e1, e2, List.append_assoc, List.append_assoc]
       rw [e]
       simp
     · rw [List.length_append, h5, hn, Nat.add_mul]
     · rw [List.length_drop, Nat.add_mul]
       have := Nat.mul_le_mul_right z hc
       rw [Nat.add_mul] at this
       omega
     · have : j ≠ p := fun e => hj (e ▸ h2)
       simp [this]
   · rw [if_neg hc, if_pos ⟨hle, by rw [i5]; exact hb1, hb2⟩, htk]
     have gr : ∀ H' : AHeap, H'.get H.next = some (.cells (cs ++ news)) -> Gr H' z (n + m) (cs ++ news) (.sl H.next 0 z (n + m) (n + m) true) (fun j => b j \/ j = H.next) := fun H' hg =>
      .inr ⟨H.next, 0, n + m, true, [], [], rfl, .inr rfl, by simpa using hg, rfl, by rw [List.length_append, h5, hn, Nat.add_mul], by simp, Nat.le_refl _⟩
     cases op
     · exact ⟨_, _, rfl, gr _ (by simp), fun j _ hj => by simp [hj], by simp⟩
     · refine ⟨_, _, rfl, gr _ (by simp), fun j hb hj => ?_, by simp⟩
       have : j ≠ p := fun e => hb (e ▸ h2)
       simp [hj, this]
theorem appPut {P : Program} {t u : TypeId} {get : Nat -> Option AObj} {next : Nat} {s x v' : AV} {eff : AEff} (hx : ∀ k i, x ≠ .int k i) (h : zaF P t u get next s x = some (v', eff)) {i : Nat} {y : AObj} (e : eff = .put i y) : ∃ z, get i = some z := by
 subst e
 unfold zaF at h
 split at h
 · exact absurd rfl (hx _ _)
 · repeat' split at h
   all_goals first
    | (simp only [Option.some.injEq, Prod.mk.injEq, reduceCtorEq, and_false] at h; done)
    | (simp only [Option.some.injEq, Prod.mk.injEq, AEff.put.injEq] at h; obtain ⟨_, rfl, _⟩ := h; exact ⟨_, by assumption⟩)
    | cases h
theorem effLt {H : AHeap} (hw : ∀ j x, H.get j = some x -> j < H.next) {eff : AEff} (he : ∀ i y, eff = .put i y -> ∃ z, H.get i = some z) : ∀ j x, (H.eff eff).get j = some x -> j < (H.eff eff).next := by
 intro j x hj
 cases eff with
 | same => exact hw j x hj
 | put i y =>
   simp only [AHeap.eff, AHeap.get_set, AHeap.next_set] at hj ⊢
   split at hj
   · rename_i e
     obtain ⟨z, hz⟩ := he i y rfl
     rw [e]; exact hw _ _ hz
   · exact hw j x hj
 | new y =>
   simp only [AHeap.eff, AHeap.get_push, AHeap.next_push] at hj ⊢
   split at hj
   · omega
   · have := hw j x hj; omega
 | move i y =>
   simp only [AHeap.eff, AHeap.get_push, AHeap.next_push, AHeap.next_kill, AHeap.get_kill] at hj ⊢
   have hj : (if j = H.next then some y else if j = i then none else H.get j) = some x := hj
   by_cases e : j = H.next
   · omega
   · rw [if_neg e] at hj
     by_cases e2 : j = i
     · rw [if_pos e2] at hj; cases hj
     · rw [if_neg e2] at hj
       have := hw j x hj; omega
theorem pushLt {H : AHeap} (hw : ∀ j x, H.get j = some x -> j < H.next) (y : AObj) : ∀ j x, (H.push y).get j = some x -> j < (H.push y).next := by
 intro j x hj
 simp only [AHeap.get_push, AHeap.next_push] at hj ⊢
 split at hj
 · omega
 · have := hw j x hj; omega
theorem grLt {H : AHeap} {z n : Nat} {cs : List AV} {v : AV} {b : Nat -> Prop} (h : Gr H z n cs v b) (hw : ∀ j x, H.get j = some x -> j < H.next) : Gr H z n cs v (fun j => b j /\ j < H.next /\ ∃ c, H.get j = some (.cells c)) := by
 rcases h with h | ⟨p, o, cap, op, pre, junk, h1, h2, h3, h4⟩
 · exact .inl h
 · exact .inr ⟨p, o, cap, op, pre, junk, h1, ⟨h2, hw _ _ h3, _, h3⟩, h3, h4⟩
theorem zfp {P : Program} {t u e : TypeId} {z by_ : Nat} (he : ElemOk P t u e z by_) {H : AHeap} (hlt : ∀ j x, H.get j = some x -> j < H.next) {n : Nat} {cs news : List AV} {v x : AV} {b : Nat -> Prop} (h : Gr H z n cs v b)
  (hx : ∀ k i, x ≠ .int k i) (hl : zbR x = some 1) (hf : zaK H.get z 1 x = some news) (hsc : news.all AV.scalar = true) (hn : news.length = 1 * z) (hz : 0 < z) (hb1 : (n + 1) * by_ <= 140737488355328) (hb2 : n + 1 <= 4611686018427387904) {nx : Nat} (hnx : nx = H.next) :
  ∃ v' eff, zaF P t u H.get nx v x = some (v', eff) /\ Gr (H.eff eff) z (n + 1) (cs ++ news) v' (fun j => (b j \/ H.next <= j) /\ j < (H.eff eff).next) /\ (∀ j, ¬ b j -> j < H.next -> (H.eff eff).get j = H.get j) /\ H.next <= (H.eff eff).next := by
 obtain ⟨v', eff, f1, f2, f3, f4⟩ := h.app he hx hl hf hsc hn (by omega) hz hb1 hb2 hnx
 refine ⟨v', eff, f1, ?_, fun j h1 h2 => f3 j h1 (by omega), f4⟩
 have hl2 := effLt hlt fun i y e => appPut hx (hnx ▸ f1) e
 exact (grLt f2 hl2).mono fun j hj => ⟨hj.1.imp id (fun q => by omega), hj.2.1⟩
end Go.Rp
namespace Go.Proofs.YtnejkhhnpbcmaaaGreatDoor
open Go Go.Abs Go.Lex Go.Syn Go.Rp
variable {G : Nat -> Option AV}
theorem zj3 : ElemOk Tryz.prog 104 104 3 1 8 := ⟨by simp, ⟨.slice 3, by simp, rfl⟩, by simp⟩
theorem elemKind : ElemOk Tryz.prog 202 202 126 1 8 := ⟨by simp, ⟨.slice 126, by simp, rfl⟩, by simp⟩
structure TyAt (H : AHeap) (k : Nat) (lv : AV) (n : Nd) (m : Nat) (b : Nat -> Prop) (wv : AV) (cs : List AV) : Prop where
 hk : H.get k = some (.cells (tyC lv n wv))
 gr : Gr H 1 m cs wv b
 nk : ¬ b k
 nn : ∀ c ∈ cs, ∃ z : Int, 0 <= z /\ c = .int .i64 z
 lt : ∀ j, b j -> j < H.next
def Worse (H : AHeap) (k : Nat) (lv : AV) (n : Nd) (m : Nat) (b : Nat -> Prop) (h : AHeap) : Prop := H.next <= h.next /\ (∃ wv cs, TyAt h k lv n (m + 1) (fun j => (b j \/ H.next <= j) /\ j < h.next) wv cs) /\ ∀ j x, j ≠ k -> ¬ b j -> H.get j = some x -> h.get j = some x
theorem TyAt.mono {H : AHeap} {k : Nat} {lv wv : AV} {n : Nd} {m : Nat} {b b' : Nat -> Prop} {cs : List AV} (h : TyAt H k lv n m b wv cs) (hb : ∀ j, b j -> b' j) (hk : ¬ b' k) (hl : ∀ j, b' j -> j < H.next) : TyAt H k lv n m b' wv cs :=
 ⟨h.hk, h.gr.mono hb, hk, h.nn, hl⟩
theorem Worse.back {H H1 h : AHeap} {k : Nat} {lv : AV} {n : Nd} {m : Nat} {b : Nat -> Prop} (hw : Worse H1 k lv n m b h) (hn : H.next <= H1.next) (hk : k < H.next) (hb : ¬ b k) (hkp : ∀ j x, H.get j = some x -> H1.get j = some x) : Worse H k lv n m b h := by
 obtain ⟨h1, ⟨wv, cs, h2⟩, h3⟩ := hw
 refine ⟨by omega, ⟨wv, cs, h2.mono (fun j hj => ⟨hj.1.imp id (fun q => by omega), hj.2⟩) (fun hj => hj.1.elim hb (fun q => by omega)) (fun j hj => hj.2)⟩, fun j x q1 q2 hj => h3 j x q1 q2 (hkp j x hj)⟩
def TyD (G : Nat -> Option AV) (ah : List Nd) (n : Nd) (e : Ex) : Prop := ∀ (H : AHeap) (k m : Nat) (lv wv : AV) (b : Nat -> Prop) (cs : List AV), TyAt H k lv n m b wv cs -> m <= 10000000 -> NsA lv ah ->
    Does Tryz.prog G 107 [.ptr k 0, .agg (zas e)] H fun r h => r = .int .i64 (kindE ah n e) /\ ((kindE ah n e ≠ 0 /\ h = H) \/ (kindE ah n e = 0 /\ Worse H k lv n m b h))
theorem zjw {ah : List Nd} {n : Nd} {ks : List Ex} {i : Nat} {x : Ex} (h : ks[i]? = some x) (hx : kindE ah n x ≠ 0) {l : List Nat} (hl : zby ah n (ks.take i) = some l) : zby ah n (ks.take (i + 1)) = some (l ++ [kindE ah n x]) := by
 have hlt := (List.getElem?_eq_some_iff.1 h).1
 rw [List.take_add_one, h]
 have : ∀ (a : List Ex) (l : List Nat), zby ah n a = some l -> zby ah n (a ++ [x]) = some (l ++ [kindE ah n x]) := by
  intro a
  induction a with
  | nil =>
    intro l h
    simp only [zby, Option.some.injEq] at h
    subst h
    simp [zby, hx]
  | cons y a ih =>
    intro l h
    rw [zby] at h
    split at h
    · simp at h
    · rename_i hy
      cases hq : zby ah n a with
      | none => rw [hq] at h; simp at h
      | some l' =>
        rw [hq] at h
        simp only [Option.map_some, Option.some.injEq] at h
        subst h
        rw [List.cons_append, zby, if_neg hy, ih l' hq]; rfl
 exact this _ _ hl
theorem zjx {ah : List Nd} {n : Nd} {ks : List Ex} {x : Ex} (h : x ∈ ks) (hx : kindE ah n x = 0) : zby ah n ks = none := by
 induction ks with
 | nil => simp at h
 | cons y a ih =>
   rw [zby]
   rcases List.mem_cons.1 h with rfl | h
   · rw [if_pos hx]
   · split
     · rfl
     · rw [ih h]; rfl
theorem ofLive {H H1 : AHeap} {k : Nat} {lv wv v : AV} {n : Nd} {ah : List Nd} {kl : List Nat} {op nm : Lex.Bs} {num pos : Nat} {ks : List Ex} (hop : op ∈ opsAll) (hw : H.Wf) (hk : H.get k = some (.cells (tyC lv n wv))) (hkp : ∀ j x, H.get j = some x -> H1.get j = some x)
  (hbx : H1.get H.next = some (.cells [.str op, .str nm, .int .i64 num, .int .i64 pos, kidsV ks])) (hgr : Gr H1 1 kl.length (kCs kl) v (fun x => H.next < x)) (hv : NsA lv ah) (hl : ah.length <= 1000000) (hah : ∀ d ∈ ah, NdOk d) (hn : nlen n <= 1000000) (hkl : kl.length <= 1000000) :
  Does Tryz.prog G 143 [.ptr k 0, .agg [.str op, .str nm, .int .i64 num, .int .i64 pos, kidsV ks], v] H1 fun r h => r = .int .i64 (ofK ah n op nm kl) /\ H1.next <= h.next /\ h.get H.next = some (.cells [.str op, .str nm, .int .i64 num, .int .i64 pos, kidsV ks]) /\ ∀ j x, H.get j = some x -> h.get j = some x := by
 have hof := of_does (G := G) op hop
 have hkn := zac hw hk
 rcases hgr with ⟨h0, _, rfl⟩ | ⟨p, o, cap, opn, pre, junk, rfl, hp, hg, ho, hcl, _, _⟩
 · have hk0 : kl = [] := List.length_eq_zero_iff.1 h0
   subst hk0
   have := hof H1 k lv wv .nilsl n ah [] nm num pos ks ⟨hkp _ _ hk, hv, hl, hah, hn, .inl ⟨rfl, rfl⟩, by simp⟩
   rw [zab] at this
   exact this.mono fun r h ⟨g1, g2⟩ => by rw [g2]; exact ⟨g1, Nat.le_refl _, hbx, hkp⟩
 · have hfz : ∀ j x, H.get j = some x -> (H1.frz p (pre ++ (kCs kl ++ junk))).get j = some x := fun j x hj => frz_old1 hw (by omega) hj (hkp j x hj)
   have hfb : (H1.frz p (pre ++ (kCs kl ++ junk))).get H.next = some (.cells [.str op, .str nm, .int .i64 num, .int .i64 pos, kidsV ks]) := by
    simp only [AHeap.frz]
    rw [if_neg (by omega), hbx]
    simp only
    rw [AV.frzs_lt (n := 0) (by omega) _ (by simp [AV.allLt, AV.idLt, za1])]
   have hks : AV.frz p (pre ++ (kCs kl ++ junk)) (kidsV ks) = kidsV ks := AV.frz_lt (n := 0) (by omega) _ (za1 0 ks)
   refine Does.lend hg ?_
   have := hof (H1.frz p (pre ++ (kCs kl ++ junk))) k lv wv (.vsl (kCs kl) kl.length) n ah kl nm num pos ks ⟨hfz _ _ hk, hv, hl, hah, hn, .inr ⟨[], fun _ => rfl, by simp⟩, hkl⟩
   rw [zab] at this
   have e1 : ([.ptr k 0, .agg [.str op, .str nm, .int .i64 num, .int .i64 pos, kidsV ks], .sl p o 1 kl.length cap opn] : List AV).map (AV.frz p (pre ++ (kCs kl ++ junk))) = [.ptr k 0, .agg [.str op, .str nm, .int .i64 num, .int .i64 pos, kidsV ks], .vsl (kCs kl) kl.length] := by
    have q : k ≠ p := by omega
    have q2 : ((pre ++ (kCs kl ++ junk)).drop o).take (kl.length * 1) = kCs kl := by rw [List.drop_left' ho, List.take_left' hcl]
    rw [Nat.mul_one] at q2
    simp [AV.frz, AV.frzs, hks, q, q2]
   rw [e1]
   exact this.mono fun r h ⟨g1, g2⟩ => by rw [g2]; exact ⟨g1, Nat.le_refl _, hfb, hfz⟩
theorem zjc {ah : List Nd} {n : Nd} (hl : ah.length <= 1000000) (hah : ∀ d ∈ ah, NdOk d) (hn : nlen n <= 1000000) {op nm : Lex.Bs} (hop : op ∈ opsAll) {num pos : Nat} {ks : List Ex} (hlen : ks.length <= 1000000) (hK : ∀ e ∈ ks, TyD G ah n e) : TyD G ah n (.mk op nm num pos ks) := by
 intro H k m lv wv b cs hT hm hv
 refine Does.wfs fun hw0 _ => Does.ghost (R := fun r h => r = .int .i64 (kindE ah n (.mk op nm num pos ks)) /\ ((kindE ah n (.mk op nm num pos ks) ≠ 0 /\ ∀ j x, H.get j = some x -> h.get j = some x) \/ (kindE ah n (.mk op nm num pos ks) = 0 /\ Worse H k lv n m b h))) ?_ fun r H1 ⟨hr, hc⟩ => by
  rcases hc with ⟨h1, h2⟩ | h1
  · exact ⟨r, H, Ghost.back hw0 (by rw [hr]; rfl) h2, hr, .inl ⟨h1, rfl⟩⟩
  · exact ⟨r, H1, Ghost.sub (Nat.le_refl _) (fun _ _ h => h), hr, .inr h1⟩
 refine Does.wf Tryz.call107 fun hw _ => ?_
 have hk := hT.hk
 have e1 : k ≠ H.next := by have := (hw _ _ hk).1; omega
 have hkn := zac hw hk
 refine zaf Tryz.call107 Tryz.func107 rfl (by simp [Tryz.f107]) ?_
 have hka := zbo ks
 have hof := of_does (G := G) op hop
 unfold OfD at hof
 rw [zab] at *
 simp [hka, -alen]
 refine zai (fun j T' H' => ∃ (i : Nat) (kl : List Nat), i + j = ks.length /\ T' 0 = .ptr k 0 /\ T' 3 = .ptr H.next 0 /\ T' 11 = kidsV ks /\ T' 12 = .int .i64 ks.length /\ T' 13 = .int .i64 i /\ zby ah n (ks.take i) = some kl /\ kl.length = i /\ Gr H' 1 i (kCs kl) (T' 5) (fun x => H.next < x) /\ H'.get H.next = some (.cells [.str op, .str nm, .int .i64 num, .int .i64 pos, kidsV ks]) /\ ∀ j x, H.get j = some x -> H'.get j = some x) ks.length ?_ ?_
 · exact ⟨0, [], by simp, by simp, by simp, by simp, by simp, by simp, rfl, rfl, .inl ⟨rfl, rfl, by simp⟩, by simp, fun j x hj => off1 hw hj⟩
 rintro j T H1 ⟨i, kl, hij, t0, t3, t11, t12, t13, hkE, hkl, hgr, hbx, hkp⟩ hw1 _
 have hnx1 := zac hw1 hbx
 by_cases hi : i < ks.length
 · have hii : (i : Int) < ks.length := by omega
   obtain ⟨x, hx⟩ : ∃ x, ks[i]? = some x := ⟨_, List.getElem?_eq_getElem hi⟩
   have hkv : kidsV ks = .vsl (zae ks) ks.length := by unfold kidsV; rw [if_neg (by cases ks <;> simp_all)]
   have hat := zb0 hx
   have hlen5 := zap ks
   have h5 : 5 <= (zae ks).length - i * 5 := by omega
   have hxm := List.mem_of_getElem? hx
   have hd := hK x hxm
   have hstep := fun h0 => zjw hx h0 hkE
   have hnone := fun h0 => zjx (ah := ah) (n := n) hxm h0
   have wr : IntKind.i64.wrap ((i : Int) + 1) = ((i + 1 : Nat) : Int) := by rw [IntWalk.i64_in _ (by omega)]; omega
   -- the typer at the call
   have hT1 : TyAt (H1.push (.cells (zas x))) k lv n m b wv cs := ⟨by
     have : k ≠ H1.next := by omega
     simp [this, hkp _ _ hk], hT.gr.keep fun y z hy hz => by
     have : y ≠ H1.next := by have := hT.lt y hy; omega
     simp [this, hkp _ _ hz], hT.nk, hT.nn, fun y hy => by have := hT.lt y hy; simp; omega⟩
   have hd1 := hd _ k m lv wv b cs hT1 hm hv
   obtain ⟨op', nm', n', p', ks'⟩ := x
   simp only [zab] at hat hd1
   simp [t0, t3, t11, t12, t13, hii, hi, hkv, hat, h5]
   refine zav hd1 ?_
   rintro _ H2 ⟨rfl, hcase⟩ hw2 _
   rcases hcase with ⟨hz, rfl⟩ | ⟨hz, hws⟩
   · have hz' : ¬ (kindE ah n (.mk op' nm' n' p' ks') : Int) = 0 := by omega
     simp [t0, t3, t11, t12, t13, hz, hz', hgr.sc, hgr.cells, -zaF]
     obtain ⟨kx, hkx⟩ : ∃ kx, kx = kindE ah n (.mk op' nm' n' p' ks') := ⟨_, rfl⟩
     rw [<- hkx] at hstep hz' ⊢
     obtain ⟨v', eff, f1, f2, f3, f4⟩ := (hgr.keep (H' := (H1.push (.cells [.str op', .str nm', .int .i64 n', .int .i64 p', kidsV ks'])).push (.cells [.int .i64 kx])) fun y z hy hz => by
      have := zac hw1 hz
      have q1 : y ≠ H1.next := by omega
      have q2 : y ≠ H1.next + 1 := by omega
      simp [q1, q2, hz]).app elemKind (m := 1) (x := .sl (H1.next + 1) 0 1 1 1 false) (news := [.int .i64 kx]) (fun _ _ e => by cases e) rfl (by simp [zaK]) (by simp) rfl (by omega) (by omega) (by omega) (by omega) (nx := H1.next + 1 + 1) (by simp)
     simp only [AHeap.next_push] at f2 f3 f4
     rw [f1]
     simp [f2.sc, f2.cells, t0, t3, t11, t12, t13, -zaF]
     refine ⟨j - 1, by omega, i + 1, by omega, wr, kl ++ [kx], hstep (by omega), by simp [hkl], ?_, ?_, ?_⟩
     · rw [show kCs (kl ++ [kx]) = kCs kl ++ [.int .i64 kx] by simp [kCs]]
       exact f2.mono fun y hy => by
        rcases hy with hy | hy
        · exact hy
        · omega
     · rw [f3 _ (by omega) (by omega)]
       simp [show H.next ≠ H1.next by omega, show H.next ≠ H1.next + 1 by omega, hbx]
     · intro y z hy
       have l1 := zac hw hy
       rw [f3 _ (by omega) (by omega)]
       simp [show y ≠ H1.next by omega, show y ≠ H1.next + 1 by omega, hkp _ _ hy]
   · have hz' : (kindE ah n (.mk op' nm' n' p' ks') : Int) = 0 := by omega
     simp [t0, t3, t11, t12, t13, hz, hz']
     have hk0 : kindE ah n (.mk op nm num pos ks) = 0 := by rw [kindE, hnone hz]
     rw [hk0]
     refine ⟨rfl, .inr ⟨rfl, hws.back (by simp; omega) hkn hT.nk fun y z hy => ?_⟩⟩
     have l1 := zac hw hy
     simp [show y ≠ H1.next by omega, hkp _ _ hy]
 · obtain rfl : i = ks.length := by omega
   rw [List.take_length] at hkE
   have hbo := hgr
   have hkd : kindE ah n (.mk op nm num pos ks) = ziq (ofK ah n op nm kl) := by rw [kindE, hkE]
   simp [t0, t3, t11, t12, t13, hbx]
   refine zav (ofLive hop hw hk hkp hbx (by rw [hkl]; exact hgr) hv hl hah hn (by omega)) ?_
   rintro _ H2 ⟨rfl, hn2, hbx2, hkp2⟩ hw2 _
   obtain ⟨kx, hkx⟩ : ∃ kx, kx = ofK ah n op nm kl := ⟨_, rfl⟩
   rw [<- hkx] at hkd ⊢
   have hwrong : kx ≠ 1 -> kx ≠ 2 -> kindE ah n (.mk op nm num pos ks) = 0 := fun a b => by
    rw [hkd]; unfold ziq; rw [if_neg (by omega)]
   by_cases k1 : kx = 1
   · subst k1
     simp [t0, t3]
     rw [hkd]
     exact ⟨rfl, .inl ⟨by simp [ziq], hkp2⟩⟩
   · by_cases k2 : kx = 2
     · subst k2
       simp [t0, t3]
       rw [hkd]
       exact ⟨rfl, .inl ⟨by simp [ziq], hkp2⟩⟩
     · have k1' : ((kx : Int) != 1) = true := by simp; omega
       have k2' : ((kx : Int) != 2) = true := by simp; omega
       have hk2 := hkp2 _ _ hk
       simp only [tyC] at hk2
       simp [t0, t3, k1', k2']
       have hg2 : Gr (H2.push (.cells [.int .i64 pos])) 1 m cs wv b := hT.gr.keep fun y z hy hz => by
        have l1 := hT.lt y hy
        have : y ≠ H2.next := by omega
        simp [this, hkp2 _ _ hz]
       obtain ⟨v', eff, f1, f2, f3, f4⟩ := zfp zj3 (pushLt (fun j x => zac hw2) _) hg2 (x := .sl H2.next 0 1 1 1 false) (news := [.int .i64 pos]) (fun _ _ e => by cases e) rfl (by simp [zaK]) (by simp) rfl (by omega) (by omega) (by omega) (nx := H2.next + 1) (by simp)
       simp only [AHeap.next_push] at f2 f3 f4
       refine zak [(4, 0), (6, 0)] mixedOrders (by kernel_rfl) ?_
       intro es hes
       simp [t0, t3, hk2, hbx2, hT.gr.sc, hT.gr.cells, -zaF]
       rw [f1]
       generalize hH4 : H2.push (.cells [.int .i64 pos]) = H4 at *
       have hkl2 : k < H2.next := zac hw2 hk2
       have hn4 : H4.next = H2.next + 1 := by rw [<- hH4]; simp
       have hk4 : (H4.eff eff).get k = some (.cells [lv, .str n.name, vsV n.ins, vsV n.outs, vsV n.locals, eqsV n.eqs, .int .i64 n.pos, wv]) := by
        rw [f3 k hT.nk (by omega), <- hH4]
        simp [show k ≠ H2.next by omega, hk2]
       simp [hk4, f2.sc, f2.cells]
       refine ⟨by subst hes; exact ⟨by kernel_rfl, by kernel_rfl⟩, by simp [rds, heapF, hk2, hbx2, hT.gr.sc, hT.gr.cells], ?_⟩
       clear hes es
       have hk0 := hwrong k1 k2
       rw [hk0]
       refine ⟨rfl, .inr ⟨rfl, ?_, ⟨v', cs ++ [.int .i64 pos], ⟨by simp [tyC], ?_, ?_, ?_, ?_⟩⟩, ?_⟩⟩
       · simp only [AHeap.next_set]; omega
       · refine (f2.keep fun y z hy hz => ?_).mono fun y hy => ⟨hy.1.imp id (fun q => by omega), by simpa using hy.2⟩
         have : y ≠ k := by
          rcases hy.1 with q | q
          · exact fun e => hT.nk (e ▸ q)
          · omega
         simp [this, hz]
       · intro q
         rcases q.1 with q | q
         · exact hT.nk q
         · omega
       · intro c hc
         rcases List.mem_append.1 hc with hc | hc
         · exact hT.nn c hc
         · simp at hc; exact ⟨pos, by omega, hc⟩
       · exact fun y hy => hy.2
       · intro y z hyk hyb hy
         have l1 := zac hw hy
         rw [AHeap.get_set, if_neg hyk, f3 y hyb (by omega), <- hH4]
         simp [show y ≠ H2.next by omega, hkp2 _ _ hy]
theorem zjd {ah : List Nd} {n : Nd} (hl : ah.length <= 1000000) (hah : ∀ d ∈ ah, NdOk d) (hn : nlen n <= 1000000) (e : Ex) : opsIn e = true -> e.wt <= 1000000 -> TyD G ah n e :=
 zer (P := fun e => opsIn e = true -> e.wt <= 1000000 -> TyD G ah n e) (fun op nm num pos ks ih ho hw => by
  rw [Ex.wt] at hw
  rw [opsIn, Bool.and_eq_true] at ho
  have := zcw ks
  exact zjc hl hah hn (by simpa using ho.1) (by omega) fun k hk => ih k hk (zg2 ho.2 hk) (by have := zcn hk; omega)) e
structure NdOk2 (n : Nd) : Prop extends NdOk n where
 ops : ∀ q ∈ n.eqs, opsIn q.e = true
def locOk (n : Nd) (v : Va) : Bool := v.on == [] || kindV n v.on == 1
def eqOk (ah : List Nd) (n : Nd) (q : Eqn) : Bool := kindE ah n q.e != 0 && kindE ah n q.e == kindV n q.name
theorem tynode_run {H : AHeap} {k : Nat} {lv : AV} {n : Nd} {ah : List Nd} (hk : H.get k = some (.cells (tyC lv n .nilsl))) (hv : NsA lv ah) (hl : ah.length <= 1000000) (hah : ∀ d ∈ ah, NdOk d) (hn : NdOk2 n) :
  Does Tryz.prog G 56 [.ptr k 0] H fun r h => ∃ m wv cs b, TyAt h k lv n m b wv cs /\ (m = 0 ↔ typN ah n = true) /\ ∀ j x, j ≠ k -> H.get j = some x -> h.get j = some x := by
 refine Does.wf Tryz.call56 fun hw _ => ?_
 have hkn := zac hw hk
 refine zaf Tryz.call56 Tryz.func56 rfl (by simp [Tryz.f56]) ?_
 have hal := zbT n.locals
 have hlo : n.locals.length <= 1000000 := by have := hn.vars; unfold nlen at this; omega
 have hev := VsA.vsV n.locals
 obtain ⟨A, hA⟩ : ∃ A : Nat -> Bool, ∀ i, A i = (n.locals.take i).all (locOk n) := ⟨_, fun _ => rfl⟩
 have hA0 : A 0 = true := by rw [hA]; rfl
 simp only [tyC] at hk
 simp [hk, hal, -alen]
 refine zai (fun j T' H' => ∃ (i m : Nat) (wv : AV) (cs : List AV) (b : Nat -> Prop), i + j = n.locals.length /\ m <= i /\ T' 0 = .ptr k 0 /\ T' 11 = vsV n.locals /\ T' 12 = .int .i64 n.locals.length /\ T' 13 = .int .i64 i /\ H.next <= H'.next /\ TyAt H' k lv n m b wv cs /\ (∀ y, b y -> H.next <= y) /\ (m = 0 ↔ A i = true) /\ ∀ j x, j ≠ k -> H.get j = some x -> H'.get j = some x) n.locals.length ?_ ?_
 · refine ⟨0, 0, .nilsl, [], fun _ => False, by simp, by omega, by simp, by simp, by simp, by simp, Nat.le_refl _, ⟨hk, .inl ⟨rfl, rfl, rfl⟩, fun h => h, fun c hc => by simp at hc, fun _ h => h.elim⟩, fun _ h => h.elim, by simp [hA0], fun _ _ _ h => h⟩
 rintro j T H1 ⟨i, m, wv, cs, b, hij, hmi, t0, t11, t12, t13, hnx, hT, hbH, hm0, hkp⟩ hw1 _
 have hk1 := hT.hk
 have hkn1 := zac hw1 hk1
 by_cases hi : i < n.locals.length
 · have hii : (i : Int) < n.locals.length := by omega
   obtain ⟨x, hx⟩ : ∃ x, n.locals[i]? = some x := ⟨_, List.getElem?_eq_getElem hi⟩
   obtain ⟨cl, hcl, hat, h5⟩ := hev.at hx
   have wr : IntKind.i64.wrap ((i : Int) + 1) = ((i + 1 : Nat) : Int) := by rw [IntWalk.i64_in _ (by omega)]; omega
   have htk : A (i + 1) = (A i && locOk n x) := by
    rw [hA, hA, List.take_add_one, hx, List.all_append]; simp
   have f1 : k ≠ H1.next := by omega
   have hna := fun (H : AHeap) h => zaw (G := G) (H := H) (k := k) (lv := lv) (wv := wv) (n := n) h hn.vars x.on
   simp only [zar] at hat
   simp only [tyC] at hk1 hna
   simp [t0, t11, t12, t13, hii, hi, hcl, hat, h5]
   by_cases hon : x.on = []
   · have hok : locOk n x = true := by unfold locOk; rw [hon]; rfl
     simp [t0, t11, t12, t13, hon]
     refine ⟨j - 1, by omega, i + 1, by omega, m, by omega, wr, by omega, wv, cs, b, ⟨by simp [f1, hk1, tyC], hT.gr.keep fun y z hy hz => ?_, hT.nk, hT.nn, fun y hy => by have := hT.lt y hy; simp; omega⟩, hbH, by rw [htk, hok, Bool.and_true]; exact hm0, fun y z hyk hy => off1 hw1 (hkp _ _ hyk hy)⟩
     have := hT.lt y hy
     simp [show y ≠ H1.next by omega, hz]
   · have hon2 : x.on.isEmpty = false := by simpa using hon
     simp [t0, hk1, f1, hon, hon2]
     refine zaa (hna _ ?h1) ?_
     case h1 => simp [f1, hk1]
     rintro _ H2 ⟨rfl, rfl⟩
     by_cases k1 : kindV n x.on = 1
     · have hok : locOk n x = true := by unfold locOk; rw [k1]; simp
       simp [t0, t11, t12, t13, k1, hon, hon2]
       refine ⟨j - 1, by omega, i + 1, by omega, m, by omega, wr, by omega, wv, cs, b, ⟨by simp [f1, hk1, tyC], hT.gr.keep fun y z hy hz => ?_, hT.nk, hT.nn, fun y hy => by have := hT.lt y hy; simp; omega⟩, hbH, by rw [htk, hok, Bool.and_true]; exact hm0, fun y z hyk hy => off1 hw1 (hkp _ _ hyk hy)⟩
       have := hT.lt y hy
       simp [show y ≠ H1.next by omega, hz]
     · have k1' : ((kindV n x.on : Int) != 1) = true := by simp; omega
       have hok : locOk n x = false := by unfold locOk; simp [hon, k1]
       simp [t0, t11, t12, t13, k1', hon, hon2]
       obtain ⟨H2, hH2⟩ : ∃ H2, H2 = H1.push (.cells [.str x.name, .int .i64 x.kind, .str x.on, .bool x.neg, .int .i64 x.pos]) := ⟨_, rfl⟩
       have hn2 : H2.next = H1.next + 1 := by rw [hH2]; simp
       have lt2 : ∀ y z, H2.get y = some z -> y < H2.next := by rw [hH2]; exact pushLt (fun y z => zac hw1) _
       have hb2 : H2.get H1.next = some (.cells [.str x.name, .int .i64 x.kind, .str x.on, .bool x.neg, .int .i64 x.pos]) := by rw [hH2]; simp
       have hT2 : TyAt H2 k lv n m b wv cs := ⟨by rw [hH2]; simp [f1, hk1, tyC], hT.gr.keep fun y z hy hz => by
        have := hT.lt y hy
        rw [hH2]
        simp [show y ≠ H1.next by omega, hz], hT.nk, hT.nn, fun y hy => by have := hT.lt y hy; omega⟩
       have hkp2 : ∀ y z, y ≠ k -> H.get y = some z -> H2.get y = some z := fun y z hyk hy => by
        rw [hH2]
        exact off1 hw1 (hkp y z hyk hy)
       rw [<- hH2]
       have hk2 := hT2.hk
       have hnx2 := lt2 _ _ hk2
       simp only [tyC] at hk2
       have hg2 : Gr (H2.push (.cells [.int .i64 x.pos])) 1 m cs wv b := hT2.gr.keep fun y z hy hz => by
        have l1 := hT2.lt y hy
        simp [show y ≠ H2.next by omega, hz]
       obtain ⟨v', eff, g1, g2, g3, g4⟩ := zfp zj3 (pushLt lt2 _) hg2 (x := .sl H2.next 0 1 1 1 false) (news := [.int .i64 x.pos]) (fun _ _ e => by cases e) rfl (by simp [zaK]) (by simp) rfl (by omega) (by omega) (by omega) (nx := H2.next + 1) (by simp)
       simp only [AHeap.next_push] at g2 g3 g4
       refine zak [(4, 0), (6, 0)] mixedOrders (by kernel_rfl) ?_
       intro es hes
       simp [t0, hk2, hb2, hT2.gr.sc, hT2.gr.cells, -zaF]
       rw [g1]
       generalize hH4 : H2.push (.cells [.int .i64 x.pos]) = H4 at *
       have hn4 : H4.next = H2.next + 1 := by rw [<- hH4]; simp
       have hk4 : (H4.eff eff).get k = some (.cells [lv, .str n.name, vsV n.ins, vsV n.outs, vsV n.locals, eqsV n.eqs, .int .i64 n.pos, wv]) := by
        rw [g3 k hT2.nk (by omega), <- hH4]
        simp [show k ≠ H2.next by omega, hk2]
       have hT4 : TyAt ((H4.eff eff).set k (.cells [lv, .str n.name, vsV n.ins, vsV n.outs, vsV n.locals, eqsV n.eqs, .int .i64 n.pos, v'])) k lv n (m + 1) (fun y => (b y \/ H2.next + 1 <= y) /\ y < (H4.eff eff).next) v' (cs ++ [.int .i64 x.pos]) := by
        refine ⟨by simp [tyC], g2.keep fun y z hy hz => ?_, fun q => ?_, fun c hc => ?_, fun y hy => by simpa using hy.2⟩
        · have : y ≠ k := by
           rcases hy.1 with q | q
           · exact fun e => hT2.nk (e ▸ q)
           · omega
          simp [this, hz]
        · rcases q.1 with q | q
          · exact hT2.nk q
          · omega
        · rcases List.mem_append.1 hc with hc | hc
          · exact hT2.nn c hc
          · simp at hc; exact ⟨_, by omega, hc⟩
       have hkp4 : ∀ y z, y ≠ k -> H.get y = some z -> ((H4.eff eff).set k (.cells [lv, .str n.name, vsV n.ins, vsV n.outs, vsV n.locals, eqsV n.eqs, .int .i64 n.pos, v'])).get y = some z := fun y z hyk hy => by
        have l1 := zac hw hy
        have l2 := lt2 _ _ (hkp2 y z hyk hy)
        rw [AHeap.get_set, if_neg hyk, g3 y (fun q => by have := hbH y q; omega) (by omega), <- hH4]
        simp [show y ≠ H2.next by omega, hkp2 y z hyk hy]
       simp [hk4, g2.sc, g2.cells]
       refine ⟨by subst hes; exact ⟨by kernel_rfl, by kernel_rfl⟩, by simp [rds, heapF, hk2, hb2, hT2.gr.sc, hT2.gr.cells], ?_⟩
       clear hes es
       simp [t0, t11, t12, t13]
       refine ⟨j - 1, by omega, i + 1, by omega, m + 1, by omega, wr, by omega, v', _, _, hT4, fun y hy => ?_, by rw [htk, hok]; simp, hkp4⟩
       rcases hy.1 with q | q
       · exact hbH y q
       · omega
 · obtain rfl : i = n.locals.length := by omega
   have hAl : A n.locals.length = n.locals.all (locOk n) := by rw [hA, List.take_length]
   have hal2 := zcj n.eqs
   have hq := hn.eqs
   simp only [tyC] at hk1
   simp [t0, t11, t12, t13, hk1, hal2, -alen]
   obtain ⟨B, hB⟩ : ∃ B : Nat -> Bool, ∀ i, B i = (n.eqs.take i).all (eqOk ah n) := ⟨_, fun _ => rfl⟩
   have hB0 : B 0 = true := by rw [hB]; rfl
   have hty : typN ah n = (A n.locals.length && B n.eqs.length) := by rw [hAl, hB, List.take_length]; rfl
   refine zai (fun j T' H' => ∃ (i m : Nat) (wv : AV) (cs : List AV) (b : Nat -> Prop), i + j = n.eqs.length /\ m <= n.locals.length + 2 * i /\ T' 0 = .ptr k 0 /\ T' 43 = eqsV n.eqs /\ T' 44 = .int .i64 n.eqs.length /\ T' 45 = .int .i64 i /\ H.next <= H'.next /\ TyAt H' k lv n m b wv cs /\ (∀ y, b y -> H.next <= y) /\ (m = 0 ↔ (A n.locals.length && B i) = true) /\ ∀ j x, j ≠ k -> H.get j = some x -> H'.get j = some x) n.eqs.length ?_ ?_
   · exact ⟨0, m, wv, cs, b, by simp, by omega, by simp [t0], by simp, by simp, by simp, hnx, hT, hbH, by rw [hB0, Bool.and_true]; exact hm0, hkp⟩
   clear hT hbH hm0 hkp hnx hk1 hmi
   rintro j2 T2 H1 ⟨i, m, wv, cs, b, hij2, hmi, u0, u43, u44, u45, hnx, hT, hbH, hm0, hkp⟩ hw1 _
   have hk1 := hT.hk
   have hkn1 := zac hw1 hk1
   by_cases hi2 : i < n.eqs.length
   · have hii : (i : Int) < n.eqs.length := by omega
     obtain ⟨x, hx⟩ : ∃ x, n.eqs[i]? = some x := ⟨_, List.getElem?_eq_getElem hi2⟩
     have hxm := List.mem_of_getElem? hx
     have hat := zcQ hx
     have hpv := zcs hi2
     have hlen7 := zaq n.eqs
     have h7 : 7 <= (zag n.eqs).length - i * 7 := by omega
     have wr : IntKind.i64.wrap ((i : Int) + 1) = ((i + 1 : Nat) : Int) := by rw [IntWalk.i64_in _ (by omega)]; omega
     have f1 : k ≠ H1.next := by omega
     have htk : B (i + 1) = (B i && eqOk ah n x) := by
      rw [hB, hB, List.take_add_one, hx, List.all_append]; simp
     have hT1 : TyAt (H1.push (.cells (zao x))) k lv n m b wv cs := ⟨by simp [f1, hk1], hT.gr.keep fun y z hy hz => by
      have : y ≠ H1.next := by have := hT.lt y hy; omega
      simp [this, hz], hT.nk, hT.nn, fun y hy => by have := hT.lt y hy; simp; omega⟩
     have hd1 := zjd (G := G) hl hah hn.vars x.e (hn.ops x hxm) (hn.wt x hxm) _ k m lv wv b cs hT1 (by omega) hv
     have hek : eqOk ah n x = (kindE ah n x.e != 0 && kindE ah n x.e == kindV n x.name) := rfl
     obtain ⟨qn, ⟨op, nm, num, pos, ks⟩, qp⟩ := x
     simp only [zao, zab, List.cons_append, List.nil_append] at hat hd1
     simp [u0, u43, u44, u45, hii, hi2, hpv, hat, h7]
     refine zav hd1 ?_
     rintro _ H2 ⟨rfl, hcase⟩ hw2 _
     obtain ⟨kx, hkx⟩ : ∃ kx, kx = kindE ah n (.mk op nm num pos ks) := ⟨_, rfl⟩
     rw [<- hkx] at hcase hek ⊢
     have lt2 : ∀ y z, H2.get y = some z -> y < H2.next := fun y z => zac hw2
     obtain ⟨m2, wv2, cs2, b2, hT2, hbH2, hm2, hm2', hb2, hkp2, hnx2⟩ : ∃ m2 wv2 cs2 b2, TyAt H2 k lv n m2 b2 wv2 cs2 /\ (∀ y, b2 y -> H.next <= y) /\ (m2 = 0 ↔ m = 0 /\ kx ≠ 0) /\ m2 <= m + 1 /\ H2.get H1.next = some (.cells [.str qn, .str op, .str nm, .int .i64 num, .int .i64 pos, kidsV ks, .int .i64 qp]) /\ (∀ y z, y ≠ k -> H.get y = some z -> H2.get y = some z) /\ H.next <= H2.next := by
      rcases hcase with ⟨h1, rfl⟩ | ⟨h1, h2, ⟨wv2, cs2, h3⟩, h4⟩
      · exact ⟨m, wv, cs, b, hT1, hbH, by simp [h1], by omega, by simp [zao, zab], fun y z hyk hy => off1 hw1 (hkp y z hyk hy), by simp; omega⟩
      · refine ⟨m + 1, wv2, cs2, _, h3, fun y hy => ?_, by simp [h1], by omega, h4 _ _ (Ne.symm f1) (fun q => by have := hT.lt _ q; omega) (by simp [zao, zab]), fun y z hyk hy => h4 y z hyk (fun q => by
         have l1 := zac hw hy
         have := hbH y q
         omega) (off1 hw1 (hkp y z hyk hy)), by simp at h2; omega⟩
        rcases hy.1 with q | q
        · exact hbH y q
        · simp at q; omega
     clear hcase hT1 hd1 hbH
     have hbH := hbH2
     have hna := zaw (G := G) hT2.hk hn.vars qn
     simp [u0, hb2]
     refine zaa hna ?_
     rintro _ H3 ⟨rfl, hh3⟩
     have hh4 := hh3.symm
     subst hh4
     by_cases ke : kx = kindV n qn
     · have ke' : ((kx : Int) != (kindV n qn : Int)) = false := by simp [ke]
       simp [u0, u43, u44, u45, ke']
       refine ⟨j2 - 1, by omega, i + 1, by omega, m2, by omega, wr, hnx2, wv2, cs2, b2, hT2, hbH2, ?_, hkp2⟩
       rw [hm2, hm0, htk, hek]
       simp [ke]
       exact and_assoc
     · have ke' : ((kx : Int) != (kindV n qn : Int)) = true := by simp; omega
       have hok : eqOk ah n ⟨qn, .mk op nm num pos ks, qp⟩ = false := by rw [hek]; simp [ke]
       simp [u0, u43, u44, u45, ke']
       have hk2 := hT2.hk
       have hnx2 := lt2 _ _ hk2
       simp only [tyC] at hk2
       have hg2 : Gr (H2.push (.cells [.int .i64 qp])) 1 m2 cs2 wv2 b2 := hT2.gr.keep fun y z hy hz => by
        have l1 := hT2.lt y hy
        simp [show y ≠ H2.next by omega, hz]
       obtain ⟨v', eff, g1, g2, g3, g4⟩ := zfp zj3 (pushLt lt2 _) hg2 (x := .sl H2.next 0 1 1 1 false) (news := [.int .i64 qp]) (fun _ _ e => by cases e) rfl (by simp [zaK]) (by simp) rfl (by omega) (by omega) (by omega) (nx := H2.next + 1) (by simp)
       simp only [AHeap.next_push] at g2 g3 g4
       refine zak [(4, 0), (6, 0)] mixedOrders (by kernel_rfl) ?_
       intro es hes
       simp [u0, hk2, hb2, hT2.gr.sc, hT2.gr.cells, -zaF]
       rw [g1]
       generalize hH4 : H2.push (.cells [.int .i64 qp]) = H4 at *
       have hn4 : H4.next = H2.next + 1 := by rw [<- hH4]; simp
       have hk4 : (H4.eff eff).get k = some (.cells [lv, .str n.name, vsV n.ins, vsV n.outs, vsV n.locals, eqsV n.eqs, .int .i64 n.pos, wv2]) := by
        rw [g3 k hT2.nk (by omega), <- hH4]
        simp [show k ≠ H2.next by omega, hk2]
       have hT4 : TyAt ((H4.eff eff).set k (.cells [lv, .str n.name, vsV n.ins, vsV n.outs, vsV n.locals, eqsV n.eqs, .int .i64 n.pos, v'])) k lv n (m2 + 1) (fun y => (b2 y \/ H2.next + 1 <= y) /\ y < (H4.eff eff).next) v' (cs2 ++ [.int .i64 qp]) := by
        refine ⟨by simp [tyC], g2.keep fun y z hy hz => ?_, fun q => ?_, fun c hc => ?_, fun y hy => by simpa using hy.2⟩
        · have : y ≠ k := by
           rcases hy.1 with q | q
           · exact fun e => hT2.nk (e ▸ q)
           · omega
          simp [this, hz]
        · rcases q.1 with q | q
          · exact hT2.nk q
          · omega
        · rcases List.mem_append.1 hc with hc | hc
          · exact hT2.nn c hc
          · simp at hc; exact ⟨_, by omega, hc⟩
       have hkp4 : ∀ y z, y ≠ k -> H.get y = some z -> ((H4.eff eff).set k (.cells [lv, .str n.name, vsV n.ins, vsV n.outs, vsV n.locals, eqsV n.eqs, .int .i64 n.pos, v'])).get y = some z := fun y z hyk hy => by
        have l1 := zac hw hy
        have l2 := lt2 _ _ (hkp2 y z hyk hy)
        rw [AHeap.get_set, if_neg hyk, g3 y (fun q => by have := hbH y q; omega) (by omega), <- hH4]
        simp [show y ≠ H2.next by omega, hkp2 y z hyk hy]
       simp [hk4, g2.sc, g2.cells]
       refine ⟨by subst hes; exact ⟨by kernel_rfl, by kernel_rfl⟩, by simp [rds, heapF, hk2, hb2, hT2.gr.sc, hT2.gr.cells], ?_⟩
       clear hes es
       simp [u0, u43, u44, u45]
       refine ⟨j2 - 1, by omega, i + 1, by omega, m2 + 1, by omega, wr, by omega, v', _, _, hT4, fun y hy => ?_, by rw [htk, hok]; simp, hkp4⟩
       rcases hy.1 with q | q
       · exact hbH y q
       · omega
   · obtain rfl : i = n.eqs.length := by omega
     simp [u0, u43, u44, u45]
     exact ⟨m, ⟨wv, cs, b, hT⟩, by rw [hm0, hty], hkp⟩
theorem zha {v : AV} {l : List Nd} (hv : NsA v l) (hl : l.length <= 1000000) (hn : ∀ n ∈ l, NdOk2 n) (H : AHeap) :
  Does Tryz.prog G 29 [v] H fun r h => FaultA (allN typN [] l) 9 r /\ h = H := by
 refine keptR (fun r n h => h.lt n) (Does.wf Tryz.call29 fun hw _ => ?_)
 refine zaf Tryz.call29 Tryz.func29 rfl (by simp [Tryz.f29]) ?_
 have hal := hv.alen
 have hsc := hv.sc
 simp [hal, hsc, hv.cells, -alen]
 refine zai (fun j T' H' => ∃ i : Nat, i + j = l.length /\ T' 0 = v /\ T' 2 = .ptr H.next 0 /\ T' 6 = v /\ T' 7 = .int .i64 l.length /\ T' 8 = .int .i64 i /\ allN typN [] l = allN typN (l.take i) (l.drop i) /\ H'.get H.next = some (.cells [.int .i64 0, .int .i64 0]) /\ ∀ j x, H.get j = some x -> H'.get j = some x) l.length ⟨0, by simp, by simp, by simp, by simp, by simp, by simp, by simp, by simp, fun j x hj => off1 hw hj⟩ ?_
 rintro j T H1 ⟨i, hij, t0, t2, t6, t7, t8, hA, hc, hkp⟩ hw1 _
 by_cases hi : i < l.length
 · have hii : (i : Int) < l.length := by omega
   obtain ⟨x, hx⟩ : ∃ x, l[i]? = some x := ⟨_, List.getElem?_eq_getElem hi⟩
   obtain ⟨cs, hcs, hat, h6⟩ := hv.at hx
   have htk := hv.take hcs i (by omega)
   have hxn := hn x (List.mem_of_getElem? hx)
   have hdr := ziP (f := typN) hx
   have wr : IntKind.i64.wrap ((i : Int) + 1) = ((i + 1 : Nat) : Int) := by rw [IntWalk.i64_in _ (by omega)]; omega
   have g1 : H.next ≠ H1.next := by have := zac hw1 hc; omega
   have hl0 : 0 < l.length := by omega
   have hl1 : (0 : Int) <= i := by omega
   have hl2 : (i : Int) <= l.length := by omega
   simp only [zah] at hat
   simp [t0, t2, t6, t7, t8, hii, hi, hcs, hat, h6]
   refine zak [(3, 0)] mixedOrders (by kernel_rfl) ?_
   intro es hes
   simp [t0, t2, t6, t7, t8, hcs, hl0, hl1, hl2, rds, heapF]
   refine ⟨⟨by subst hes; kernel_rfl, by subst hes; kernel_rfl⟩, ?_⟩
   clear hes
   refine zav (tynode_run (ah := l.take i) (lv := .vsl cs i) (n := x) (by simp [tyC]) htk (by rw [List.length_take]; omega) (fun d hd => (hn d (List.mem_of_mem_take hd)).toNdOk) hxn) ?_
   rintro r H2 ⟨m, wv, wcs, b, hT, hm0, hk2⟩ hw2 _
   have old : ∀ y w, H.get y = some w -> H2.get y = some w := fun y w hy => by
    have l2 := zac hw1 (hkp _ _ hy)
    exact hk2 _ _ (by omega) (by simp [show y ≠ H1.next by omega, show y ≠ H1.next + 1 by omega, hkp _ _ hy])
   have hc2 : H2.get H.next = some (.cells [.int .i64 0, .int .i64 0]) := hk2 _ _ (by have := zac hw1 hc; omega) (by
    have l2 := zac hw1 hc
    simp [g1, show H.next ≠ H1.next + 1 by omega, hc])
   have hkt := hT.hk
   simp only [tyC] at hkt
   have hnn := hT.nn
   rcases hT.gr with ⟨rfl, rfl, rfl⟩ | ⟨p, o, cap, opn, pre, junk, rfl, hp, hg, ho, hcl, _, _⟩
   · have ho := hm0.1 rfl
     simp [t0, t2, t6, t7, t8, hkt]
     refine ⟨j - 1, by omega, i + 1, by omega, wr, ?_, hc2, old⟩
     rw [hA, hdr, ho, Bool.true_and]
   · by_cases hm : m = 0
     · subst hm
       have ho := hm0.1 rfl
       simp [t0, t2, t6, t7, t8, hkt]
       refine ⟨j - 1, by omega, i + 1, by omega, wr, ?_, hc2, old⟩
       rw [hA, hdr, ho, Bool.true_and]
     · have hok : typN (l.take i) x = false := by
        cases hq : typN (l.take i) x with
        | false => rfl
        | true => exact absurd (hm0.2 hq) hm
       obtain ⟨c, wcs', rfl⟩ : ∃ c wcs', wcs = c :: wcs' := by
        match wcs, hcl with
        | [], h => simp at h; omega
        | c :: wcs', _ => exact ⟨c, wcs', rfl⟩
       obtain ⟨z, hz, rfl⟩ := hnn c (by simp)
       have hmp : (0 : Int) < m := by omega
       have hgo : (pre ++ ((.int .i64 z :: wcs') ++ junk))[o]? = some (.int .i64 z) := by
        rw [List.getElem?_append_right (by omega), ho]; simp
       have hol : o <= (pre ++ ((.int .i64 z :: wcs') ++ junk)).length := by simp; omega
       generalize hcc : pre ++ ((.int .i64 z :: wcs') ++ junk) = CC at hg hgo hol
       have hmp2 : 0 < m := by omega
       simp [t0, t2, t6, t7, t8, hkt, hm, hmp, hmp2, hg, hgo, hol, hc2]
       refine ⟨⟨9, z, rfl, fun h => ?_, fun _ => ⟨rfl, hz⟩⟩, fun y w hy => ?_⟩
       · rw [hA, hdr, hok] at h
         simp at h
       · have l1 := zac hw hy
         rw [if_neg (by omega)]
         exact old y w hy
 · obtain rfl : i = l.length := by omega
   simp [t0, t2, t6, t7, t8, hc]
   refine ⟨⟨0, 0, rfl, fun _ => ⟨rfl, rfl⟩, fun h => ?_⟩, fun y w hy => ?_⟩
   · rw [hA, List.drop_length, allN] at h
     simp at h
   · have l1 := zac hw hy
     rw [if_neg (by omega)]
     exact hkp y w hy
def zaN (s : Lex.Bs × Bool) : List AV := [.str s.1, .bool s.2]
def spCs : Clk -> List AV
 | [] => []
 | s :: l => zaN s ++ spCs l
def ckV (c : Clk) : AV := if c.isEmpty then .nilsl else .vsl (spCs c) c.length
theorem zbU : ∀ l : Clk, (spCs l).length = l.length * 2
 | [] => rfl
 | v :: l => by rw [spCs, List.length_append, zbU l]; simp [zaN]; omega
theorem zhf : ∀ a b : Clk, spCs (a ++ b) = spCs a ++ spCs b
 | [], b => rfl
 | v :: a, b => by rw [List.cons_append, spCs, spCs, zhf a b, List.append_assoc]
theorem zfy : ∀ {l : Clk} {i : Nat} {x : Lex.Bs × Bool}, l[i]? = some x -> ((spCs l).drop (i * 2)).take 2 = zaN x
 | [], i, x, h => by simp at h
 | a :: l, 0, x, h => by simp at h; subst h; simp [spCs, zaN]
 | a :: l, i + 1, x, h => by
   have := zfy (l := l) (i := i) (x := x) (by simpa using h)
   rw [spCs, show (i + 1) * 2 = 2 + i * 2 by omega, <- List.drop_drop, List.drop_left' (by rfl)]
   exact this
theorem zhe (n : Nat) : ∀ l : Clk, AV.allLt n (spCs l) = true
 | [] => rfl
 | v :: l => by rw [spCs, zbh, zhe n l]; simp [zaN, AV.allLt, AV.idLt]
theorem spCs_all : ∀ l : Clk, (spCs l).all AV.scalar = true
 | [] => rfl
 | v :: l => by rw [spCs, List.all_append, spCs_all l]; simp [zaN]
@[simp] theorem ckV_sc (l : Clk) : (ckV l).scalar = true := by unfold ckV; split <;> rfl
@[simp] theorem ckV_cl (l : Clk) : (ckV l).cells = [ckV l] := by unfold ckV; split <;> rfl
theorem ckV_lt (n : Nat) (l : Clk) : (ckV l).idLt n = true := by
 unfold ckV
 split
 · rfl
 · simpa [AV.idLt] using zhe n l
theorem zfX {l : Clk} {i : Nat} (h : i < l.length) : ckV l = .vsl (spCs l) l.length := by
 unfold ckV
 rw [if_neg (by cases l <;> simp_all)]
theorem zh6 (l : Clk) : Abs.alen Tryz.prog 110 (ckV l) = some (.int .i64 l.length) := by
 unfold ckV
 split
 · rename_i h
   have : l = [] := by simpa using h
   subst this
   simp [Abs.alen]
 · simp [Abs.alen]
theorem zhR (a b : Clk) (ha : a.length <= 1000000) (H : AHeap) : Does Tryz.prog G 109 [ckV a, ckV b] H fun r h => r = .bool (a == b) /\ h = H := by
 refine zaf Tryz.call109 Tryz.func109 rfl (by simp [Tryz.f109]) ?_
 have h1 := zh6 a
 have h2 := zh6 b
 by_cases hl : a.length = b.length
 · have e1 : ((a.length : Int) != b.length) = false := by simp [hl]
   simp [h1, h2, e1, -alen]
   refine za6 (fun j T' H' => H' = H /\ T' 0 = ckV a /\ T' 1 = ckV b /\ T' 12 = .int .i64 a.length /\ ∃ i : Nat, i + j = a.length /\ T' 13 = .int .i64 i /\ a.take i = b.take i) a.length ⟨rfl, by simp, by simp, by simp, 0, by simp, by simp, by simp⟩ ?_
   rintro j T H1 ⟨rfl, t0, t1, t12, i, hij, t13, hA⟩
   by_cases hi : i < a.length
   · have hii : (i : Int) < a.length := by omega
     have hi2 : i < b.length := by omega
     have hii2 : (i : Int) < b.length := by omega
     obtain ⟨x, hx⟩ : ∃ x, a[i]? = some x := ⟨_, List.getElem?_eq_getElem hi⟩
     obtain ⟨y, hy⟩ : ∃ y, b[i]? = some y := ⟨_, List.getElem?_eq_getElem hi2⟩
     have pa := zfX hi
     have pb := zfX hi2
     have qa := zfy hx
     have qb := zfy hy
     have la := zbU a
     have lb := zbU b
     have l2 : 2 <= (spCs a).length - i * 2 := by omega
     have l3 : 2 <= (spCs b).length - i * 2 := by omega
     have wr : IntKind.i64.wrap ((i : Int) + 1) = ((i + 1 : Nat) : Int) := by rw [IntWalk.i64_in _ (by omega)]; omega
     obtain ⟨xn, xb⟩ := x
     obtain ⟨yn, yb⟩ := y
     simp only [zaN] at qa qb
     simp [t0, t1, t12, t13, hii, hi]
     refine zaM mixedOrders (by kernel_rfl) ?_
     intro es hes
     have hne : (xn, xb) ≠ (yn, yb) -> (a == b) = false := fun q => by
      rw [beq_eq_false_iff_ne]
      intro h
      rw [h, hy] at hx
      exact q (by simpa using hx.symm)
     by_cases e1 : xn = yn
     · subst e1
       by_cases e2 : xb = yb
       · subst e2
         simp [t0, t1, t12, t13, hii, hii2, hi, hi2, pa, pb, qa, qb, l2, l3]
         refine ⟨by subst hes; kernel_rfl, j - 1, by omega, i + 1, by omega, wr, ?_⟩
         rw [List.take_add_one, List.take_add_one, hx, hy, hA]
       · have e3 : (xb == yb) = false := by simpa using e2
         simp [t0, t1, t12, t13, hii, hii2, hi, hi2, pa, pb, qa, qb, l2, l3, e3]
         refine ⟨by subst hes; kernel_rfl, ?_⟩
         exact beq_eq_false_iff_ne.1 (hne (by simp [e2]))
     · have e3 : (xn == yn) = false := by simpa using e1
       simp [t0, t1, t12, t13, hii, hii2, hi, hi2, pa, pb, qa, qb, l2, l3, e3]
       refine ⟨by subst hes; kernel_rfl, ?_⟩
       exact beq_eq_false_iff_ne.1 (hne (by simp [e1]))
   · obtain rfl : i = a.length := by omega
     simp [t0, t1, t12, t13]
     rw [List.take_length, hl, List.take_length] at hA
     exact hA
 · have e1 : ((a.length : Int) != b.length) = true := by simp; omega
   simp [h1, h2, e1, -alen]
   intro h
   exact hl (by rw [h])
mutual
def zbe : Tm -> List AV
 | .mk op nm n pos c ks an => [.str op, .str nm, .int .i64 n, .int .i64 pos, .nilsl, ckV c, if ks.isEmpty then .nilsl else .vsl (za5 ks) ks.length, .bool an]
def za5 : List Tm -> List AV
 | [] => []
 | e :: l => zbe e ++ za5 l
end
def tmsV (ks : List Tm) : AV := if ks.isEmpty then .nilsl else .vsl (za5 ks) ks.length
theorem zaS (op nm : Lex.Bs) (n pos : Nat) (c : Clk) (ks : List Tm) (an : Bool) : zbe (.mk op nm n pos c ks an) = [.str op, .str nm, .int .i64 n, .int .i64 pos, .nilsl, ckV c, tmsV ks, .bool an] := by rw [zbe]; rfl
theorem zdm (x : Tm) (c : Clk) (hx : x.clock.length <= 1000000) (H : AHeap) : Does Tryz.prog G 58 [.agg (zbe x), ckV c] H fun r h => r = .bool (fits x c) /\ h = H := by
 refine kept (fun _ => rfl) (Does.wf Tryz.call58 fun hw _ => ?_)
 refine zaf Tryz.call58 Tryz.func58 rfl (by simp [Tryz.f58]) ?_
 obtain ⟨op, nm, n, pos, cl, ks, an⟩ := x
 have he := fun H => zhR (G := G) cl c hx H
 rw [zaS]
 cases an with
 | true =>
   simp [fits, Tm.any]
   exact fun j x hj => off1 hw hj
 | false =>
   simp
   refine zaa (he _) ?_
   rintro _ H2 ⟨rfl, rfl⟩
   simp [fits, Tm.any, Tm.clock]
   exact fun j x hj => off1 hw hj
theorem clip_does (c : Clk) (H : AHeap) : Does Tryz.prog G 173 [ckV c] H fun r h => r = (if c.isEmpty then .nilsl else .csl (spCs c) c.length) /\ h = H := by
 refine zaf Tryz.call173 Tryz.func173 rfl (by simp [Tryz.f173]) ?_
 have h1 := zh6 c
 cases c with
 | nil => simp [ckV]
 | cons a c =>
   have hp : ckV (a :: c) = .vsl (spCs (a :: c)) (a :: c).length := zfX (i := 0) (by simp)
   have w0 : (0 : Int) <= (a :: c).length := by omega
   obtain ⟨m, hm⟩ : ∃ m, m = (a :: c).length := ⟨_, rfl⟩
   have hm0 : 0 < m := by rw [hm]; simp
   have w1 : (0 : Int) <= m := by omega
   rw [<- hm] at hp
   rw [hp]
   generalize spCs (a :: c) = CC
   simp [hm0, w1, <- hm]
theorem step_run (c : Clk) (nm : Lex.Bs) (nt : Bool) (hc : c.length <= 1000000) (H : AHeap) : Does Tryz.prog G 144 [ckV c, .str nm, .bool nt] H fun r H1 => ∃ i cap op junk, r = .sl i 0 2 (c ++ [(nm, nt)]).length cap op /\ H.next <= i /\ H1.get i = some (.cells (spCs (c ++ [(nm, nt)]) ++ junk)) /\ ∀ j x, H.get j = some x -> H1.get j = some x := by
 refine Does.wf Tryz.call144 fun hw _ => ?_
 refine zaf Tryz.call144 Tryz.func144 rfl (by simp [Tryz.f144]) ?_
 simp
 refine zaa (clip_does c _) ?_
 rintro _ H2 ⟨rfl, rfl⟩
 have hl := zbU c
 have k1 : (c.length + 1) * 24 <= 140737488355328 := by omega
 have k2 : c.length + 1 <= 4611686018427387904 := by omega
 have k3 : c.length <= 4611686018427387903 := by omega
 cases c with
 | nil =>
   simp
   exact ⟨⟨[], by simp [spCs, zaN]⟩, fun j x hj => off2 hw hj⟩
 | cons a c =>
   have hx : spCs (a :: c ++ [(nm, nt)]) = spCs (a :: c) ++ [.str nm, .bool nt] := by rw [zhf]; rfl
   have hsl := spCs_all (a :: c)
   simp only [List.isEmpty_cons]
   rw [hx, List.length_append]
   generalize spCs (a :: c) = CC at *
   generalize (a :: c).length = m at *
   have hl2 : m * 2 <= CC.length := by omega
   have ht : List.take (m * 2) CC = CC := List.take_of_length_le (by omega)
   simp [hl2, k1, k2, k3, ht]
   exact fun j x hj => off2 hw hj
theorem zhQ (c : Clk) (nm : Lex.Bs) (nt : Bool) (hc : c.length <= 1000000) (H : AHeap) : Does Tryz.prog G 144 [ckV c, .str nm, .bool nt] H fun r h => r = ckV (c ++ [(nm, nt)]) /\ h = H :=
 (fresh_sl (zbU _) (zhe _ _) (step_run c nm nt hc H)).mono fun r h ⟨h1, h2⟩ => ⟨by rw [h1, zfX (i := 0) (by simp)], h2⟩
def RevAt (l cur : Clk) (k : Nat) : Prop := cur.length = l.length /\ ∀ t, t < l.length -> cur[t]? = if t < k \/ l.length < t + k + 1 then l[l.length - 1 - t]? else l[t]?
theorem RevAt.zero (l : Clk) : RevAt l l 0 := ⟨rfl, fun t ht => by rw [if_neg (by omega)]⟩
theorem RevAt.done {l cur : Clk} {k : Nat} (h : RevAt l cur k) (hk : l.length <= 2 * k + 1) : cur = l.reverse := by
 apply List.ext_getElem?
 intro t
 by_cases ht : t < l.length
 · rw [h.2 t ht, List.getElem?_reverse ht]
   split
   · rfl
   · rename_i q
     have : l.length - 1 - t = t := by omega
     rw [this]
 · rw [List.getElem?_eq_none (by rw [h.1]; omega), List.getElem?_eq_none (by simp; omega)]
theorem RevAt.next {l cur : Clk} {k : Nat} (h : RevAt l cur k) (hk : k < l.length - 1 - k) {x y : Lex.Bs × Bool} (hx : cur[k]? = some x) (hy : cur[l.length - 1 - k]? = some y) : RevAt l ((cur.set k y).set (l.length - 1 - k) x) (k + 1) := by
 have h1 := h.2 k (by omega)
 have h2 := h.2 (l.length - 1 - k) (by omega)
 rw [if_neg (by omega), hx] at h1
 rw [if_neg (by omega), hy] at h2
 refine ⟨by simp [h.1], fun t ht => ?_⟩
 have hc := h.1
 rw [List.getElem?_set, List.getElem?_set]
 by_cases e1 : l.length - 1 - k = t
 · rw [if_pos e1, if_pos (by simp; omega), if_pos (by omega), <- e1, show l.length - 1 - (l.length - 1 - k) = k by omega, h1]
 · rw [if_neg e1]
   by_cases e2 : k = t
   · rw [if_pos e2, if_pos (by omega), if_pos (by omega), <- e2, h2]
   · rw [if_neg e2, h.2 t ht]
     by_cases e3 : t < k \/ l.length < t + k + 1
     · rw [if_pos e3, if_pos (by omega)]
     · rw [if_neg e3, if_neg (by omega)]
theorem spCs_set {l : Clk} {i : Nat} (h : i < l.length) (x : Lex.Bs × Bool) : splice (spCs l) (i * 2) (zaN x) = spCs (l.set i x) := by
 unfold splice
 induction l generalizing i with
 | nil => simp at h
 | cons a l ih =>
   cases i with
   | zero => simp [spCs, zaN]
   | succ i =>
     have := ih (i := i) (by simpa using h)
     have e1 : (i + 1) * 2 = 2 + i * 2 := by omega
     have hl : (zaN a).length = 2 := rfl
     rw [spCs, List.set_cons_succ, spCs, <- this, e1, List.take_add, List.take_left' hl, List.drop_left' hl, List.append_assoc]
     congr 1
     congr 1
     congr 1
     rw [show 2 + i * 2 + (zaN x).length = 2 + (i * 2 + (zaN x).length) by omega, <- List.drop_drop, List.drop_left' hl]
theorem setSelf {H : AHeap} {k : Nat} {x : AObj} (h : H.get k = some x) : H.set k x = H := by
 refine AHeap.ext' rfl fun i => ?_
 simp only [AHeap.get_set]
 split
 · rename_i e; rw [e, h]
 · rfl
theorem zhS {l : Clk} {pre junk : List AV} {i o : Nat} (ho : pre.length = o) (h : i < l.length) (x : Lex.Bs × Bool) : splice (pre ++ (spCs l ++ junk)) (o + i * 2) (zaN x) = pre ++ (spCs (l.set i x) ++ junk) := by
 have hl := zbU l
 have h2 : (zaN x).length = 2 := rfl
 rw [<- spCs_set h x]
 subst ho
 unfold splice
 rw [List.take_length_add_append, show pre.length + i * 2 + (zaN x).length = pre.length + (i * 2 + (zaN x).length) by omega, List.drop_length_add_append, List.take_append_of_le_length (by omega), List.drop_append_of_le_length (by omega)]
 simp only [List.append_assoc]
theorem zhY {H : AHeap} {p o cap : Nat} {opn : Bool} {l : Clk} {pre junk : List AV} (hp : H.get p = some (.cells (pre ++ (spCs l ++ junk)))) (ho : pre.length = o) (hl : l.length <= 1000000) (hpos : 0 < l.length) :
  Does Tryz.prog G 111 [.sl p o 2 l.length cap opn] H fun r h => h = H.set p (.cells (pre ++ (spCs l.reverse ++ junk))) := by
 refine zaf Tryz.call111 Tryz.func111 rfl (by simp [Tryz.f111]) ?_
 obtain ⟨n, hn⟩ : ∃ n, n = l.length := ⟨_, rfl⟩
 rw [<- hn] at hl hpos ⊢
 have w1 : IntKind.i64.wrap ((n : Int) - 1) = ((n - 1 : Nat) : Int) := by rw [IntWalk.i64_in _ (by omega)]; omega
 simp [w1]
 refine za6 (fun j T' H' => ∃ (k : Nat) (cur : Clk), T' 0 = .sl p o 2 n cap opn /\ T' 2 = .int .i64 k /\ T' 3 = .int .i64 ((n : Int) - 1 - k) /\ n <= 2 * k + j /\ k <= n /\ RevAt l cur k /\ H' = H.set p (.cells (pre ++ (spCs cur ++ junk)))) n ⟨0, l, by simp, by simp, by simp; omega, by omega, by omega, RevAt.zero l, (setSelf hp).symm⟩ ?_
 rintro j T H1 ⟨k, cur, t0, t2, t3, hj, hkn, hR, rfl⟩
 have hcl := hR.1
 rw [<- hn] at hcl
 by_cases hk : k < n - 1 - k
 · have hk1 : (k : Int) < (n : Int) - 1 - k := by omega
   obtain ⟨q, hq⟩ : ∃ q, q = n - 1 - k := ⟨_, rfl⟩
   have hqi : (n : Int) - 1 - k = (q : Int) := by omega
   rw [hqi] at t3 hk1
   obtain ⟨x, hx⟩ : ∃ x, cur[k]? = some x := ⟨_, List.getElem?_eq_getElem (by omega)⟩
   obtain ⟨y, hy⟩ : ∃ y, cur[q]? = some y := ⟨_, List.getElem?_eq_getElem (by omega)⟩
   have hN := hR.next (k := k) (by omega) hx (by rw [<- hn, <- hq]; exact hy)
   rw [<- hn, <- hq] at hN
   have la := zbU cur
   have hax : List.take 2 (List.drop (o + k * 2) (pre ++ (spCs cur ++ junk))) = zaN x := by
    rw [<- ho, List.drop_length_add_append, List.drop_append_of_le_length (by omega), List.take_append_of_le_length (by rw [List.length_drop]; omega)]
    exact zfy hx
   have hay : List.take 2 (List.drop (o + q * 2) (pre ++ (spCs cur ++ junk))) = zaN y := by
    rw [<- ho, List.drop_length_add_append, List.drop_append_of_le_length (by omega), List.take_append_of_le_length (by rw [List.length_drop]; omega)]
    exact zfy hy
   have s1 := zhS (junk := junk) (l := cur) (i := k) ho (by omega) y
   have s2 := zhS (junk := junk) (l := cur.set k y) (i := q) ho (by simp; omega) x
   have b1 : 2 <= (pre ++ (spCs cur ++ junk)).length - (o + k * 2) := by rw [List.length_append, List.length_append]; omega
   have b2 : 2 <= (pre ++ (spCs cur ++ junk)).length - (o + q * 2) := by rw [List.length_append, List.length_append]; omega
   have b5 : o + k * 2 <= (pre ++ (spCs cur ++ junk)).length := by rw [List.length_append, List.length_append]; omega
   have b6 : o + q * 2 <= (pre ++ (spCs cur ++ junk)).length := by rw [List.length_append, List.length_append]; omega
   have b3 : o + k * 2 + 2 <= (pre ++ (spCs cur ++ junk)).length := by rw [List.length_append, List.length_append]; omega
   have b4 : o + q * 2 + 2 <= (pre ++ (spCs (cur.set k y) ++ junk)).length := by rw [List.length_append, List.length_append, zbU]; simp; omega
   have wk : IntKind.i64.wrap ((k : Int) + 1) = ((k + 1 : Nat) : Int) := by rw [IntWalk.i64_in _ (by omega)]; omega
   have wq : IntKind.i64.wrap ((q : Int) - 1) = (n : Int) - 1 - ((k + 1 : Nat) : Int) := by rw [IntWalk.i64_in _ (by omega)]; omega
   have hq2 : (q : Int) < n := by omega
   have hk2 : (k : Int) < n := by omega
   have hq3 : q < n := by omega
   have hk3 : k < n := by omega
   obtain ⟨xn, xb⟩ := x
   obtain ⟨yn, yb⟩ := y
   simp only [zaN] at hax hay s1 s2
   generalize hC0 : pre ++ (spCs cur ++ junk) = C0 at *
   generalize hC1 : pre ++ (spCs (cur.set k (yn, yb)) ++ junk) = C1 at *
   simp [t0, t2, t3, hk1]
   refine zak [(7, 0), (11, 0)] mixedOrders (by kernel_rfl) ?_
   intro es hes
   simp [t0, t2, t3, hq2, hk2, hq3, hk3, hax, hay, b1, b2, b3, b4, b5, b6, s1, s2, rds, heapF, -splice]
   exact ⟨⟨by subst hes; kernel_rfl, by subst hes; kernel_rfl⟩, j - 1, by omega, k + 1, wk, wq, by omega, by omega, _, hN, rfl⟩
 · have hk1 : ¬ (k : Int) < (n : Int) - 1 - k := by omega
   simp [t0, t2, t3, hk1]
   rw [hR.done (by omega)]
theorem zjj (H : AHeap) : Does Tryz.prog G 111 [.nilsl] H fun r h => h = H := by
 refine zaf Tryz.call111 Tryz.func111 rfl (by simp [Tryz.f111]) ?_
 have w1 : IntKind.i64.wrap (-1) = -1 := by decide
 simp [w1]
 refine za6 (fun j T' H' => H' = H /\ T' 2 = .int .i64 0 /\ T' 3 = .int .i64 (-1)) 0 ⟨rfl, by simp, by simp⟩ ?_
 rintro j T H1 ⟨rfl, t2, t3⟩
 simp [t2, t3]
def ClkR (c : Clk) (b : Nat -> Prop) (h : AHeap) (v : AV) : Prop := (c = [] /\ v = .nilsl) \/ ∃ p o cap op pre junk, v = .sl p o 2 c.length cap op /\ b p /\ h.get p = some (.cells (pre ++ (spCs c ++ junk))) /\ pre.length = o /\ 0 < c.length
theorem ClkR.mono {c : Clk} {b b' : Nat -> Prop} {h : AHeap} {v : AV} (q : ClkR c b h v) (hb : ∀ j, b j -> b' j) : ClkR c b' h v := by
 rcases q with q | ⟨p, o, cap, op, pre, junk, h1, h2, h3⟩
 · exact .inl q
 · exact .inr ⟨p, o, cap, op, pre, junk, h1, hb p h2, h3⟩
theorem elemStep : ElemOk Tryz.prog 110 110 170 2 24 := ⟨by simp, ⟨.slice 170, by simp, rfl⟩, by simp⟩
theorem zdR (V : List Va) : ∀ (k : Nat) (nm : Lex.Bs), (zaE V k nm).length <= k
 | 0, nm => by simp [zaE]
 | k + 1, nm => by
   rw [zaE]
   cases findV V nm with
   | none => simp
   | some v =>
     simp only
     split
     · simp
     · have := zdR V k v.on
       simp; omega
theorem of_run {n : Nd} (hn : nlen n <= 1000000) (nm : Lex.Bs) (H : AHeap) : Does Tryz.prog G 59 [.agg (zah n), .str nm] H fun r H1 => ClkR (clkOf n nm) (fun y => H.next <= y) H1 r /\ ∀ j x, H.get j = some x -> H1.get j = some x := by
 refine Does.wf Tryz.call59 fun hw _ => ?_
 refine zaf Tryz.call59 Tryz.func59 rfl (by simp [Tryz.f59]) ?_
 have hal := zbT n.locals
 have hlo : n.locals.length <= 1000000 := by unfold nlen at hn; omega
 have hfd := fun nm H => zfL (G := G) hn nm H
 simp only [zah] at hfd
 have hcl : clkOf n nm = (zaE n.decl n.locals.length nm).reverse := rfl
 simp [zah, hal, -alen]
 refine zai (fun j T' H' => ∃ (i : Nat) (c : Clk) (nx : Lex.Bs), i + j = n.locals.length /\ T' 2 = .ptr H.next 0 /\ T' 1 = .str nx /\ T' 10 = .int .i64 n.locals.length /\ T' 11 = .int .i64 i /\ c.length = i /\ zaE n.decl n.locals.length nm = c ++ zaE n.decl j nx /\ (i = 0 -> T' 5 = .nilsl) /\ Gr H' 2 i (spCs c) (T' 5) (fun y => H.next < y) /\ H'.get H.next = some (.cells [.str n.name, vsV n.ins, vsV n.outs, vsV n.locals, eqsV n.eqs, .int .i64 n.pos]) /\ ∀ j x, H.get j = some x -> H'.get j = some x) n.locals.length ⟨0, [], nm, by simp, by simp, by simp, by simp, by simp, rfl, by simp, by simp, .inl ⟨rfl, rfl, by simp⟩, by simp, fun j x hj => off1 hw hj⟩ ?_
 rintro j T H1 ⟨i, c, nx, hij, t2, t1, t10, t11, hci, hch, h50, hgr, hbx, hkp⟩ hw1 _
 have hnx := zac hw1 hbx
 -- the end, from the steps so far
 have fin : ∀ (Hx : AHeap) (i : Nat) (c : Clk) (v : AV) (b : Nat -> Prop), c = zaE n.decl n.locals.length nm -> c.length = i -> (i = 0 -> v = .nilsl) -> Gr Hx 2 i (spCs c) v b -> Does Tryz.prog G 111 [v] Hx fun r h => ClkR (clkOf n nm) b h v /\ ∀ j x, ¬ b j -> Hx.get j = some x -> h.get j = some x := by
  intro Hx i c v b hc hci h0 hg
  rw [hcl, <- hc]
  have hil : i <= 1000000 := by
   have := zdR n.decl n.locals.length nm
   rw [<- hc] at this
   omega
  by_cases hz : i = 0
  · have hv := h0 hz
    have hcn : c = [] := List.length_eq_zero_iff.1 (by omega)
    subst hv
    subst hcn
    exact (zjj Hx).mono fun r h hh => by rw [hh]; exact ⟨.inl ⟨rfl, rfl⟩, fun _ _ _ q => q⟩
  · rcases hg with ⟨q, _, _⟩ | ⟨p, o, cap, opn, pre, junk, rfl, hbp, hgp, hpo, _, _, _⟩
    · exact absurd q hz
    · subst hci
      refine (zhY hgp hpo hil (by omega)).mono fun r h hh => ?_
      rw [hh]
      refine ⟨.inr ⟨p, o, cap, opn, pre, junk, by simp, hbp, by simp, hpo, by simp; omega⟩, fun j x hj q => ?_⟩
      rw [AHeap.get_set, if_neg (fun e => hj (by rw [e]; exact hbp))]
      exact q
 by_cases hi : i < n.locals.length
 · have hii : (i : Int) < n.locals.length := by omega
   obtain ⟨j, rfl⟩ : ∃ j', j = j' + 1 := ⟨j - 1, by omega⟩
   have wr : IntKind.i64.wrap ((i : Int) + 1) = ((i + 1 : Nat) : Int) := by rw [IntWalk.i64_in _ (by omega)]; omega
   obtain ⟨w, hw0⟩ : ∃ w, w = findV n.decl nx := ⟨_, rfl⟩
   have hch2 := hch
   rw [zaE, <- hw0] at hch2
   simp [t1, t2, t10, t11, hi, hii, hbx]
   refine zaa (hfd nx _) ?_
   rintro _ H2 ⟨rfl, rfl⟩
   rw [<- hw0]
   simp only [zar]
   cases w with
   | none =>
     have hce : c = zaE n.decl n.locals.length nm := by simpa using hch2.symm
     simp [t1, t2, t10, t11, va0, zar]
     refine zaa (fin _ _ _ _ _ hce hci h50 (hgr.keep fun y z hy hz => ?h1)) ?_
     case h1 =>
      have := zac hw1 hz
      simp [show y ≠ H2.next by omega, hz]
     rintro r H3 ⟨hr, hk3⟩
     simp
     refine ⟨hr.mono fun y hy => by omega, fun y z hy => hk3 y z (by have := zac hw hy; omega) ?_⟩
     · have l1 := zac hw1 (hkp _ _ hy)
       simp [show y ≠ H2.next by omega, hkp _ _ hy]
   | some v =>
     by_cases hon : v.on = []
     · have hce : c = zaE n.decl n.locals.length nm := by simpa [hon] using hch2.symm
       simp [t1, t2, t10, t11, hon, zar]
       refine zaa (fin _ _ _ _ _ hce hci h50 (hgr.keep fun y z hy hz => ?h1)) ?_
       case h1 =>
        have := zac hw1 hz
        simp [show y ≠ H2.next by omega, hz]
       rintro r H3 ⟨hr, hk3⟩
       simp
       refine ⟨hr.mono fun y hy => by omega, fun y z hy => hk3 y z (by have := zac hw hy; omega) ?_⟩
       · have l1 := zac hw1 (hkp _ _ hy)
         simp [show y ≠ H2.next by omega, hkp _ _ hy]
     · have hon2 : v.on.isEmpty = false := by simpa using hon
       simp [t1, t2, t10, t11, hon, hon2, zar, hgr.sc, hgr.cells, -zaF]
       have hgr' := (grLt hgr (fun j x => zac hw1)).mono (b' := fun y => H.next < y /\ y < H2.next) fun y hy => ⟨hy.1, hy.2.1⟩
       obtain ⟨v', eff, f1, f2, f3, f4⟩ := (hgr'.keep (H' := (H2.push (.cells [.str v.name, .int .i64 v.kind, .str v.on, .bool v.neg, .int .i64 v.pos])).push (.cells [.str v.on, .bool v.neg])) fun y z hy hz => by
        have := zac hw1 hz
        simp [show y ≠ H2.next by omega, show y ≠ H2.next + 1 by omega, hz]).app elemStep (m := 1) (x := .sl (H2.next + 1) 0 2 1 1 false) (news := [.str v.on, .bool v.neg]) (fun _ _ e => by cases e) rfl (by simp [zaK]) (by simp) rfl (by omega) (by omega) (by omega) (by omega) (nx := H2.next + 1 + 1) (by simp)
       simp only [AHeap.next_push] at f2 f3 f4
       rw [f1]
       have hv2 : (((H2.push (.cells [.str v.name, .int .i64 v.kind, .str v.on, .bool v.neg, .int .i64 v.pos])).push (.cells [.str v.on, .bool v.neg])).eff eff).get H2.next = some (.cells [.str v.name, .int .i64 v.kind, .str v.on, .bool v.neg, .int .i64 v.pos]) := by
        rw [f3 _ (by omega) (by omega)]
        simp
       have hch3 : zaE n.decl n.locals.length nm = (c ++ [(v.on, v.neg)]) ++ zaE n.decl j v.on := by
        rw [hch2]; simp [hon]
       simp [f2.sc, f2.cells, t1, t2, t10, t11, hv2, -zaF]
       refine ⟨j, by omega, i + 1, by omega, wr, c ++ [(v.on, v.neg)], by simp [hci], hch3, by omega, ?_, ?_, ?_⟩
       · rw [zhf]
         exact f2.mono fun y hy => by
          rcases hy with hy | hy
          · exact hy.1
          · omega
       · rw [f3 _ (by omega) (by omega)]
         simp [show H.next ≠ H2.next by omega, show H.next ≠ H2.next + 1 by omega, hbx]
       · intro y z hy
         have l1 := zac hw hy
         rw [f3 _ (by omega) (by omega)]
         simp [show y ≠ H2.next by omega, show y ≠ H2.next + 1 by omega, hkp _ _ hy]
 · obtain rfl : i = n.locals.length := by omega
   obtain rfl : j = 0 := by omega
   have hce : c = zaE n.decl n.locals.length nm := by rw [hch]; simp [zaE]
   simp [t1, t2, t10, t11]
   refine zaa (fin _ _ _ _ _ hce hci h50 hgr) ?_
   rintro r H3 ⟨hr, hk3⟩
   simp
   exact ⟨hr.mono fun y hy => by omega, fun y z hy => hk3 y z (by have := zac hw hy; omega) (hkp _ _ hy)⟩
theorem zgO {n : Nd} (hn : nlen n <= 1000000) (nm : Lex.Bs) (H : AHeap) : Does Tryz.prog G 59 [.agg (zah n), .str nm] H fun r h => r = ckV (clkOf n nm) /\ h = H := by
 refine Does.wfs fun hw _ => (of_run hn nm H).ghost fun r H1 ⟨ht, hs⟩ => ?_
 rcases ht with ⟨e, rfl⟩ | ⟨i, o, cap, op, pre, junk, rfl, hi, hg, ho, hpos⟩
 · exact ⟨_, H, Ghost.back hw rfl hs, by rw [e]; rfl, rfl⟩
 · have e1 : AV.frz i (pre ++ (spCs (clkOf n nm) ++ junk)) (.sl i o 2 (clkOf n nm).length cap op) = .vsl (spCs (clkOf n nm)) (clkOf n nm).length := by
    simp only [AV.frz, if_true]
    rw [List.drop_left' ho, List.take_left' (zbU _)]
   refine ⟨_, H, (Ghost.frz hg).trans (Ghost.back hw ?_ (AHeap.frz_old hw hi hs)), by rw [e1]; exact (zfX hpos).symm, rfl⟩
   rw [e1]
   simpa [AV.idLt] using zhe _ _
theorem zcF (e : Tm) : (zbe e).length = 8 := by cases e; rw [zaS]; rfl
theorem zeN : ∀ l : List Tm, (za5 l).length = l.length * 8
 | [] => by rw [za5]; rfl
 | e :: l => by rw [za5, List.length_append, zeN l, zcF, List.length_cons]; omega
theorem zeO : ∀ a b : List Tm, za5 (a ++ b) = za5 a ++ za5 b
 | [], b => by simp [za5]
 | e :: a, b => by rw [List.cons_append, za5, za5, zeO a b, List.append_assoc]
theorem zfx : ∀ {l : List Tm} {i : Nat} {x : Tm}, l[i]? = some x -> ((za5 l).drop (i * 8)).take 8 = zbe x
 | [], i, x, h => by simp at h
 | a :: l, 0, x, h => by
   simp at h; subst h
   rw [za5, Nat.zero_mul, List.drop_zero, List.take_left' (zcF a)]
 | a :: l, i + 1, x, h => by
   have := zfx (l := l) (i := i) (x := x) (by simpa using h)
   rw [za5, show (i + 1) * 8 = 8 + i * 8 by omega, <- List.drop_drop, List.drop_left' (zcF a)]
   exact this
mutual
theorem zgx (m : Nat) : ∀ e : Tm, AV.allLt m (zbe e) = true
 | .mk op nm n pos c ks an => by
   rw [zbe]
   have := zfw m ks
   cases ks with
   | nil => simp [AV.allLt, AV.idLt, ckV_lt]
   | cons e l => simpa [AV.allLt, AV.idLt, ckV_lt] using this
theorem zfw (m : Nat) : ∀ l : List Tm, AV.allLt m (za5 l) = true
 | [] => by rw [za5]; rfl
 | e :: l => by rw [za5, zbh, zgx m e, zfw m l]; rfl
end
@[simp] theorem tmsV_sc (l : List Tm) : (tmsV l).scalar = true := by unfold tmsV; split <;> rfl
def TsA (v : AV) (l : List Tm) : Prop := (v = .nilsl /\ l = []) \/ ∃ ts, (∀ n, AV.allLt n ts = true) /\ v = .vsl (za5 l ++ ts) l.length
theorem TsA.tmsV (l : List Tm) : TsA (tmsV l) l := by
 unfold Proofs.YtnejkhhnpbcmaaaGreatDoor.tmsV
 split
 · rename_i h
   exact .inl ⟨rfl, by simpa using h⟩
 · exact .inr ⟨[], fun _ => rfl, by simp⟩
theorem TsA.sc {v : AV} {l : List Tm} (h : TsA v l) : v.scalar = true := by rcases h with ⟨rfl, rfl⟩ | ⟨ts, ht, rfl⟩ <;> rfl
theorem TsA.cells {v : AV} {l : List Tm} (h : TsA v l) : v.cells = [v] := by rcases h with ⟨rfl, rfl⟩ | ⟨ts, ht, rfl⟩ <;> rfl
theorem TsA.alen {v : AV} {l : List Tm} (h : TsA v l) : Abs.alen Tryz.prog 111 v = some (.int .i64 l.length) := by
 rcases h with ⟨rfl, rfl⟩ | ⟨ts, ht, rfl⟩ <;> simp [Abs.alen]
theorem TsA.at {v : AV} {l : List Tm} (h : TsA v l) {i : Nat} {x : Tm} (hx : l[i]? = some x) : ∃ cs, v = .vsl cs l.length /\ (cs.drop (i * 8)).take 8 = zbe x /\ 8 <= cs.length - i * 8 := by
 rcases h with ⟨rfl, rfl⟩ | ⟨ts, ht, rfl⟩
 · simp at hx
 · have hlt := (List.getElem?_eq_some_iff.1 hx).1
   have hl := zeN l
   refine ⟨_, rfl, ?_, by rw [List.length_append]; omega⟩
   rw [List.drop_append_of_le_length (by omega), List.take_append_of_le_length (by rw [List.length_drop]; omega)]
   exact zfx hx
theorem ixT_does {l : List Tm} {v : AV} (hv : TsA v l) {g : FuncId} {cap : List AV} {H : AHeap} {p : Tm -> Bool} (hlen : l.length <= 1000000) (hp : ∀ x ∈ l, Does Tryz.prog G g (.agg (zbe x) :: cap) H fun r h => r = .bool (p x) /\ h = H) :
  Does Tryz.prog G 174 [v, .func (.func g) [] cap] H fun r h => r = .int .i64 (ixOf p l) /\ h = H := by
 refine zaf Tryz.call174 Tryz.func174 rfl (by simp [Tryz.f174]) ?_
 have hal := hv.alen
 have hsc := hv.sc
 simp [hal, -alen]
 refine za6 (fun m T' H' => H' = H /\ T' 0 = v /\ T' 1 = .func (.func g) [] cap /\ T' 7 = .int .i64 l.length /\ ∃ i : Nat, i + m = l.length /\ T' 8 = .int .i64 i /\ ∀ j x, j < i -> l[j]? = some x -> p x = false) l.length ⟨rfl, by simp, by simp, by simp, 0, by simp, by simp, fun j x h => absurd h (by omega)⟩ ?_
 rintro m T H1 ⟨rfl, t0, t1, t7, i, him, t8, hno⟩
 by_cases hi : i < l.length
 · have hii : (i : Int) < l.length := by omega
   obtain ⟨x, hx⟩ : ∃ x, l[i]? = some x := ⟨_, List.getElem?_eq_getElem hi⟩
   obtain ⟨cs, rfl, hat, h6⟩ := hv.at hx
   have hd := hp x (List.mem_of_getElem? hx)
   have wr : IntKind.i64.wrap ((i : Int) + 1) = ((i + 1 : Nat) : Int) := by rw [IntWalk.i64_in _ (by omega)]; omega
   simp [t0, t1, t7, t8, hii, hi, hat, h6]
   refine zaa hd ?_
   rintro r H2 ⟨rfl, rfl⟩
   cases hpx : p x with
   | true =>
     simp [t0, t1, t7, t8]
     exact (zbH hx hpx hno).symm
   | false =>
     simp [t0, t1, t7, t8]
     refine ⟨m - 1, by omega, i + 1, by omega, wr, fun j y hj hy => ?_⟩
     by_cases e : j = i
     · subst e; rw [hx] at hy; cases hy; exact hpx
     · exact hno j y (by omega) hy
 · obtain rfl : i = l.length := by omega
   simp [t0, t1, t7, t8]
   exact (zcg fun x hx => by
    obtain ⟨j, hj⟩ := List.mem_iff_getElem?.1 hx
    exact hno j x (List.getElem?_eq_some_iff.1 hj).1 hj).symm
theorem hasT_does {l : List Tm} {v : AV} (hv : TsA v l) {g : FuncId} {cap : List AV} {H : AHeap} {p : Tm -> Bool} (hlen : l.length <= 1000000) (hp : ∀ x ∈ l, Does Tryz.prog G g (.agg (zbe x) :: cap) H fun r h => r = .bool (p x) /\ h = H) :
  Does Tryz.prog G 176 [v, .func (.func g) [] cap] H fun r h => r = .bool (l.any p) /\ h = H := by
 refine zaf Tryz.call176 Tryz.func176 rfl (by simp [Tryz.f176]) ?_
 simp [hv.sc, hv.cells]
 refine zaa (ixT_does hv hlen hp) ?_
 rintro r H2 ⟨rfl, rfl⟩
 simp
 exact zfn p l
theorem one1_does (x : Tm) (H : AHeap) : Does Tryz.prog G 175 [.agg (zbe x)] H fun r h => r = .bool (!x.any) /\ h = H := by
 refine kept (fun _ => rfl) (Does.wf Tryz.call175 fun hw _ => ?_)
 refine zaf Tryz.call175 Tryz.func175 rfl (by simp [Tryz.f175]) ?_
 obtain ⟨op, nm, n, pos, cl, ks, an⟩ := x
 rw [zaS]
 simp [Tm.any]
 exact fun j x hj => off1 hw hj
theorem one2_does {c : Clk} {k : Nat} {H : AHeap} (hk : H.get k = some (.cells [ckV c])) (x : Tm) (hx : x.clock.length <= 1000000) : Does Tryz.prog G 177 [.agg (zbe x), .ptr k 0] H fun r h => r = .bool (!fits x c) /\ h = H := by
 refine kept (fun _ => rfl) (Does.wf Tryz.call177 fun hw _ => ?_)
 have e1 : k ≠ H.next := by have := (hw _ _ hk).1; omega
 refine zaf Tryz.call177 Tryz.func177 rfl (by simp [Tryz.f177]) ?_
 have hf := fun H => zdm (G := G) x c hx H
 obtain ⟨op, nm, n, pos, cl, ks, an⟩ := x
 rw [zaS] at hf ⊢
 simp [hk, e1]
 refine zaa (hf _) ?_
 rintro _ H2 ⟨rfl, rfl⟩
 simp
 exact fun j x hj => off1 hw hj
theorem allAny {X : Type} (f : X -> Bool) : ∀ l : List X, (l.any fun y => !f y) = !(l.all f)
 | [] => rfl
 | a :: l => by rw [List.any_cons, List.all_cons, Bool.not_and, allAny f l]
theorem one_does {v : AV} {l : List Tm} (hv : TsA v l) (hl : l.length <= 1000000) (hc : ∀ x ∈ l, x.clock.length <= 1000000) (H : AHeap) : Does Tryz.prog G 145 [v] H fun r h => r = .tuple [ckV (oneC l).1, .bool (oneC l).2.1, .bool (oneC l).2.2] /\ h = H := by
 refine kept (fun m => by simp [AV.idLt, AV.allLt, ckV_lt]) (Does.wf Tryz.call145 fun hw _ => ?_)
 refine zaf Tryz.call145 Tryz.func145 rfl (by simp [Tryz.f145]) ?_
 simp [hv.sc, hv.cells]
 refine zaa (ixT_does (p := fun x => !x.any) hv hl fun x _ => one1_does x _) ?_
 rintro _ H2 ⟨rfl, rfl⟩
 rcases zb5 (fun x : Tm => !x.any) l with ⟨h1, h2⟩ | ⟨i, x, h1, h2, h3, h4⟩
 · simp [h1, oneC, h2, ckV]
 · obtain ⟨cs, hcs, hat, h8⟩ := hv.at h2
   have hi := (List.getElem?_eq_some_iff.1 h2).1
   have c0 : ¬ (i : Int) < 0 := by omega
   have c2 : (i : Int) < l.length := by omega
   have hxc : cs[i * 8 + 5]? = some (ckV x.clock) := by
    obtain ⟨op, nm, n, pos, cl, ks, an⟩ := x
    rw [zaS] at hat
    exact zgy hat rfl
   have ho : oneC l = (x.clock, false, l.all fun y => fits y x.clock) := by unfold oneC; rw [h3]
   have hvs := hv.sc
   have hvc := hv.cells
   have hq := allAny (fun y => fits y x.clock) l
   have hh := hasT_does (G := G) (g := 177) (cap := [.ptr H2.next 0]) (H := H2.push (.cells [ckV x.clock])) (p := fun y => !fits y x.clock) hv hl fun y hy => one2_does (by simp) y (hc y hy)
   simp [h1, c0, c2, hi, hcs, hxc]
   refine zak [(0, 0), (0, 4)] mixedOrders (by kernel_rfl) ?_
   intro es hes
   simp [hvs, hvc]
   refine ⟨_, _, hh, by simp, ?_⟩
   simp [rds, heapF, ho, hq]
   refine ⟨⟨by subst hes; kernel_rfl, by subst hes; kernel_rfl⟩, fun j x hj => off1 hw hj⟩
def tiC (n : Nd) (wv : AV) : List AV := [.str n.name, vsV n.ins, vsV n.outs, vsV n.locals, eqsV n.eqs, .int .i64 n.pos, wv]
theorem zi9 (n : Nd) (nm : Lex.Bs) : (clkOf n nm).length <= n.locals.length := by
 unfold clkOf
 rw [List.length_reverse]
 exact zdR _ _ _
theorem own_does {H : AHeap} {k : Nat} {wv v : AV} {n : Nd} {l : List Tm} (hk : H.get k = some (.cells (tiC n wv))) (hn : nlen n <= 900000) (hv : TsA v l) (hl : l.length <= 1000000) (hc : ∀ x ∈ l, x.clock.length <= 1000000) (op nm : Lex.Bs) (num pos : Nat) (ks : List Ex) :
  Does Tryz.prog G 108 [.ptr k 0, .agg (zas (.mk op nm num pos ks)), v] H fun r h => r = .tuple [ckV (ownC n op nm num l).1, .bool (ownC n op nm num l).2.1, .bool (ownC n op nm num l).2.2] /\ h = H := by
 refine kept (fun m => by simp [AV.idLt, AV.allLt, ckV_lt]) (Does.wf Tryz.call108 fun hw _ => ?_)
 have e1 : k ≠ H.next := by have := (hw _ _ hk).1; omega
 have hlo : n.locals.length <= 900000 := by unfold nlen at hn; omega
 have hcl := zi9 n nm
 refine zaf Tryz.call108 Tryz.func108 rfl (by simp [Tryz.f108]) ?_
 have hof := fun H => zgO (G := G) (n := n) (by omega) nm H
 have hal := hv.alen
 have hsc := hv.sc
 have hvc := hv.cells
 rw [zab]
 simp only [tiC] at hk
 simp only [zah] at hof
 by_cases c1 : op = sInt
 · subst c1
   simp [sInt, ownC, ckV]
   exact fun j x hj => off1 hw hj
 by_cases c2 : op = sBool
 · subst c2
   simp [sBool, sInt, ownC, ckV]
   exact fun j x hj => off1 hw hj
 by_cases c3 : op = sVar
 · subst c3
   have ho : ownC n sVar nm num l = (clkOf n nm, false, true) := by simp [ownC, sVar, sInt, sBool]
   rw [ho]
   simp [sVar, hk, e1]
   refine zak [(3, 0), (5, 0)] mixedOrders (by kernel_rfl) ?_
   intro es hes
   simp [hk, e1]
   refine ⟨_, _, hof _, by simp, ?_⟩
   simp [rds, heapF, hk, e1]
   refine ⟨⟨by subst hes; kernel_rfl, by subst hes; kernel_rfl⟩, fun j x hj => off1 hw hj⟩
 by_cases c4 : op = sWhen
 · subst c4
   have ho : ownC n sWhen nm num l = (clkOf n nm ++ [(nm, num == 0)], false, fit1 l (clkOf n nm)) := by simp [ownC, sVar, sInt, sBool, sWhen]
   rw [ho]
   simp [sWhen, hk, e1, -alen]
   refine zak [(3, 0), (5, 0)] mixedOrders (by kernel_rfl) ?_
   intro es hes
   simp [hk, e1, -alen]
   refine ⟨_, _, hof _, by simp, ?_⟩
   have hst := fun (b : Bool) H => zhQ (G := G) (clkOf n nm) nm b (by omega) H
   by_cases h1 : l.length = 1
   · obtain ⟨x, rfl⟩ : ∃ x, l = [x] := by
      match l, h1 with
      | [x], _ => exact ⟨x, rfl⟩
     obtain ⟨cs, hcs, hat, h8⟩ := hv.at (i := 0) (x := x) rfl
     have hf := fun H => zdm (G := G) x (clkOf n nm) (hc x (by simp)) H
     have hfit : fit1 [x] (clkOf n nm) = fits x (clkOf n nm) := rfl
     rw [hfit]
     obtain ⟨op', nm', num', pos', cl', ks', an'⟩ := x
     rw [zaS] at hat hf
     generalize fits (.mk op' nm' num' pos' cl' ks' an') (clkOf n nm) = FB at hf ⊢
     simp only [Nat.zero_mul, List.drop_zero] at hat
     have hcs8 : 8 <= cs.length := by omega
     simp [rds, heapF, hk, e1, hcs, hat, hcs8]
     refine ⟨⟨by subst hes; kernel_rfl, by subst hes; kernel_rfl⟩, ?_⟩
     clear hes
     refine zaa (hf _) ?_
     rintro _ H2 ⟨rfl, rfl⟩
     by_cases hz : num = 0
     · subst hz
       simp
       refine zaa (hst _ _) ?_
       rintro _ H3 ⟨rfl, rfl⟩
       simp
       exact fun j x hj => off1 hw hj
     · have hz' : ¬ (num : Int) = 0 := by omega
       have hz2 : (num == 0) = false := by simpa using hz
       rw [hz2]
       try simp [hz']
       refine zaa (hst _ _) ?_
       rintro _ H3 ⟨rfl, rfl⟩
       simp [hz]
       exact fun j x hj => off1 hw hj
   · have h1' : ¬ (l.length : Int) = 1 := by omega
     have hfit : fit1 l (clkOf n nm) = false := by
      match l, h1 with
      | [], _ => rfl
      | [a], h => simp at h
      | a :: b :: l, _ => rfl
     rw [hfit]
     simp [rds, heapF, hk, e1, hal, h1', -alen]
     refine ⟨⟨by subst hes; kernel_rfl, by subst hes; kernel_rfl⟩, ?_⟩
     clear hes
     by_cases hz : num = 0
     · subst hz
       simp
       refine zaa (hst _ _) ?_
       rintro _ H3 ⟨rfl, rfl⟩
       simp
       exact fun j x hj => off1 hw hj
     · have hz' : ¬ (num : Int) = 0 := by omega
       have hz2 : (num == 0) = false := by simpa using hz
       rw [hz2]
       try simp [hz']
       refine zaa (hst _ _) ?_
       rintro _ H3 ⟨rfl, rfl⟩
       simp [hz]
       exact fun j x hj => off1 hw hj
 by_cases c5 : op = sMerge
 · subst c5
   have ho : ownC n sMerge nm num l = (clkOf n nm, false, fit2 l (clkOf n nm ++ [(nm, false)]) (clkOf n nm ++ [(nm, true)])) := by simp [ownC, sVar, sInt, sBool, sWhen, sMerge]
   rw [ho]
   simp [sMerge, hk, e1, -alen]
   refine zak [(3, 0), (5, 0)] mixedOrders (by kernel_rfl) ?_
   intro es hes
   simp [hk, e1, -alen]
   refine ⟨_, _, hof _, by simp, ?_⟩
   simp [rds, heapF, hk, e1, -alen]
   refine ⟨⟨by subst hes; kernel_rfl, by subst hes; kernel_rfl⟩, ?_⟩
   clear hes
   have hst := fun (b : Bool) H => zhQ (G := G) (clkOf n nm) nm b (by omega) H
   by_cases h1 : l.length = 2
   · obtain ⟨x, y, rfl⟩ : ∃ x y, l = [x, y] := by
      match l, h1 with
      | [x, y], _ => exact ⟨x, y, rfl⟩
     obtain ⟨cs, hcs, hat, h8⟩ := hv.at (i := 0) (x := x) rfl
     obtain ⟨cs2, hcs2, hat2, h82⟩ := hv.at (i := 1) (x := y) rfl
     obtain rfl : cs = cs2 := by rw [hcs] at hcs2; simpa using hcs2
     have hfx := fun H => zdm (G := G) x (clkOf n nm ++ [(nm, false)]) (hc x (by simp)) H
     have hfy := fun H => zdm (G := G) y (clkOf n nm ++ [(nm, true)]) (hc y (by simp)) H
     have hfit : fit2 [x, y] (clkOf n nm ++ [(nm, false)]) (clkOf n nm ++ [(nm, true)]) = (fits x (clkOf n nm ++ [(nm, false)]) && fits y (clkOf n nm ++ [(nm, true)])) := rfl
     rw [hfit]
     obtain ⟨op', nm', num', pos', cl', ks', an'⟩ := x
     obtain ⟨op2, nm2, num2, pos2, cl2, ks2, an2⟩ := y
     rw [zaS] at hat hat2 hfx hfy
     generalize fits (.mk op' nm' num' pos' cl' ks' an') (clkOf n nm ++ [(nm, false)]) = FX at hfx ⊢
     generalize fits (.mk op2 nm2 num2 pos2 cl2 ks2 an2) (clkOf n nm ++ [(nm, true)]) = FY at hfy ⊢
     simp only [Nat.zero_mul, List.drop_zero, Nat.one_mul] at hat hat2
     have hcs8 : 8 <= cs.length := by omega
     have hcs8' : 8 <= cs.length - 8 := by omega
     cases FX with
     | true =>
       refine zak [(6, 0), (6, 11), (9, 0), (16, 12), (16, 21), (19, 12)] mixedOrders (by kernel_rfl) ?_
       intro es hes
       simp [hk, e1, hcs, hat, hat2, hcs8, hcs8']
       refine ⟨_, _, hst false _, by simp, _, _, hfx _, Nat.le_refl _, ?_⟩
       simp [hk, e1, hcs, hat, hat2, hcs8, hcs8']
       refine ⟨_, _, hst true _, by simp, _, _, hfy _, Nat.le_refl _, ?_⟩
       simp [hk, e1, hcs, hat, hat2, hcs8, hcs8', rds, heapF]
       refine ⟨⟨by subst hes; kernel_rfl, by subst hes; kernel_rfl⟩, fun j x hj => off1 hw hj⟩
     | false =>
       refine zak [(6, 0), (6, 11), (9, 0)] mixedOrders (by kernel_rfl) ?_
       intro es hes
       simp [hk, e1, hcs, hat, hat2, hcs8, hcs8']
       refine ⟨_, _, hst false _, by simp, _, _, hfx _, Nat.le_refl _, ?_⟩
       simp [hk, e1, hcs, hat, hat2, hcs8, hcs8', rds, heapF]
       refine ⟨⟨by subst hes; kernel_rfl, by subst hes; kernel_rfl⟩, fun j x hj => off1 hw hj⟩
   · have h1' : ¬ (l.length : Int) = 2 := by omega
     have hfit : fit2 l (clkOf n nm ++ [(nm, false)]) (clkOf n nm ++ [(nm, true)]) = false := by
      match l, h1 with
      | [], _ => rfl
      | [a], _ => rfl
      | [a, b], h => simp at h
      | a :: b :: c :: l, _ => rfl
     rw [hfit]
     refine zaM mixedOrders (by kernel_rfl) ?_
     intro es hes
     simp [rds, heapF, hk, e1, hal, h1', -alen]
     refine ⟨by subst hes; kernel_rfl, fun j x hj => off1 hw hj⟩
 have d1 : (op == ([105, 110, 116] : Lex.Bs)) = false := by simpa [sInt] using c1
 have d2 : (op == ([98, 111, 111, 108] : Lex.Bs)) = false := by simpa [sBool] using c2
 have d3 : (op == ([118, 97, 114] : Lex.Bs)) = false := by simpa [sVar] using c3
 have d4 : (op == ([119, 104, 101, 110] : Lex.Bs)) = false := by simpa [sWhen] using c4
 have d5 : (op == ([109, 101, 114, 103, 101] : Lex.Bs)) = false := by simpa [sMerge] using c5
 have ho : ownC n op nm num l = oneC l := by simp [ownC, c1, c2, c3, c4, c5]
 rw [ho]
 simp [d1, d2, d3, d4, d5]
 refine zaa (one_does hv hl hc _) ?_
 rintro _ H2 ⟨rfl, rfl⟩
 simp
 exact fun j x hj => off1 hw hj
theorem elemTimed : ElemOk Tryz.prog 111 111 113 8 128 := ⟨by simp, ⟨.slice 113, by simp, rfl⟩, by simp⟩
def tm0 : List AV := [.str [], .str [], .int .i64 0, .int .i64 0, .nilsl, .nilsl, .nilsl, .bool false]
def Bad1 (H : AHeap) (k : Nat) (n : Nd) (h : AHeap) : Prop := H.next <= h.next /\ (∃ (p : Nat) (z : Int), 0 <= z /\ h.get k = some (.cells (tiC n (.sl p 0 1 1 1 true))) /\ h.get p = some (.cells [.int .i64 z])) /\ ∀ j x, j ≠ k -> H.get j = some x -> h.get j = some x
def CkR (H : AHeap) (k : Nat) (n : Nd) (e : Ex) (m : Bool) (r : AV) (h : AHeap) : Prop := match clkE n e with
 | some x => r = .tuple [.agg (zbe x), .bool true] /\ if m then ∀ j y, H.get j = some y -> h.get j = some y else h = H
 | none => r = .tuple [.agg tm0, .bool false] /\ Bad1 H k n h
def CkD (G : Nat -> Option AV) (n : Nd) (e : Ex) : Prop := ∀ (H : AHeap) (k : Nat), H.get k = some (.cells (tiC n .nilsl)) ->
    Does Tryz.prog G 57 [.ptr k 0, .agg (zas e)] H (CkR H k n e false)
theorem CkR.back {H : AHeap} (hw : H.Wf) {k : Nat} {n : Nd} {e : Ex} {r : AV} {h : AHeap} (hr : CkR H k n e true r h) : ∃ r' H2, Ghost H.next r h r' H2 /\ CkR H k n e false r' H2 := by
 unfold CkR at hr ⊢
 cases hc : clkE n e with
 | none => rw [hc] at hr; exact ⟨r, h, Ghost.refl, hr⟩
 | some x =>
   rw [hc] at hr
   obtain ⟨rfl, hs⟩ := hr
   exact ⟨_, H, Ghost.back hw (by simp [AV.idLt, AV.allLt, zgx]) hs, rfl, rfl⟩
theorem zgP (n : Nd) {ks : List Ex} {i : Nat} {e : Ex} (h : ks[i]? = some e) : clkEs n (ks.drop i) = (match clkE n e with
  | none => none
  | some x => match clkEs n (ks.drop (i + 1)) with
    | none => none
    | some r => some (x :: r)) := by
 have hlt := (List.getElem?_eq_some_iff.1 h).1
 rw [List.getElem?_eq_getElem hlt] at h
 simp only [Option.some.injEq] at h
 rw [List.drop_eq_getElem_cons hlt, h, clkEs]
 rfl
def KsAt (n : Nd) (ks : List Ex) (i : Nat) (l : List Tm) : Prop := l.length = i /\ clkEs n ks = match clkEs n (ks.drop i) with
 | none => none
 | some r => some (l ++ r)
theorem KsAt.zero (n : Nd) (ks : List Ex) : KsAt n ks 0 [] := by
 refine ⟨rfl, ?_⟩
 rw [List.drop_zero]
 cases clkEs n ks <;> rfl
theorem KsAt.bad {n : Nd} {ks : List Ex} {i : Nat} {l : List Tm} {e : Ex} (h : KsAt n ks i l) (he : ks[i]? = some e) (hc : clkE n e = none) : clkEs n ks = none := by
 rw [h.2, zgP n he, hc]
theorem KsAt.next {n : Nd} {ks : List Ex} {i : Nat} {l : List Tm} {e : Ex} {x : Tm} (h : KsAt n ks i l) (he : ks[i]? = some e) (hc : clkE n e = some x) : KsAt n ks (i + 1) (l ++ [x]) := by
 refine ⟨by rw [List.length_append, h.1]; rfl, ?_⟩
 rw [h.2, zgP n he, hc]
 cases clkEs n (ks.drop (i + 1)) with
 | none => rfl
 | some r => simp
theorem KsAt.done {n : Nd} {ks : List Ex} {l : List Tm} (h : KsAt n ks ks.length l) : clkEs n ks = some l := by
 rw [h.2, List.drop_length, clkEs]
 simp
theorem zfW {n : Nd} {P : Tm -> Prop} : ∀ {ks : List Ex} {l : List Tm}, (∀ k ∈ ks, ∀ x, clkE n k = some x -> P x) -> clkEs n ks = some l -> ∀ x ∈ l, P x
 | [], l, _, h => by rw [clkEs] at h; cases h; simp
 | e :: ks, l, hk, h => by
   rw [clkEs] at h
   cases h1 : clkE n e with
   | none => rw [h1] at h; cases h
   | some x =>
     cases h2 : clkEs n ks with
     | none => rw [h1, h2] at h; cases h
     | some r =>
       rw [h1, h2] at h
       cases h
       intro y hy
       rcases List.mem_cons.1 hy with rfl | hy
       · exact hk e (by simp) _ h1
       · exact zfW (fun k hm => hk k (by simp [hm])) h2 y hy
theorem clkE_len {n : Nd} : ∀ e x, clkE n e = some x -> x.clock.length <= n.locals.length + 1 := by
 refine zer ?_
 intro op nm num pos ks ih x h
 rw [clkE] at h
 cases hl : clkEs n ks with
 | none => rw [hl] at h; cases h
 | some l =>
   rw [hl] at h
   simp only at h
   split at h
   · cases h
     have hall := zfW (P := fun x => x.clock.length <= n.locals.length + 1) ih hl
     have hcl := zi9 n nm
     show (ownC n op nm num l).1.length <= _
     unfold ownC
     repeat' split
     · simp
     · simp only; omega
     · simp only [List.length_append, List.length_cons, List.length_nil]; omega
     · simp only; omega
     · unfold oneC
       split
       · simp
       · rename_i k hf
         exact hall k (List.mem_of_find?_eq_some hf)
   · cases h
theorem frzs_map (i : Nat) (cs : List AV) : ∀ c : List AV, AV.frzs i cs c = c.map (AV.frz i cs)
 | [] => rfl
 | a :: c => by rw [AV.frzs, frzs_map i cs c]; rfl
theorem Does.grf {P : Program} {G : Nat -> Option AV} {f : FuncId} {args : List AV} {R : AV -> AHeap -> Prop} {H : AHeap} {z n N : Nat} {cs : List AV} {v : AV} {b : Nat -> Prop} (h : Gr H z n cs v b) (h0 : n = 0 -> v = .nilsl) (hb : ∀ y, b y -> N <= y)
  (g : ∀ (F : AV -> AV) (H2 : AHeap), (∀ x, x.idLt N = true -> F x = x) -> F v = (if n = 0 then .nilsl else .vsl cs n) -> H2.next = H.next -> (∀ y c, ¬ b y -> H.get y = some (.cells c) -> H2.get y = some (.cells (c.map F))) -> (∀ (H0 : AHeap), H0.Wf -> H0.next <= N -> ∀ y x, H0.get y = some x -> H.get y = some x -> H2.get y = some x) -> Does P G f (args.map F) H2 R) : Does P G f args H R := by
 rcases h with ⟨rfl, rfl, rfl⟩ | ⟨p, o, cap, op, pre, junk, rfl, hp, hg, ho, hcl, _, _⟩
 · have := g id H (fun _ _ => rfl) rfl rfl (fun y c _ h => by simpa using h) fun _ _ _ _ _ _ h => h
   simpa using this
 · have hN := hb p hp
   refine Does.lend hg (g (AV.frz p (pre ++ (cs ++ junk))) _ (fun x hx => AV.frz_lt hN x hx) ?_ rfl (fun y c hy hc => ?_) fun H0 hw hle y x hy hx => frz_old1 hw (by omega) hy hx)
   · have hn : n ≠ 0 := fun e => by have := h0 e; cases this
     rw [if_neg hn]
     simp only [AV.frz, if_true]
     rw [List.drop_left' ho, List.take_left' hcl]
   · rw [frz_get hc (fun e => hy (e ▸ hp)), frzs_map]
theorem zjE {n : Nd} (hn : nlen n <= 900000) : ∀ e : Ex, e.wt <= 1000000 -> CkD G n e := by
 refine zer ?_
 intro op nm num pos ks ih hwt H k hk
 have hkl : ks.length <= 1000000 := by
  have := zcw ks
  rw [Ex.wt] at hwt
  omega
 refine Does.wf Tryz.call57 fun hw _ => ?_
 refine Does.ghost (R := CkR H k n (.mk op nm num pos ks) true) ?_ fun r h hr => CkR.back hw hr
 have hkn := zac hw hk
 have e1 : k ≠ H.next := by omega
 have e2 : k ≠ H.next + 1 := by omega
 have e3 : k ≠ H.next + 1 + 1 := by omega
 have f2 : ¬ H.next = H.next + 1 + 1 := by omega
 refine zaf Tryz.call57 Tryz.func57 rfl (by simp [Tryz.f57]) ?_
 have hal := zbo ks
 rw [zab]
 simp [hal, f2, -alen]
 refine zai (fun j T' H' => ∃ (i : Nat) (l : List Tm) (wv : AV) (b : Nat -> Prop), i + j = ks.length /\ KsAt n ks i l /\ T' 0 = .ptr k 0 /\ T' 3 = .ptr H.next 0 /\ T' 4 = .ptr (H.next + 1) 0 /\ T' 6 = .ptr (H.next + 2) 0 /\ T' 17 = kidsV ks /\ T' 18 = .int .i64 ks.length /\ T' 19 = .int .i64 i /\ (i = 0 -> wv = .nilsl) /\ H.next + 3 <= H'.next /\ H'.get H.next = some (.cells [.str op, .str nm, .int .i64 num, .int .i64 pos, kidsV ks]) /\ H'.get (H.next + 1) = some (.cells tm0) /\ H'.get (H.next + 2) = some (.cells [.str op, .str nm, .int .i64 num, .int .i64 pos, .nilsl, .nilsl, wv, .bool false]) /\ Gr H' 8 i (za5 l) wv b /\ (∀ y, b y -> H.next + 3 <= y) /\ ∀ j x, H.get j = some x -> H'.get j = some x) ks.length ?_ ?_
 · refine ⟨0, [], .nilsl, fun _ => False, by simp, KsAt.zero n ks, by simp, by simp, by simp, by simp, by simp, by simp, by simp, fun _ => rfl, by simp, by simp [f2], by simp [tm0], by simp, .inl ⟨rfl, by rw [za5], rfl⟩, fun _ h => h.elim, fun y z hy => ?_⟩
   have := zac hw hy
   simp [show y ≠ H.next by omega, show y ≠ H.next + 1 by omega, show y ≠ H.next + 1 + 1 by omega, hy]
 rintro j T H1 ⟨i, l, wv, b, hij, hK, t0, t3, t4, t6, t17, t18, t19, hw0, hn1, hb3, hb4, hb6, hgr, hbH, hkp⟩ hw1 _
 by_cases hi : i < ks.length
 · have hii : (i : Int) < ks.length := by omega
   obtain ⟨x, hx⟩ : ∃ x, ks[i]? = some x := ⟨_, List.getElem?_eq_getElem hi⟩
   have hkv : kidsV ks = .vsl (zae ks) ks.length := by unfold kidsV; rw [if_neg (by cases ks <;> simp_all)]
   have hat := zb0 hx
   have hlen5 := zap ks
   have h5 : 5 <= (zae ks).length - i * 5 := by omega
   have hxm := List.mem_of_getElem? hx
   have hxw : x.wt <= 1000000 := by
    have := zcn hxm
    rw [Ex.wt] at hwt
    omega
   have wr : IntKind.i64.wrap ((i : Int) + 1) = ((i + 1 : Nat) : Int) := by rw [IntWalk.i64_in _ (by omega)]; omega
   have hk1 : (H1.push (.cells (zas x))).get k = some (.cells (tiC n .nilsl)) := by
    simp [show k ≠ H1.next by omega, hkp _ _ hk]
   have hd := ih x hxm hxw _ k hk1
   have hbad := hK.bad hx
   have hnext := fun y => hK.next (x := y) hx
   obtain ⟨xo, xn, xm, xp, xk⟩ := x
   simp only [zab] at hat hd hk1
   simp [t0, t3, t4, t6, t17, t18, t19, hii, hi, hkv, hat, h5]
   refine zav hd ?_
   intro r H2 hr hw2 _
   unfold CkR at hr
   cases hc : clkE n (.mk xo xn xm xp xk) with
   | none =>
     rw [hc] at hr
     obtain ⟨rfl, hn2, ⟨p, z, hz, hpk, hpz⟩, hkp2⟩ := hr
     have hb4' : H2.get (H.next + 1) = some (.cells tm0) := hkp2 _ _ (by omega) (by simp [show ¬ H.next + 1 = H1.next by omega, hb4])
     simp only [AHeap.next_push] at hn2
     simp only [tm0] at hb4'
     simp [t0, t3, t4, t6, t17, t18, t19, tm0, hb4', show ¬ H.next + 1 = H2.next by omega]
     have hnone : clkE n (.mk op nm num pos ks) = none := by rw [clkE, hbad hc]
     unfold CkR
     rw [hnone]
     refine ⟨rfl, by simp; omega, ⟨p, z, hz, ?_, ?_⟩, fun y w hyk hy => ?_⟩
     · have l1 := zac hw2 hpk
       rw [AHeap.get_set, if_neg (by omega), AHeap.get_push, if_neg (by omega), hpk]
     · have l1 := zac hw2 hpz
       have l2 : p ≠ H.next + 1 := fun e => by rw [e, hb4'] at hpz; simp at hpz
       rw [AHeap.get_set, if_neg l2, AHeap.get_push, if_neg (by omega), hpz]
     · have l1 := zac hw hy
       have l3 := hkp2 y w hyk (by simp [show ¬ y = H1.next by omega, hkp _ _ hy])
       have l2 := zac hw2 l3
       rw [AHeap.get_set, if_neg (by omega), AHeap.get_push, if_neg (by omega), l3]
   | some y =>
     rw [hc] at hr
     obtain ⟨rfl, rfl⟩ := hr
     have hnx := hnext _ hc
     have hlt : (zbe y).length = 8 := zcF y
     have hap : za5 (l ++ [y]) = za5 l ++ zbe y := by rw [zeO, za5, za5, List.append_nil]
     skip
     obtain ⟨yo, yn, ym, yp, yc, yk, ya⟩ := y
     rw [zaS] at hap ⊢
     have q1 : ¬ H.next + 1 = H1.next := by omega
     have q2 : ¬ H.next + 2 = H1.next := by omega
     have q3 : ¬ H.next + 2 = H1.next + 1 := by omega
     have q4 : ¬ H.next + 2 = H1.next + 1 + 1 := by omega
     simp [q1, q2, q3, q4, t0, t3, t4, t6, t17, t18, t19, hb3, hb4, hb6, hgr.sc, hgr.cells, -zaF]
     obtain ⟨HB, hHB⟩ : ∃ HB, HB = (((H1.push (.cells [.str xo, .str xn, .int .i64 xm, .int .i64 xp, kidsV xk])).push (.cells [.str [], .str [], .int .i64 0, .int .i64 0, .nilsl, .nilsl, .nilsl, .bool false])).set (H1.next + 1) (.cells [.str yo, .str yn, .int .i64 ym, .int .i64 yp, .nilsl, ckV yc, tmsV yk, .bool ya])).push (.cells [.str yo, .str yn, .int .i64 ym, .int .i64 yp, .nilsl, ckV yc, tmsV yk, .bool ya]) := ⟨_, rfl⟩
     rw [<- hHB]
     have hBn : HB.next = H1.next + 1 + 1 + 1 := by rw [hHB]; simp
     have hBk : ∀ y z, H1.get y = some z -> HB.get y = some z := fun y z hy => by
      have l1 := zac hw1 hy
      rw [hHB]
      simp [show y ≠ H1.next by omega, show y ≠ H1.next + 1 by omega, show y ≠ H1.next + 1 + 1 by omega, hy]
     have hB2 : HB.get (H1.next + 1 + 1) = some (.cells [.str yo, .str yn, .int .i64 ym, .int .i64 yp, .nilsl, ckV yc, tmsV yk, .bool ya]) := by rw [hHB]; simp
     have hBl : ∀ y z, HB.get y = some z -> y < HB.next := fun y z hy => by
      rw [hBn]
      rcases Nat.lt_or_ge y (H1.next + 1 + 1 + 1) with q | q
      · exact q
      · rw [hHB] at hy
        simp [show y ≠ H1.next by omega, show y ≠ H1.next + 1 by omega, show y ≠ H1.next + 1 + 1 by omega, hw1.none (show H1.next <= y by omega)] at hy
     clear hHB
     obtain ⟨v', eff, g1, g2, g3, g4⟩ := zfp elemTimed hBl (hgr.keep fun y z _ hz => hBk y z hz) (x := .sl (H1.next + 1 + 1) 0 8 1 1 false) (news := [.str yo, .str yn, .int .i64 ym, .int .i64 yp, .nilsl, ckV yc, tmsV yk, .bool ya]) (fun _ _ e => by cases e) rfl (by simp [zaK, hB2]) (by simp) rfl (by omega) (by omega) (by omega) (nx := H1.next + 1 + 1 + 1) hBn.symm
     rw [<- hap] at g2
     have k6 : (HB.eff eff).get (H.next + 2) = some (.cells [.str op, .str nm, .int .i64 num, .int .i64 pos, .nilsl, .nilsl, wv, .bool false]) := by
      rw [g3 _ (fun q => by have := hbH _ q; omega) (by omega)]
      exact hBk _ _ hb6
     rw [g1]
     simp [k6, g2.sc, g2.cells, t0, t3, t4, t6, t17, t18, t19]
     refine ⟨j - 1, by omega, i + 1, by omega, _, hnx, wr, v', fun h => by omega, by omega, ?_, ?_, rfl, _, g2.keep fun y z hy hz => ?_, fun y hy => ?_, fun y z hy => ?_⟩
     · rw [g3 _ (fun q => by have := hbH _ q; omega) (by omega)]
       exact hBk _ _ hb3
     · rw [g3 _ (fun q => by have := hbH _ q; omega) (by omega)]
       exact hBk _ _ hb4
     · have : y ≠ H.next + 2 := by
        rcases hy.1 with q | q
        · have := hbH _ q; omega
        · omega
       rw [AHeap.get_set, if_neg this, hz]
     · rcases hy.1 with q | q
       · exact hbH _ q
       · omega
     · have l1 := zac hw hy
       rw [if_neg (by omega), g3 _ (fun q => by have := hbH _ q; omega) (by omega)]
       exact hBk _ _ (hkp _ _ hy)
 · obtain rfl : i = ks.length := by omega
   have hdone := hK.done
   have hown : Does Tryz.prog G 108 [.ptr k 0, .agg [.str op, .str nm, .int .i64 num, .int .i64 pos, kidsV ks], wv] H1 fun r h => r = .tuple [ckV (ownC n op nm num l).1, .bool (ownC n op nm num l).2.1, .bool (ownC n op nm num l).2.2] /\ H.next + 3 <= h.next /\ h.get H.next = some (.cells [.str op, .str nm, .int .i64 num, .int .i64 pos, kidsV ks]) /\ h.get (H.next + 1) = some (.cells tm0) /\ h.get (H.next + 2) = some (.cells [.str op, .str nm, .int .i64 num, .int .i64 pos, .nilsl, .nilsl, tmsV l, .bool false]) /\ ∀ y x, H.get y = some x -> h.get y = some x := by
    refine Does.grf hgr hw0 hbH ?_
    intro F H2 hF hFv hn2 hg2 hold
    have hFv : F wv = tmsV l := by
     rw [hFv]
     unfold tmsV
     rw [<- hK.1]
     cases l <;> simp
    have hFs : ∀ s : Lex.Bs, F (.str s) = .str s := fun s => hF _ rfl
    have hFi : ∀ (q : IntKind) (z : Int), F (.int q z) = .int q z := fun q z => hF _ rfl
    have hFb : ∀ z : Bool, F (.bool z) = .bool z := fun z => hF _ rfl
    have hFn : F .nilsl = .nilsl := hF _ rfl
    have hFk : F (kidsV ks) = kidsV ks := hF _ (za1 _ ks)
    have c3 : H2.get H.next = some (.cells [.str op, .str nm, .int .i64 num, .int .i64 pos, kidsV ks]) := by
     rw [hg2 _ _ (fun q => by have := hbH _ q; omega) hb3]
     simp [hFs, hFi, hFk]
    have c4 : H2.get (H.next + 1) = some (.cells tm0) := by
     rw [hg2 _ _ (fun q => by have := hbH _ q; omega) hb4]
     simp [tm0, hFs, hFi, hFn, hFb]
    have c6 : H2.get (H.next + 2) = some (.cells [.str op, .str nm, .int .i64 num, .int .i64 pos, .nilsl, .nilsl, tmsV l, .bool false]) := by
     rw [hg2 _ _ (fun q => by have := hbH _ q; omega) hb6]
     simp [hFv, hFs, hFi, hFn, hFb]
    have hkp2 : ∀ y x, H.get y = some x -> H2.get y = some x := fun y x hy => hold H hw (by omega) y x hy (hkp y x hy)
    have hlo : n.locals.length <= 900000 := by unfold nlen at hn; omega
    have hlen := zfW (P := fun x => x.clock.length <= n.locals.length + 1) (fun k _ x h => clkE_len k x h) hdone
    have hd := own_does (G := G) (hkp2 _ _ hk) hn (TsA.tmsV l) (by rw [hK.1]; exact hkl) (fun x hx => by have := hlen x hx; omega) op nm num pos ks
    rw [zab] at hd
    have ea : List.map F [.ptr k 0, .agg [.str op, .str nm, .int .i64 num, .int .i64 pos, kidsV ks], wv] = [.ptr k 0, .agg [.str op, .str nm, .int .i64 num, .int .i64 pos, kidsV ks], tmsV l] := by
     rw [List.map_cons, List.map_cons, List.map_cons, List.map_nil, hFv, hF (.ptr k 0) (by simp [AV.idLt]; omega), hF (.agg _) (by simp [AV.idLt, AV.allLt, za1])]
    rw [ea]
    refine hd.mono ?_
    rintro r h ⟨rfl, rfl⟩
    exact ⟨rfl, by omega, c3, c4, c6, hkp2⟩
   simp [t0, t3, t4, t6, t17, t18, t19, hb3, hb4, hb6, hgr.sc, hgr.cells]
   refine zav hown ?_
   rintro _ H2 ⟨rfl, hn2, c3, c4, c6, hkp2⟩ hw2 _
   have hce : clkE n (.mk op nm num pos ks) = if (ownC n op nm num l).2.2 then some (.mk op nm num pos (ownC n op nm num l).1 l (ownC n op nm num l).2.1) else none := by rw [clkE, hdone]
   rcases hO : ownC n op nm num l with ⟨oc, oa, ok⟩
   rw [hO] at hce
   cases ok with
   | true =>
     simp only [if_true] at hce
     simp [t0, t3, t4, t6, c3, c4, c6, tm0]
     unfold CkR
     rw [hce]
     refine ⟨by rw [zaS], ?_⟩
     rw [if_pos rfl]
     intro y z hy
     have l1 := zac hw hy
     rw [AHeap.get_set, if_neg (by omega), AHeap.get_set, if_neg (by omega)]
     exact hkp2 _ _ hy
   | false =>
     simp only [Bool.false_eq_true, if_false] at hce
     simp [t0, t3, t4, t6, c3, c4, c6]
     have hk2 := hkp2 _ _ hk
     have l2 := zac hw2 hk2
     have l4 := zac hw2 c4
     have l6 := zac hw2 c6
     simp only [tiC] at hk2
     simp only [tm0] at c4
     have q1 : ¬ k = H.next + 2 := by omega
     have q2 : ¬ k = H2.next := by omega
     have q3 : ¬ H.next = H2.next := by omega
     have q4 : ¬ k = H2.next + 1 := by omega
     have q5 : ¬ H.next + 1 = H2.next := by omega
     have q6 : ¬ H.next + 1 = H2.next + 1 := by omega
     have q7 : ¬ H.next + 1 = k := by omega
     have q8 : ¬ H.next + 1 = H2.next + 2 := by omega
     refine zak [(4, 0), (6, 0)] mixedOrders (by kernel_rfl) ?_
     intro es hes
     simp [t0, t3, t4, t6, hk2, c3, q1, q2, q3, q4]
     refine ⟨by subst hes; exact ⟨by kernel_rfl, by kernel_rfl⟩, by simp [rds, heapF, hk2, c3, q1, q2, q3, q4], ?_⟩
     clear hes es
     simp [t0, t3, t4, t6, c4, q5, q6, q7, q8]
     unfold CkR
     rw [hce]
     refine ⟨rfl, by simp; omega, ⟨H2.next + 1, pos, by omega, ?_, ?_⟩, fun y z hyk hy => ?_⟩
     · simp [tiC, show ¬ k = H.next + 1 by omega]
     · simp [show ¬ H2.next = H.next by omega, show ¬ H2.next + 1 = k by omega]
     · have l1 := zac hw hy
       simp [show ¬ y = H.next + 1 by omega, hyk, show ¬ y = H.next + 2 by omega, show ¬ y = H2.next by omega, show ¬ y = H2.next + 1 by omega, hkp2 _ _ hy]
def eqK (n : Nd) (q : Eqn) : Bool := match clkE n q.e with
 | none => false
 | some x => fits x (clkOf n q.name)
theorem clkN_all (n : Nd) : clkN n = n.eqs.all (eqK n) := rfl
theorem zeH {α : Type} {f : α -> Bool} {l : List α} {x : α} (h : x ∈ l) (hf : f x = false) : l.all f = false := by
 cases hl : l.all f with
 | false => rfl
 | true => rw [List.all_eq_true] at hl; rw [hl x h] at hf; cases hf
theorem zh5 {v : AV} {l : List Nd} (hv : NsA v l) (hl : l.length <= 1000000) (hn : ∀ n ∈ l, NdOk2 n) (hn9 : ∀ n ∈ l, nlen n <= 900000) (H : AHeap) :
  Does Tryz.prog G 30 [v] H fun r h => FaultA (l.all clkN) 10 r /\ h = H := by
 refine keptR (fun r n h => h.lt n) (Does.wf Tryz.call30 fun hw _ => ?_)
 refine zaf Tryz.call30 Tryz.func30 rfl (by simp [Tryz.f30]) ?_
 have hal := hv.alen
 have hsc := hv.sc
 simp [hal, hsc, hv.cells, -alen]
 refine zai (fun j T' H' => ∃ i : Nat, i + j = l.length /\ T' 2 = .ptr H.next 0 /\ T' 10 = v /\ T' 11 = .int .i64 l.length /\ T' 12 = .int .i64 i /\ (l.take i).all clkN = true /\ H'.get H.next = some (.cells [.int .i64 0, .int .i64 0]) /\ ∀ j x, H.get j = some x -> H'.get j = some x) l.length ⟨0, by simp, by simp, by simp, by simp, by simp, by simp, by simp, fun j x hj => off1 hw hj⟩ ?_
 rintro j T H1 ⟨i, hij, t2, t10, t11, t12, hA, hc, hkp⟩ hw1 _
 by_cases hi : i < l.length
 · have hii : (i : Int) < l.length := by omega
   obtain ⟨x, hx⟩ : ∃ x, l[i]? = some x := ⟨_, List.getElem?_eq_getElem hi⟩
   obtain ⟨cs, hcs, hat, h6⟩ := hv.at hx
   have hxm := List.mem_of_getElem? hx
   have hxn := hn x hxm
   have hx9 := hn9 x hxm
   have wr : IntKind.i64.wrap ((i : Int) + 1) = ((i + 1 : Nat) : Int) := by rw [IntWalk.i64_in _ (by omega)]; omega
   have g1 : H.next ≠ H1.next := by have := zac hw1 hc; omega
   have hal2 := zcj x.eqs
   have hq := hxn.eqs
   simp only [zah] at hat
   simp [t2, t10, t11, t12, hii, hi, hcs, hat, h6, hal2, -alen]
   refine zai (fun j2 T' H' => ∃ i2 : Nat, i2 + j2 = x.eqs.length /\ T' 2 = .ptr H.next 0 /\ T' 10 = v /\ T' 11 = .int .i64 l.length /\ T' 12 = .int .i64 i /\ T' 4 = .ptr H1.next 0 /\ T' 17 = eqsV x.eqs /\ T' 18 = .int .i64 x.eqs.length /\ T' 19 = .int .i64 i2 /\ (x.eqs.take i2).all (eqK x) = true /\ H'.get H.next = some (.cells [.int .i64 0, .int .i64 0]) /\ H'.get H1.next = some (.cells (zah x)) /\ ∀ j x, H.get j = some x -> H'.get j = some x) x.eqs.length ⟨0, by simp, by simp [t2], by simp [t10], by simp [t11], by simp [t12], by simp, by simp, by simp, by simp, by simp, by simp [g1, hc], by simp [zah], fun y z hy => off1 hw1 (hkp y z hy)⟩ ?_
   rintro j2 T2 H2 ⟨i2, hij2, u2, u10, u11, u12, u4, u17, u18, u19, hA2, hc2, hx2, hkp2⟩ hw2 _
   by_cases hi2 : i2 < x.eqs.length
   · have hii2 : (i2 : Int) < x.eqs.length := by omega
     obtain ⟨q, hqx⟩ : ∃ q, x.eqs[i2]? = some q := ⟨_, List.getElem?_eq_getElem hi2⟩
     have hqm := List.mem_of_getElem? hqx
     have hqt := hxn.wt q hqm
     have hat2 := zcQ hqx
     have hpv := zcs hi2
     have hlen7 := zaq x.eqs
     have h7 : 7 <= (zag x.eqs).length - i2 * 7 := by omega
     have wr2 : IntKind.i64.wrap ((i2 : Int) + 1) = ((i2 + 1 : Nat) : Int) := by rw [IntWalk.i64_in _ (by omega)]; omega
     have l1 := zac hw2 hc2
     have l2 := zac hw2 hx2
     have hd := zjE (G := G) (n := x) hx9 q.e hqt
     have hf1 := fun H y => zdm (G := G) y (clkOf x q.name) (H := H)
     have hof := fun H => zgO (G := G) (n := x) (by omega) q.name H
     have htk : (x.eqs.take (i2 + 1)).all (eqK x) = ((x.eqs.take i2).all (eqK x) && eqK x q) := by
      rw [List.take_add_one, hqx, List.all_append]; simp
     have hbadE : eqK x q = false -> l.all clkN = false := fun h => zeH hxm (by rw [clkN_all]; exact zeH hqm h)
     have hek : eqK x q = match clkE x q.e with
      | none => false
      | some y => fits y (clkOf x q.name) := rfl
     obtain ⟨qn, ⟨op, nm, num, pos, ks⟩, qp⟩ := q
     simp only [zao, zab, List.cons_append, List.nil_append] at hat2
     simp only [zah] at hx2
     have m1 : ¬ H1.next = H2.next := by omega
     have m2 : ¬ H1.next = H2.next + 1 := by omega
     have m3 : ¬ H.next = H2.next := by omega
     have m4 : ¬ H.next = H2.next + 1 := by omega
     simp [u2, u4, u10, u11, u12, u17, u18, u19, hii2, hi2, hpv, hat2, h7, hx2, m1, m2]
     refine zav (hd _ _ (by simp [tiC, hpv])) ?_
     intro r H3 hr hw3 _
     unfold CkR at hr
     simp only at hek
     cases hce : clkE x (.mk op nm num pos ks) with
     | none =>
       rw [hce] at hr hek
       obtain ⟨rfl, hn3, ⟨p, z, hz, hpk, hpz⟩, hkp3⟩ := hr
       simp only [AHeap.next_push] at hn3
       have hc3 : H3.get H.next = some (.cells [.int .i64 0, .int .i64 0]) := hkp3 _ _ (by omega) (by simp [m3, m4, hc2])
       simp only [tiC] at hpk
       have m5 : ¬ H.next = H3.next := by omega
       have m6 : ¬ H2.next + 1 = H3.next := by omega
       have m7 : ¬ p = H3.next := by have := zac hw3 hpz; omega
       simp [u2, u4, tm0, hpk, hpz, hc3, m5, m6, m7]
       refine ⟨⟨10, z, rfl, fun h => ?_, fun _ => ⟨rfl, hz⟩⟩, fun y w hy => ?_⟩
       · rw [hbadE hek] at h; cases h
       · have k1 := zac hw hy
         have k2 := hkp3 y w (by omega) (by simp [show ¬ y = H2.next by omega, show ¬ y = H2.next + 1 by omega, hkp2 _ _ hy])
         rw [if_neg (by omega), if_neg (by have := zac hw3 k2; omega), k2]
     | some y =>
       rw [hce] at hr hek
       obtain ⟨rfl, rfl⟩ := hr
       obtain ⟨yo, yn, ym, yp, yc, yk, ya⟩ := y
       have hf := fun H => hf1 H (.mk yo yn ym yp yc yk ya)
       rw [zaS] at hf ⊢
       simp only [zah] at hof
       have m5 : ¬ H.next = H2.next + 1 + 1 := by omega
       have m6 : ¬ H1.next = H2.next + 1 + 1 := by omega
       have m7 : ¬ H2.next = H2.next + 1 + 1 := by omega
       simp [u2, u4, u10, u11, u12, u17, u18, u19, hx2, m1, m2, m3, m4, m5, m6]
       refine zak [(0, 0), (0, 5), (1, 0), (3, 0)] mixedOrders (by kernel_rfl) ?_
       intro es hes
       simp [u2, u4, u10, u11, u12, u17, u18, u19, hx2, m1, m2, m3, m4, m5, m6, m7]
       refine ⟨_, _, hof _, by simp, _, _, hf _ ?h1, Nat.le_refl _, ?_⟩
       case h1 =>
        have k1 := clkE_len _ _ hce
        have k2 : x.locals.length <= 900000 := by unfold nlen at hx9; omega
        omega
       simp only at hek
       rw [<- hek] at *
       generalize hFB : eqK x ⟨qn, .mk op nm num pos ks, qp⟩ = FB at *
       have old : ∀ y w, H.get y = some w -> y ≠ H.next /\ y ≠ H2.next /\ y ≠ H2.next + 1 /\ y ≠ H2.next + 1 + 1 := fun y w hy => by
        have k1 := zac hw hy
        omega
       cases FB with
       | true =>
         simp [u2, u4, u10, u11, u12, u17, u18, u19, hx2, m1, m2, m3, m4, m5, m6, m7, rds, heapF]
         have htk : (x.eqs.take (i2 + 1)).all (eqK x) = true := by rw [htk, hA2]; rfl
         refine ⟨⟨by subst hes; kernel_rfl, by subst hes; kernel_rfl⟩, j2 - 1, by omega, i2 + 1, by omega, wr2, by simpa using htk, hc2, rfl, fun y w hy => ?_⟩
         obtain ⟨o1, o2, o3, o4⟩ := old y w hy
         simp [o2, o3, o4, hkp2 _ _ hy]
       | false =>
         simp [u2, u4, u10, u11, u12, u17, u18, u19, hx2, hc2, m1, m2, m3, m4, m5, m6, m7, rds, heapF]
         refine ⟨⟨by subst hes; kernel_rfl, by subst hes; kernel_rfl⟩, ⟨10, qp, rfl, fun h => ?_, fun _ => ⟨rfl, by omega⟩⟩, fun y w hy => ?_⟩
         · rw [hbadE rfl] at h; cases h
         · obtain ⟨o1, o2, o3, o4⟩ := old y w hy
           simp [o1, o2, o3, o4, hkp2 _ _ hy]
   · obtain rfl : i2 = x.eqs.length := by omega
     rw [List.take_length] at hA2
     have htk : (l.take (i + 1)).all clkN = true := by
      rw [List.take_add_one, hx, List.all_append, hA]
      simpa [clkN_all] using hA2
     simp [u2, u4, u10, u11, u12, u17, u18, u19]
     exact ⟨j - 1, by omega, i + 1, by omega, wr, by simpa using htk, hc2, hkp2⟩
 · obtain rfl : i = l.length := by omega
   rw [List.take_length] at hA
   simp [t2, t10, t11, t12, hc]
   refine ⟨⟨0, 0, rfl, fun _ => ⟨rfl, rfl⟩, fun h => ?_⟩, fun y w hy => ?_⟩
   · rw [hA] at h
     cases h
   · have l1 := zac hw hy
     rw [if_neg (by omega)]
     exact hkp y w hy
theorem ixB_does {l : List Ex} {g : FuncId} {r0 : AV} {H : AHeap} {p : Ex -> Bool} (hlen : l.length <= 1000000) (hp : ∀ x ∈ l, Does Tryz.prog G g [r0, .agg (zas x)] H fun r h => r = .bool (p x) /\ h = H) :
  Does Tryz.prog G 199 [kidsV l, .func (.func g) [r0] []] H fun r h => r = .int .i64 (ixOf p l) /\ h = H := by
 refine zaf Tryz.call199 Tryz.func199 rfl (by simp [Tryz.f199]) ?_
 have hal := zbo l
 simp [hal, -alen]
 refine za6 (fun m T' H' => H' = H /\ T' 0 = kidsV l /\ T' 1 = .func (.func g) [r0] [] /\ T' 7 = .int .i64 l.length /\ ∃ i : Nat, i + m = l.length /\ T' 8 = .int .i64 i /\ ∀ j x, j < i -> l[j]? = some x -> p x = false) l.length ⟨rfl, by simp, by simp, by simp, 0, by simp, by simp, fun j x h => absurd h (by omega)⟩ ?_
 rintro m T H1 ⟨rfl, t0, t1, t7, i, him, t8, hno⟩
 by_cases hi : i < l.length
 · have hii : (i : Int) < l.length := by omega
   obtain ⟨x, hx⟩ : ∃ x, l[i]? = some x := ⟨_, List.getElem?_eq_getElem hi⟩
   have hkv : kidsV l = .vsl (zae l) l.length := by unfold kidsV; rw [if_neg (by cases l <;> simp_all)]
   have hat := zb0 hx
   have hlen5 := zap l
   have h5 : 5 <= (zae l).length - i * 5 := by omega
   have hd := hp x (List.mem_of_getElem? hx)
   have wr : IntKind.i64.wrap ((i : Int) + 1) = ((i + 1 : Nat) : Int) := by rw [IntWalk.i64_in _ (by omega)]; omega
   simp [t0, t1, t7, t8, hii, hi, hkv, hat, h5]
   refine zaa hd ?_
   rintro r H2 ⟨rfl, rfl⟩
   cases hpx : p x with
   | true =>
     simp [t0, t1, t7, t8]
     exact (zbH hx hpx hno).symm
   | false =>
     simp [t0, t1, t7, t8]
     refine ⟨m - 1, by omega, i + 1, by omega, wr, fun j y hj hy => ?_⟩
     by_cases e : j = i
     · subst e; rw [hx] at hy; cases hy; exact hpx
     · exact hno j y (by omega) hy
 · obtain rfl : i = l.length := by omega
   simp [t0, t1, t7, t8]
   exact (zcg fun x hx => by
    obtain ⟨j, hj⟩ := List.mem_iff_getElem?.1 hx
    exact hno j x (List.getElem?_eq_some_iff.1 hj).1 hj).symm
theorem hasB_does {l : List Ex} {g : FuncId} {r0 : AV} {H : AHeap} {p : Ex -> Bool} (hlen : l.length <= 1000000) (hp : ∀ x ∈ l, Does Tryz.prog G g [r0, .agg (zas x)] H fun r h => r = .bool (p x) /\ h = H) :
  Does Tryz.prog G 178 [kidsV l, .func (.func g) [r0] []] H fun r h => r = .bool (l.any p) /\ h = H := by
 refine zaf Tryz.call178 Tryz.func178 rfl (by simp [Tryz.f178]) ?_
 simp
 refine zaa (ixB_does hlen hp) ?_
 rintro r H2 ⟨rfl, rfl⟩
 simp
 exact zfn p l
theorem zgA (s : List Lex.Bs) : ∀ l : List Ex, zdb s l = l.any (lateE s)
 | [] => rfl
 | e :: l => by rw [zdb, zgA s l, List.any_cons]
def LtD (G : Nat -> Option AV) (s : List Lex.Bs) (e : Ex) : Prop := ∀ (H : AHeap) (m : Nat), H.get m = some (.map (mapC s)) ->
    Does Tryz.prog G 112 [.map m, .agg (zas e)] H fun r h => r = .bool (lateE s e) /\ h = H
theorem any_does {H : AHeap} {s : List Lex.Bs} {m : Nat} {l : List Ex} (hm : H.get m = some (.map (mapC s))) (hlen : l.length <= 1000000) (hp : ∀ x ∈ l, LtD G s x) :
  Does Tryz.prog G 149 [.map m, kidsV l] H fun r h => r = .bool (zdb s l) /\ h = H := by
 refine zaf Tryz.call149 Tryz.func149 rfl (by simp [Tryz.f149]) ?_
 simp
 refine zaa (hasB_does hlen fun x hx => hp x hx H m hm) ?_
 rintro r H2 ⟨rfl, rfl⟩
 simp [zgA]
theorem zim (s : List Lex.Bs) : ∀ e : Ex, e.wt <= 1000000 -> LtD G s e := by
 refine zer ?_
 intro op nm num pos ks ih hwt H m hm
 have hkl : ks.length <= 1000000 := by
  have := zcw ks
  rw [Ex.wt] at hwt
  omega
 have hks : ∀ x ∈ ks, LtD G s x := fun x hx => ih x hx (by
  have := zcn hx
  rw [Ex.wt] at hwt
  omega)
 refine kept (fun _ => rfl) (Does.wf Tryz.call112 fun hw _ => ?_)
 have hmn := zac hw hm
 have e1 : m ≠ H.next := by omega
 refine zaf Tryz.call112 Tryz.func112 rfl (by simp [Tryz.f112]) ?_
 rw [zab]
 have hle : lateE s (.mk op nm num pos ks) = if op = sPre then true else if op = sVar then s.contains nm else if zii op then false else zdb s ks := by rw [lateE]
 rw [hle]
 by_cases c1 : op = sPre
 · subst c1
   simp [sPre]
   exact fun j x hj => off1 hw hj
 by_cases c2 : op = sVar
 · subst c2
   rcases za8 (nm := nm) (S := s) with ⟨q1, q2⟩ | ⟨q1, j, q2, q3⟩
   · simp [sVar, sPre, hm, e1, q2, q1]
     exact ⟨by simpa using q1, fun j x hj => off1 hw hj⟩
   · simp [sVar, sPre, hm, e1, q2, q1]
     exact ⟨by simpa using q1, fun j x hj => off1 hw hj⟩
 have d1 : (op == ([112, 114, 101] : Lex.Bs)) = false := by simpa [sPre] using c1
 have d2 : (op == ([118, 97, 114] : Lex.Bs)) = false := by simpa [sVar] using c2
 have hany := fun H hm => any_does (G := G) (H := H) (s := s) (m := m) (l := ks) hm hkl hks
 by_cases c3 : zii op = true
 · rw [if_neg c1, if_neg c2, if_pos c3]
   simp only [zii, decide_eq_true_eq] at c3
   rcases c3 with rfl | rfl | rfl | rfl | rfl | rfl
   all_goals
    simp [sInt, sBool, sFby, sMerge, sCall]
    exact fun j x hj => off1 hw hj
 · rw [if_neg c1, if_neg c2, if_neg c3]
   simp only [zii, decide_eq_true_eq, not_or] at c3
   obtain ⟨k1, k2, k3, k4, k5, k6⟩ := c3
   have g1 : (op == ([105, 110, 116] : Lex.Bs)) = false := by simpa [sInt] using k1
   have g2 : (op == ([98, 111, 111, 108] : Lex.Bs)) = false := by simpa [sBool] using k2
   have g3 : (op == ([45, 62] : Lex.Bs)) = false := by simpa using k3
   have g4 : (op == ([102, 98, 121] : Lex.Bs)) = false := by simpa [sFby] using k4
   have g5 : (op == ([109, 101, 114, 103, 101] : Lex.Bs)) = false := by simpa [sMerge] using k5
   have g6 : (op == ([99, 97, 108, 108] : Lex.Bs)) = false := by simpa [sCall] using k6
   simp [d1, d2, g1, g2, g3, g4, g5, g6]
   refine zaa (hany _ ?h1) ?_
   case h1 => simp [e1, hm]
   rintro _ H2 ⟨rfl, rfl⟩
   simp
   exact fun j x hj => off1 hw hj
theorem part_does {H : AHeap} {s : List Lex.Bs} {m : Nat} (hm : H.get m = some (.map (mapC s))) (op nm : Lex.Bs) (num pos : Nat) {ks : List Ex} (hwt : Ex.wts ks <= 1000000) :
  Does Tryz.prog G 113 [.map m, .agg (zas (.mk op nm num pos ks))] H fun r h => r = .bool (partE s op nm ks) /\ h = H := by
 have hkl : ks.length <= 1000000 := by
  have := zcw ks
  omega
 have hks : ∀ x ∈ ks, LtD G s x := fun x hx => zim s x (by
  have := zcn hx
  omega)
 refine kept (fun _ => rfl) (Does.wf Tryz.call113 fun hw _ => ?_)
 have hmn := zac hw hm
 have e1 : m ≠ H.next := by omega
 refine zaf Tryz.call113 Tryz.func113 rfl (by simp [Tryz.f113]) ?_
 rw [zab]
 have hany := fun H hm => any_does (G := G) (H := H) (s := s) (m := m) (l := ks) hm hkl hks
 unfold partE
 by_cases c1 : op = sPre \/ op = sFby \/ op = sCall
 · rw [if_pos c1]
   rcases c1 with rfl | rfl | rfl
   all_goals
    simp [sPre, sFby, sCall]
    refine zaa (hany _ ?h1) ?_
    case h1 => simp [e1, hm]
    rintro _ H2 ⟨rfl, rfl⟩
    simp
    exact fun j x hj => off1 hw hj
 rw [if_neg c1]
 simp only [not_or] at c1
 obtain ⟨k1, k2, k3⟩ := c1
 have g1 : (op == ([112, 114, 101] : Lex.Bs)) = false := by simpa [sPre] using k1
 have g2 : (op == ([102, 98, 121] : Lex.Bs)) = false := by simpa [sFby] using k2
 have g3 : (op == ([99, 97, 108, 108] : Lex.Bs)) = false := by simpa [sCall] using k3
 by_cases c2 : op = [45, 62]
 · subst c2
   have hal := zbo ks
   cases ks with
   | nil =>
     simp [hal, lateH, -alen]
     exact fun j x hj => off1 hw hj
   | cons e ks =>
     have hd := hks e (by simp)
     have hat := zb0 (l := e :: ks) (i := 0) rfl
     have hkv : kidsV (e :: ks) = .vsl (zae (e :: ks)) (ks.length + 1) := rfl
     have hlen5 := zap (e :: ks)
     have h5 : 5 <= (zae (e :: ks)).length := by simp at hlen5; omega
     obtain ⟨xo, xn, xm, xp, xk⟩ := e
     unfold LtD at hd
     simp only [zab, Nat.zero_mul, List.drop_zero] at hat hd
     rw [hkv] at hal
     have hgt : (0 : Int) < (ks.length : Int) + 1 := by omega
     simp [hal, hkv, hat, h5, hgt, lateH, -alen]
     refine zaa (hd _ m ?h1) ?_
     case h1 => simp [e1, hm]
     rintro _ H2 ⟨rfl, rfl⟩
     simp
     exact ⟨rfl, fun j x hj => off1 hw hj⟩
 have g4 : (op == ([45, 62] : Lex.Bs)) = false := by simpa using c2
 rw [if_neg c2]
 by_cases c3 : op = sWhen
 · subst c3
   rw [if_pos rfl]
   rcases za8 (nm := nm) (S := s) with ⟨q1, q2⟩ | ⟨q1, j, q2, q3⟩
   all_goals
    simp [sWhen, hm, e1, q2, q1]
    exact ⟨by simpa using q1, fun j x hj => off1 hw hj⟩
 have g5 : (op == ([119, 104, 101, 110] : Lex.Bs)) = false := by simpa [sWhen] using c3
 rw [if_neg c3]
 by_cases c4 : op = sMerge
 · subst c4
   rw [if_pos rfl]
   rcases za8 (nm := nm) (S := s) with ⟨q1, q2⟩ | ⟨q1, j, q2, q3⟩
   · simp [sMerge, hm, e1, q2, q1]
     refine zaa (hany _ ?h1) ?_
     case h1 => simp [e1, hm]
     rintro _ H2 ⟨rfl, rfl⟩
     have q3 : ¬ nm ∈ s := by simpa using q1
     simp [q3]
     exact fun j x hj => off1 hw hj
   · simp [sMerge, hm, e1, q2, q1]
     exact ⟨.inl (by simpa using q1), fun j x hj => off1 hw hj⟩
 have g6 : (op == ([109, 101, 114, 103, 101] : Lex.Bs)) = false := by simpa [sMerge] using c4
 rw [if_neg c4]
 simp [g1, g2, g3, g4, g5, g6]
 exact fun j x hj => off1 hw hj
def WgR (b : Bool) (r : AV) : Prop := ∃ z : Int, 0 <= z /\ r = .tuple [.int .i64 z, .bool b]
def WgD (G : Nat -> Option AV) (s : List Lex.Bs) (e : Ex) : Prop := ∀ (H : AHeap) (m : Nat), H.get m = some (.map (mapC s)) ->
    Does Tryz.prog G 61 [.map m, .agg (zas e)] H fun r h => WgR (zaV s e) r /\ h = H
theorem zfr (s : List Lex.Bs) : ∀ l : List Ex, zde s l = l.any (zaV s)
 | [] => rfl
 | e :: l => by rw [zde, zfr s l, List.any_cons]
theorem wrong_does (s : List Lex.Bs) : ∀ e : Ex, e.wt <= 1000000 -> WgD G s e := by
 refine zer ?_
 intro op nm num pos ks ih hwt H m hm
 have hwk : Ex.wts ks <= 1000000 := by
  rw [Ex.wt] at hwt
  omega
 have hkl : ks.length <= 1000000 := by
  have := zcw ks
  omega
 refine keptR (fun r n h => by obtain ⟨z, _, rfl⟩ := h; rfl) (Does.wf Tryz.call61 fun hw _ => ?_)
 have hmn := zac hw hm
 have e1 : m ≠ H.next := by omega
 have hal := zbo ks
 have hpa := fun H hm => part_does (G := G) (H := H) (s := s) (m := m) hm op nm num pos hwk
 have hwe : zaV s (.mk op nm num pos ks) = (ks.any (zaV s) || partE s op nm ks) := by rw [zaV, zfr]
 refine zaf Tryz.call61 Tryz.func61 rfl (by simp [Tryz.f61]) ?_
 rw [zab] at *
 simp [hal, -alen]
 refine zai (fun j T' H' => ∃ i : Nat, i + j = ks.length /\ T' 0 = .map m /\ T' 3 = .ptr H.next 0 /\ T' 11 = kidsV ks /\ T' 12 = .int .i64 ks.length /\ T' 13 = .int .i64 i /\ (ks.take i).any (zaV s) = false /\ H'.get H.next = some (.cells [.str op, .str nm, .int .i64 num, .int .i64 pos, kidsV ks]) /\ ∀ j x, H.get j = some x -> H'.get j = some x) ks.length ⟨0, by simp, by simp, by simp, by simp, by simp, by simp, by simp, by simp, fun j x hj => off1 hw hj⟩ ?_
 rintro j T H1 ⟨i, hij, t0, t3, t11, t12, t13, hA, hbx, hkp⟩ hw1 _
 have l1 := zac hw1 hbx
 by_cases hi : i < ks.length
 · have hii : (i : Int) < ks.length := by omega
   obtain ⟨x, hx⟩ : ∃ x, ks[i]? = some x := ⟨_, List.getElem?_eq_getElem hi⟩
   have hkv : kidsV ks = .vsl (zae ks) ks.length := by unfold kidsV; rw [if_neg (by cases ks <;> simp_all)]
   have hat := zb0 hx
   have hlen5 := zap ks
   have h5 : 5 <= (zae ks).length - i * 5 := by omega
   have hxm := List.mem_of_getElem? hx
   have hd := ih x hxm (by have := zcn hxm; omega)
   have wr : IntKind.i64.wrap ((i : Int) + 1) = ((i + 1 : Nat) : Int) := by rw [IntWalk.i64_in _ (by omega)]; omega
   have htk : (ks.take (i + 1)).any (zaV s) = ((ks.take i).any (zaV s) || zaV s x) := by
    rw [List.take_add_one, hx, List.any_append]; simp
   have hyes : zaV s x = true -> ks.any (zaV s) = true := fun h => List.any_eq_true.2 ⟨x, hxm, h⟩
   unfold WgD at hd
   generalize hB : zaV s x = B at *
   obtain ⟨xo, xn, xm, xp, xk⟩ := x
   simp only [zab] at hat hd
   simp [t0, t3, t11, t12, t13, hii, hi, hkv, hat, h5]
   refine zaa (hd _ m ?h1) ?_
   case h1 => simp [show m ≠ H1.next by omega, hkp _ _ hm]
   rintro _ H2 ⟨⟨z, hz, rfl⟩, rfl⟩
   cases B with
   | true =>
     simp [t0, t3, t11, t12, t13]
     refine ⟨⟨z, hz, by rw [hwe, hyes rfl]; rfl⟩, fun y w hy => ?_⟩
     have k1 := zac hw hy
     rw [if_neg (by omega)]
     exact hkp _ _ hy
   | false =>
     have htk : (ks.take (i + 1)).any (zaV s) = false := by rw [htk, hA]; rfl
     simp [t0, t3, t11, t12, t13]
     refine ⟨j - 1, by omega, i + 1, by omega, wr, by simpa using htk, by rw [if_neg (by omega)]; exact hbx, fun y w hy => ?_⟩
     have k1 := zac hw hy
     rw [if_neg (by omega)]
     exact hkp _ _ hy
 · obtain rfl : i = ks.length := by omega
   rw [List.take_length] at hA
   rw [hA, Bool.false_or] at hwe
   simp [t0, t3, t11, t12, t13]
   refine zak [(1, 0), (1, 5), (3, 0)] mixedOrders (by kernel_rfl) ?_
   intro es hes
   simp [t0, t3, t11, t12, t13, hbx]
   refine ⟨_, _, hpa _ (hkp _ _ hm), Nat.le_refl _, ⟨by subst hes; kernel_rfl, by subst hes; kernel_rfl⟩, ?_⟩
   clear hes
   simp [rds, heapF, hbx, t0, t3]
   refine ⟨⟨pos, by omega, by rw [hwe]⟩, hkp⟩
theorem told1_does {nm : Lex.Bs} {k : Nat} {H : AHeap} (hk : H.get k = some (.cells [.str nm])) (x : Va) : Does Tryz.prog G 115 [.agg (zar x), .ptr k 0] H fun r h => r = .bool (x.name == nm) /\ h = H := by
 refine kept (fun _ => rfl) (Does.wf Tryz.call115 fun hw _ => ?_)
 have e1 : k ≠ H.next := by have := (hw _ _ hk).1; omega
 refine zaf Tryz.call115 Tryz.func115 rfl (by simp [Tryz.f115]) ?_
 simp [hk, e1, zar]
 exact fun j x hj => off1 hw hj
theorem told2_does {nm : Lex.Bs} {k : Nat} {H : AHeap} (hk : H.get k = some (.cells [.str nm])) (x : Va) : Does Tryz.prog G 116 [.agg (zar x), .ptr k 0] H fun r h => r = .bool (x.on == nm) /\ h = H := by
 refine kept (fun _ => rfl) (Does.wf Tryz.call116 fun hw _ => ?_)
 have e1 : k ≠ H.next := by have := (hw _ _ hk).1; omega
 refine zaf Tryz.call116 Tryz.func116 rfl (by simp [Tryz.f116]) ?_
 simp [hk, e1, zar]
 exact fun j x hj => off1 hw hj
theorem told_does {n : Nd} (hn : nlen n <= 1000000) (nm : Lex.Bs) (H : AHeap) : Does Tryz.prog G 62 [.agg (zah n), .str nm] H fun r h => r = .bool (told n nm) /\ h = H := by
 have ho : n.outs.length <= 1000000 := by unfold nlen at hn; omega
 have hl : n.locals.length <= 1000000 := by unfold nlen at hn; omega
 refine kept (fun _ => rfl) (Does.wf Tryz.call62 fun hw _ => ?_)
 refine zaf Tryz.call62 Tryz.func62 rfl (by simp [Tryz.f62]) ?_
 have h1 := fun (H : AHeap) k hk => zfJ (G := G) (VsA.vsV n.outs) (H := H) (cap := [.ptr k 0]) ho fun x _ => told1_does (nm := nm) (k := k) hk x
 have h2 := fun (H : AHeap) k hk => zfJ (G := G) (VsA.vsV n.locals) (H := H) (cap := [.ptr k 0]) hl fun x _ => told2_does (nm := nm) (k := k) hk x
 have ht : told n nm = ((n.outs.any fun v => v.name == nm) || n.locals.any fun v => v.on == nm) := rfl
 simp [zah]
 refine zaa (h1 _ _ ?h3) ?_
 case h3 => simp
 rintro _ H2 ⟨rfl, rfl⟩
 cases ha : n.outs.any fun v => v.name == nm with
 | true =>
   rw [ha] at ht
   simp [ht]
   exact fun j x hj => off2 hw hj
 | false =>
   rw [ha] at ht
   simp
   refine zaa (h2 _ _ ?h4) ?_
   case h4 => simp
   rintro _ H3 ⟨rfl, rfl⟩
   simp [ht]
   exact fun j x hj => off2 hw hj
theorem lateR_drop {l : List Eqn} {i : Nat} {q : Eqn} (h : l[i]? = some q) (s : List Lex.Bs) (m : Bool) : lateR (l.drop i) s m = if !s.contains q.name && lateE s q.e then lateR (l.drop (i + 1)) (s ++ [q.name]) true else lateR (l.drop (i + 1)) s m := by
 have hlt := (List.getElem?_eq_some_iff.1 h).1
 rw [List.getElem?_eq_getElem hlt] at h
 simp only [Option.some.injEq] at h
 rw [List.drop_eq_getElem_cons hlt, h, lateR]
theorem lates_does {n : Nd} (hn : NdOk2 n) (H : AHeap) :
  Does Tryz.prog G 60 [.agg (zah n)] H fun r h => ∃ m, r = .map m /\ H.next <= m /\ h.get m = some (.map (mapC (lates n))) /\ ∀ j x, H.get j = some x -> h.get j = some x := by
 refine Does.wf Tryz.call60 fun hw _ => ?_
 refine zaf Tryz.call60 Tryz.func60 rfl (by simp [Tryz.f60]) ?_
 have hq := hn.eqs
 have hal := zcj n.eqs
 simp [zah, hal, -alen]
 refine zai (fun j T' H' => ∃ (s : List Lex.Bs) (mv : Bool), T' 1 = .ptr H.next 0 /\ T' 3 = .map (H.next + 1) /\ T' 4 = .bool mv /\ (mv = true -> outS s n.eqs < j /\ lates n = zeT n.eqs j s) /\ (mv = false -> lates n = s) /\ H'.get H.next = some (.cells (zah n)) /\ H'.get (H.next + 1) = some (.map (mapC s)) /\ ∀ j x, H.get j = some x -> H'.get j = some x) (n.eqs.length + 1) ⟨[], true, by simp, by simp, by simp, fun _ => ⟨by
   have : outS [] n.eqs <= n.eqs.length := by unfold outS; exact List.length_filter_le _ _
   omega, rfl⟩, (fun h => absurd h (by simp)), by simp [zah], by simp [mapC], fun j x hj => off2 hw hj⟩ ?_
 rintro j T H1 ⟨s, mv, t1, t3, t4, hyes, hno, hbx, hmp, hkp⟩ hw1 _
 cases mv with
 | false =>
   simp [t1, t3, t4]
   exact ⟨by rw [hno rfl]; exact hmp, hkp⟩
 | true =>
   obtain ⟨ho, hla⟩ := hyes rfl
   simp only [zah] at hbx
   simp [t1, t3, t4, hbx, hal, -alen]
   refine zai (fun j2 T' H' => ∃ (i : Nat) (s2 : List Lex.Bs) (m2 : Bool), i + j2 = n.eqs.length /\ T' 1 = .ptr H.next 0 /\ T' 3 = .map (H.next + 1) /\ T' 4 = .bool m2 /\ T' 10 = eqsV n.eqs /\ T' 11 = .int .i64 n.eqs.length /\ T' 12 = .int .i64 i /\ lateR n.eqs s false = lateR (n.eqs.drop i) s2 m2 /\ H'.get H.next = some (.cells (zah n)) /\ H'.get (H.next + 1) = some (.map (mapC s2)) /\ ∀ j x, H.get j = some x -> H'.get j = some x) n.eqs.length ⟨0, s, false, by simp, by simp [t1], by simp [t3], by simp, by simp, by simp, by simp, by simp, by simp [hbx, zah], hmp, hkp⟩ ?_
   rintro j2 T2 H2 ⟨i, s2, m2, hij, u1, u3, u4, u10, u11, u12, hR, hbx2, hmp2, hkp2⟩ hw2 _
   by_cases hi : i < n.eqs.length
   · have hii : (i : Int) < n.eqs.length := by omega
     obtain ⟨q, hqx⟩ : ∃ q, n.eqs[i]? = some q := ⟨_, List.getElem?_eq_getElem hi⟩
     have hqm := List.mem_of_getElem? hqx
     have hqt := hn.wt q hqm
     have hat2 := zcQ hqx
     have hpv := zcs hi
     have hlen7 := zaq n.eqs
     have h7 : 7 <= (zag n.eqs).length - i * 7 := by omega
     have wr2 : IntKind.i64.wrap ((i : Int) + 1) = ((i + 1 : Nat) : Int) := by rw [IntWalk.i64_in _ (by omega)]; omega
     have l1 := zac hw2 hbx2
     have l2 := zac hw2 hmp2
     have hd := zim (G := G) s2 q.e hqt
     have hdr := lateR_drop hqx s2 m2
     unfold LtD at hd
     obtain ⟨qn, ⟨op, nm, num, pos, ks⟩, qp⟩ := q
     simp only [zao, zab, List.cons_append, List.nil_append] at hat2 hd
     have m1 : ¬ H.next + 1 = H2.next := by omega
     rcases za8 (nm := qn) (S := s2) with ⟨q1, q2⟩ | ⟨q1, jj, q2, q3⟩
     · simp [u1, u3, u4, u10, u11, u12, hii, hi, hpv, hat2, h7, hmp2, m1, q2]
       refine zaa (hd _ _ ?h1) ?_
       case h1 => simp [m1, hmp2]
       rintro _ H3 ⟨rfl, rfl⟩
       cases hB : lateE s2 (.mk op nm num pos ks) with
       | true =>
         rw [hB] at hdr
         simp [u1, u3, u4, u10, u11, u12, m1, hmp2, q2]
         refine ⟨j2 - 1, by omega, i + 1, by omega, wr2, s2 ++ [qn], by rw [hR, hdr, q1]; rfl, by rw [if_neg (by omega)]; exact hbx2, zbx _ _, fun y w hy => ?_⟩
         have k1 := zac hw hy
         rw [if_neg (by omega), if_neg (by omega)]
         exact hkp2 _ _ hy
       | false =>
         rw [hB] at hdr
         simp [u1, u3, u4, u10, u11, u12, m1, hmp2, q2]
         refine ⟨j2 - 1, by omega, i + 1, by omega, wr2, s2, by rw [hR, hdr, q1]; rfl, by rw [if_neg (by omega)]; exact hbx2, rfl, fun y w hy => ?_⟩
         have k1 := zac hw hy
         rw [if_neg (by omega)]
         exact hkp2 _ _ hy
     · simp [u1, u3, u4, u10, u11, u12, hii, hi, hpv, hat2, h7, hmp2, m1, q2]
       refine ⟨j2 - 1, by omega, i + 1, by omega, wr2, s2, by rw [hR, hdr, q1]; rfl, by rw [if_neg (by omega)]; exact hbx2, rfl, fun y w hy => ?_⟩
       have k1 := zac hw hy
       rw [if_neg (by omega)]
       exact hkp2 _ _ hy
   · obtain rfl : i = n.eqs.length := by omega
     rw [List.drop_length, lateR] at hR
     simp [u1, u3, u4, u10, u11, u12]
     obtain ⟨k, rfl⟩ : ∃ k, j = k + 1 := ⟨j - 1, by omega⟩
     have hmv := zfE n.eqs n.eqs s fun q h => h
     rw [zeT, hR] at hla
     rw [hR] at hmv
     refine ⟨k, by omega, s2, fun h => ?_, fun h => ?_, hbx2, hmp2, hkp2⟩
     · subst h
       exact ⟨by have := hmv rfl; simp only at this; omega, by simpa using hla⟩
     · subst h
       simpa using hla
end Go.Proofs.YtnejkhhnpbcmaaaGreatDoor
