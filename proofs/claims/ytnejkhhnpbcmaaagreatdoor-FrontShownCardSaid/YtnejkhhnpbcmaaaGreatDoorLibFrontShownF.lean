/-
  Own library of this claim, part 6: texts one behind the other.
-/
import Derived.Test.YtnejkhhnpbcmaaaGreatDoorLibFrontShownE
set_option maxRecDepth 100000
set_option maxHeartbeats 8000000
set_option linter.unusedVariables false
set_option linter.unusedSimpArgs false
namespace Go.Proofs.YtnejkhhnpbcmaaaGreatDoor
open Go Go.Abs Go.Lex Go.Syn Go.Rp
variable {G : Nat -> Option AV}
def eqI (n : Nd) (q : Eqn) : Bool := !zaV (lates n) q.e && !((lates n).contains q.name && told n q.name)
theorem iniN_all (n : Nd) : iniN n = n.eqs.all (eqI n) := rfl
theorem zhw {v : AV} {l : List Nd} (hv : NsA v l) (hl : l.length <= 1000000) (hn : ∀ n ∈ l, NdOk2 n) (H : AHeap) :
  Does Tryz.prog G 31 [v] H fun r h => FaultA (l.all iniN) 11 r /\ h = H := by
 refine keptR (fun r n h => h.lt n) (Does.wf Tryz.call31 fun hw _ => ?_)
 refine zaf Tryz.call31 Tryz.func31 rfl (by simp [Tryz.f31]) ?_
 have hal := hv.alen
 have hsc := hv.sc
 simp [hal, hsc, hv.cells, -alen]
 refine zai (fun j T' H' => ∃ i : Nat, i + j = l.length /\ T' 2 = .ptr H.next 0 /\ T' 10 = v /\ T' 11 = .int .i64 l.length /\ T' 12 = .int .i64 i /\ (l.take i).all iniN = true /\ H'.get H.next = some (.cells [.int .i64 0, .int .i64 0]) /\ ∀ j x, H.get j = some x -> H'.get j = some x) l.length ⟨0, by simp, by simp, by simp, by simp, by simp, by simp, by simp, fun j x hj => off1 hw hj⟩ ?_
 rintro j T H1 ⟨i, hij, t2, t10, t11, t12, hA, hc, hkp⟩ hw1 _
 by_cases hi : i < l.length
 · have hii : (i : Int) < l.length := by omega
   obtain ⟨x, hx⟩ : ∃ x, l[i]? = some x := ⟨_, List.getElem?_eq_getElem hi⟩
   obtain ⟨cs, hcs, hat, h6⟩ := hv.at hx
   have hxm := List.mem_of_getElem? hx
   have hxn := hn x hxm
   have wr : IntKind.i64.wrap ((i : Int) + 1) = ((i + 1 : Nat) : Int) := by rw [IntWalk.i64_in _ (by omega)]; omega
   have g1 : H.next ≠ H1.next := by have := zac hw1 hc; omega
   have hal2 := zcj x.eqs
   have hq := hxn.eqs
   have hla := fun H => lates_does (G := G) hxn H
   simp only [zah] at hat hla
   simp [t2, t10, t11, t12, hii, hi, hcs, hat, h6, hal2, -alen]
   refine zav (hla _) ?_
   rintro _ H2 ⟨m, rfl, hmn, hmp, hkp2⟩ hw2 _
   simp only [AHeap.next_push] at hmn
   have hx2 := hkp2 H1.next _ (by simp; rfl)
   have hc2 := hkp2 H.next _ (by simp [g1]; exact hc)
   have hkp3 : ∀ j x, H.get j = some x -> H2.get j = some x := fun y w hy => hkp2 y w (by
    have := zac hw1 (hkp y w hy)
    simp [show ¬ y = H1.next by omega, hkp y w hy])
   simp [t2, t10, t11, t12, hx2, hal2, -alen]
   refine zai (fun j2 T' H' => ∃ i2 : Nat, i2 + j2 = x.eqs.length /\ T' 2 = .ptr H.next 0 /\ T' 10 = v /\ T' 11 = .int .i64 l.length /\ T' 12 = .int .i64 i /\ T' 4 = .ptr H1.next 0 /\ T' 5 = .map m /\ T' 19 = eqsV x.eqs /\ T' 20 = .int .i64 x.eqs.length /\ T' 21 = .int .i64 i2 /\ (x.eqs.take i2).all (eqI x) = true /\ H'.get H.next = some (.cells [.int .i64 0, .int .i64 0]) /\ H'.get H1.next = some (.cells (zah x)) /\ H'.get m = some (.map (mapC (lates x))) /\ ∀ j x, H.get j = some x -> H'.get j = some x) x.eqs.length ⟨0, by simp, by simp [t2], by simp [t10], by simp [t11], by simp [t12], by simp, by simp, by simp, by simp, by simp, by simp, hc2, by simpa [zah] using hx2, hmp, hkp3⟩ ?_
   clear hkp2
   rintro j2 T2 H3 ⟨i2, hij2, u2, u10, u11, u12, u4, u5, u19, u20, u21, hA2, hc3, hx3, hm3, hkp2⟩ hw3 _
   by_cases hi2 : i2 < x.eqs.length
   · have hii2 : (i2 : Int) < x.eqs.length := by omega
     obtain ⟨q, hqx⟩ : ∃ q, x.eqs[i2]? = some q := ⟨_, List.getElem?_eq_getElem hi2⟩
     have hqm := List.mem_of_getElem? hqx
     have hqt := hxn.wt q hqm
     have hat2 := zcQ hqx
     have hpv := zcs hi2
     have hlen7 := zaq x.eqs
     have h7 : 7 <= (zag x.eqs).length - i2 * 7 := by omega
     have wr2 : IntKind.i64.wrap ((i2 : Int) + 1) = ((i2 + 1 : Nat) : Int) := by rw [IntWalk.i64_in _ (by omega)]; omega
     have l1 := zac hw3 hc3
     have l2 := zac hw3 hx3
     have l3 := zac hw3 hm3
     have hd := wrong_does (G := G) (lates x) q.e hqt
     have hto := fun H => told_does (G := G) (n := x) hxn.vars q.name H
     have htk : (x.eqs.take (i2 + 1)).all (eqI x) = ((x.eqs.take i2).all (eqI x) && eqI x q) := by
      rw [List.take_add_one, hqx, List.all_append]; simp
     have hbadE : eqI x q = false -> l.all iniN = false := fun h => zeH hxm (by rw [iniN_all]; exact zeH hqm h)
     have hek : eqI x q = (!zaV (lates x) q.e && !((lates x).contains q.name && told x q.name)) := rfl
     unfold WgD at hd
     obtain ⟨qn, ⟨op, nm, num, pos, ks⟩, qp⟩ := q
     simp only [zao, zab, List.cons_append, List.nil_append] at hat2 hd
     simp only [zah] at hx3 hto
     have m1 : ¬ H1.next = H3.next := by omega
     have m3 : ¬ H.next = H3.next := by omega
     have m5 : ¬ m = H3.next := by omega
     simp [u2, u4, u5, u10, u11, u12, u19, u20, u21, hii2, hi2, hpv, hat2, h7, hx3, m1, m3, m5]
     refine zaa (hd _ m ?h1) ?_
     case h1 => simp [m5, hm3]
     rintro _ H4 ⟨⟨z, hz, rfl⟩, rfl⟩
     cases hW : zaV (lates x) (.mk op nm num pos ks) with
     | true =>
       simp [u2, hc3, m3]
       refine ⟨⟨11, z, rfl, fun h => ?_, fun _ => ⟨rfl, hz⟩⟩, fun y w hy => ?_⟩
       · rw [hbadE (by rw [hek, hW]; rfl)] at h; cases h
       · have k1 := zac hw hy
         rw [if_neg (by omega), if_neg (by omega)]
         exact hkp2 _ _ hy
     | false =>
       rcases za8 (nm := qn) (S := lates x) with ⟨q1, q2⟩ | ⟨q1, jj, q2, q3⟩
       · simp [u2, u4, u5, u10, u11, u12, u19, u20, u21, hx3, hm3, m1, m3, m5, q2]
         have htk : (x.eqs.take (i2 + 1)).all (eqI x) = true := by rw [htk, hA2, hek, hW, q1]; rfl
         refine ⟨j2 - 1, by omega, i2 + 1, by omega, wr2, by simpa using htk, hc3, rfl, fun y w hy => ?_⟩
         have k1 := zac hw hy
         rw [if_neg (by omega)]
         exact hkp2 _ _ hy
       · simp [u2, u4, u5, u10, u11, u12, u19, u20, u21, hx3, hm3, m1, m3, m5, q2]
         refine zaa (hto _) ?_
         rintro _ H5 ⟨rfl, rfl⟩
         cases hT : told x qn with
         | true =>
           simp [u2, u4, u5, hc3, m3]
           refine ⟨⟨11, qp, rfl, fun h => ?_, fun _ => ⟨rfl, by omega⟩⟩, fun y w hy => ?_⟩
           · rw [hbadE (by rw [hek, hW, q1, hT]; rfl)] at h; cases h
           · have k1 := zac hw hy
             rw [if_neg (by omega), if_neg (by omega)]
             exact hkp2 _ _ hy
         | false =>
           have htk : (x.eqs.take (i2 + 1)).all (eqI x) = true := by rw [htk, hA2, hek, hW, q1, hT]; rfl
           simp [u2, u4, u5, u10, u11, u12, u19, u20, u21, hx3, hm3, m1, m3, m5]
           refine ⟨j2 - 1, by omega, i2 + 1, by omega, wr2, by simpa using htk, hc3, rfl, fun y w hy => ?_⟩
           have k1 := zac hw hy
           rw [if_neg (by omega)]
           exact hkp2 _ _ hy
   · obtain rfl : i2 = x.eqs.length := by omega
     rw [List.take_length] at hA2
     have htk : (l.take (i + 1)).all iniN = true := by
      rw [List.take_add_one, hx, List.all_append, hA]
      simpa [iniN_all] using hA2
     simp [u2, u4, u5, u10, u11, u12, u19, u20, u21]
     exact ⟨j - 1, by omega, i + 1, by omega, wr, by simpa using htk, hc3, hkp2⟩
 · obtain rfl : i = l.length := by omega
   rw [List.take_length] at hA
   simp [t2, t10, t11, t12, hc]
   refine ⟨⟨0, 0, rfl, fun _ => ⟨rfl, rfl⟩, fun h => ?_⟩, fun y w hy => ?_⟩
   · rw [hA] at h
     cases h
   · have l1 := zac hw hy
     rw [if_neg (by omega)]
     exact hkp y w hy
end Go.Proofs.YtnejkhhnpbcmaaaGreatDoor
namespace Go.Syn
open Go.Lex
theorem zcN {l : List Ex} {i : Nat} {e : Ex} (h : l[i]? = some e) (s : List Bs) : zaL s (l.drop i) = zaL (leanE s e) (l.drop (i + 1)) := by
 have hlt := (List.getElem?_eq_some_iff.1 h).1
 rw [List.getElem?_eq_getElem hlt] at h
 simp only [Option.some.injEq] at h
 rw [List.drop_eq_getElem_cons hlt, h, zaL]
theorem leanF_take (s : List Bs) (l : List Ex) : leanF s l = zaL s (l.take 1) := by
 cases l with
 | nil => rw [leanF, List.take_nil, zaL]
 | cons e l => rw [leanF, List.take_succ_cons, List.take_zero, zaL, zaL]
def lean0 (s : List Bs) (op nm : Bs) : List Bs := if op = sVar \/ op = sWhen \/ op = sMerge then addS s nm else s
def leanK (op : Bs) (ks : List Ex) : List Ex := if op = sPre then [] else if op = sFby then ks.take 1 else ks
theorem leanE_mk (s : List Bs) (op nm : Bs) (n pos : Nat) (ks : List Ex) : leanE s (.mk op nm n pos ks) = zaL (lean0 s op nm) (leanK op ks) := by
 rw [leanE]
 unfold lean0 leanK
 by_cases h1 : op = sVar \/ op = sWhen \/ op = sMerge
 · rw [if_pos h1, if_pos h1]
   have a1 : op ≠ sPre := by rcases h1 with rfl | rfl | rfl <;> decide
   have a2 : op ≠ sFby := by rcases h1 with rfl | rfl | rfl <;> decide
   rw [if_neg a1, if_neg a2]
 · rw [if_neg h1, if_neg h1]
   by_cases h2 : op = sPre
   · rw [if_pos h2, if_pos h2, zaL]
   · rw [if_neg h2, if_neg h2]
     by_cases h3 : op = sFby
     · rw [if_pos h3, if_pos h3, leanF_take]
     · rw [if_neg h3, if_neg h3]
/-! ### rounds -/
def leftS (seen own : List Bs) : Nat := (own.filter fun x => !seen.contains x).length
theorem leftS_all (own : List Bs) : leftS [] own <= own.length := List.length_filter_le _ _
theorem zbI (s : List Bs) (a x : Bs) : (s ++ [a]).contains x = (s.contains x || x == a) := by
 rw [Bool.eq_iff_iff]
 simp
theorem leftS_le (seen : List Bs) (s : Bs) : ∀ l, leftS (seen ++ [s]) l <= leftS seen l
 | [] => Nat.le_refl _
 | a :: l => by
   have ih := leftS_le seen s l
   unfold leftS at ih ⊢
   rw [List.filter_cons, List.filter_cons, zbI]
   cases seen.contains a <;> cases (a == s) <;> simp only [Bool.not_true, Bool.not_false, Bool.or_true, Bool.or_false, Bool.false_or, Bool.true_or, Bool.false_eq_true, if_false, if_true, List.length_cons] <;> omega
theorem leftS_lt {seen : List Bs} {s : Bs} (h : seen.contains s = false) : ∀ l, s ∈ l -> leftS (seen ++ [s]) l + 1 <= leftS seen l
 | [], hm => by simp at hm
 | a :: l, hm => by
   have hle := leftS_le seen s l
   by_cases e : a = s
   · subst e
     unfold leftS at hle ⊢
     rw [List.filter_cons, List.filter_cons, zbI, h, show (a == a) = true from by simp]
     simp only [Bool.not_true, Bool.not_false, Bool.or_true, Bool.or_false, Bool.false_or, Bool.true_or, Bool.false_eq_true, if_false, if_true, List.length_cons]; omega
   · have ih := leftS_lt h l (by rcases List.mem_cons.1 hm with h | h; exact absurd h.symm e; exact h)
     have hb : (a == s) = false := by simpa using e
     unfold leftS at ih ⊢
     rw [List.filter_cons, List.filter_cons, zbI, hb]
     cases seen.contains a <;> simp only [Bool.not_true, Bool.not_false, Bool.or_true, Bool.or_false, Bool.false_or, Bool.true_or, Bool.false_eq_true, if_false, if_true, List.length_cons] <;> omega
def toDo (own seen w : List Bs) : Nat := w.length + own.length * leftS seen own
theorem toDo_pop (own seen : List Bs) {w : List Bs} (h : w ≠ []) : toDo own seen w.dropLast + 1 = toDo own seen w := by
 unfold toDo
 have : w.length ≠ 0 := fun e => h (List.length_eq_zero_iff.1 e)
 rw [List.length_dropLast]; omega
theorem toDo_push {own seen w g : List Bs} {s : Bs} (h : w ≠ []) (hs : s ∈ own) (hn : seen.contains s = false) (hg : g.length <= own.length) : toDo own (seen ++ [s]) (w.dropLast ++ g) + 1 <= toDo own seen w := by
 have h1 := toDo_pop own seen h
 have h2 := leftS_lt hn own hs
 have h3 : own.length * (leftS (seen ++ [s]) own + 1) <= own.length * leftS seen own := Nat.mul_le_mul_left _ h2
 unfold toDo at h1 ⊢
 rw [Nat.mul_add, Nat.mul_one] at h3
 rw [List.length_append]
 omega
theorem toDo_first (own w : List Bs) (h : w.length <= own.length) : toDo own [] w < (own.length + 2) * (own.length + 2) := by
 unfold toDo
 have h1 := Nat.mul_le_mul_left own.length (leftS_all own)
 have h2 : (own.length + 2) * (own.length + 2) = own.length * own.length + 4 * own.length + 4 := by
  rw [Nat.add_mul, Nat.mul_add, Nat.mul_add]; omega
 omega
theorem zbY (n : Nd) (nm : Bs) : (za7 n nm).length <= (n.own.map Va.name).length /\ ∀ y ∈ za7 n nm, y ∈ n.own.map Va.name := by
 unfold za7
 split
 · exact ⟨List.length_filter_le _ _, fun y h => (List.mem_filter.1 h).1⟩
 · exact ⟨Nat.zero_le _, fun y h => by simp at h⟩
/-! ### names in a row -/
end Go.Syn
namespace Go.Abs
open Go Go.Lex
def mapF (f : Bs -> AV) (S : List Bs) : List (AV × AV) := S.map fun nm => (.str nm, f nm)
theorem ziT {f : Bs -> AV} {nm : Bs} : ∀ {S : List Bs} (i : Nat), S.contains nm = false -> afind .string (.str nm) (mapF f S) i = some none
 | [], i, _ => rfl
 | a :: S, i, h => by
   simp only [List.contains_cons, Bool.or_eq_false_iff] at h
   have ha : (nm == a) = false := h.1
   show (match asame .string (.str nm) (.str a) with | some true => _ | some false => _ | none => _) = _
   simp only [asame, ha]
   exact ziT (i + 1) h.2
theorem zgV {f : Bs -> AV} {nm : Bs} : ∀ {S : List Bs} (i : Nat), S.contains nm = true -> ∃ j, afind .string (.str nm) (mapF f S) i = some (some (i + j, f nm)) /\ (mapF f S).set j (.str nm, f nm) = mapF f S
 | [], i, h => by simp at h
 | a :: S, i, h => by
   by_cases ha : nm = a
   · subst ha
     refine ⟨0, ?_, rfl⟩
     show (match asame .string (.str nm) (.str nm) with | some true => _ | some false => _ | none => _) = _
     simp [asame]
   · have hb : (nm == a) = false := by simpa using ha
     simp only [List.contains_cons, hb, Bool.false_or] at h
     obtain ⟨j, h1, h2⟩ := zgV (i + 1) h
     refine ⟨j + 1, ?_, ?_⟩
     · show (match asame .string (.str nm) (.str a) with | some true => _ | some false => _ | none => _) = _
       simp only [asame, hb]
       refine h1.trans ?_
       congr 3; omega
     · show (AV.str a, f a) :: (mapF f S).set j (.str nm, f nm) = _
       rw [h2]; rfl
theorem mapF_app (f : Bs -> AV) (S : List Bs) (nm : Bs) : mapF f S ++ [(.str nm, f nm)] = mapF f (S ++ [nm]) := by simp [mapF]
theorem zdV {f : Bs -> AV} {nm : Bs} {S : List Bs} : (S.contains nm = false /\ afind .string (.str nm) (mapF f S) 0 = some none) \/ (S.contains nm = true /\ ∃ j, afind .string (.str nm) (mapF f S) 0 = some (some (j, f nm)) /\ (mapF f S).set j (.str nm, f nm) = mapF f S) := by
 cases h : S.contains nm with
 | false => exact .inl ⟨rfl, ziT 0 h⟩
 | true =>
   obtain ⟨j, h1, h2⟩ := zgV 0 h
   rw [Nat.zero_add] at h1
   exact .inr ⟨rfl, j, h1, h2⟩
end Go.Abs
namespace Go.Proofs.YtnejkhhnpbcmaaaGreatDoor
open Go Go.Abs Go.Lex Go.Syn Go.Rp
variable {G : Nat -> Option AV}
theorem zfH {ks : List Ex} (h : ks ≠ []) : kidsV ks = .vsl (zae ks) ks.length := by unfold kidsV; rw [if_neg (by simpa using h)]
theorem exs_scal : ∀ (l : List Ex) (v : AV), v ∈ zae l -> v.scalar = true
 | [], v, h => by simp [zae] at h
 | ⟨op, nm, n, p, ks⟩ :: l, v, h => by
   rw [zae, List.mem_append, zab] at h
   rcases h with h | h
   · simp only [List.mem_cons, List.not_mem_nil, or_false] at h
     rcases h with rfl | rfl | rfl | rfl | rfl
     all_goals try rfl
     unfold kidsV
     split <;> rfl
   · exact exs_scal l v h
def KsL (N : Nat) (ks : List Ex) (K : AV) (h : AHeap) : Prop := (ks = [] /\ K = .nilsl) \/ ks ≠ [] /\ ∃ b op, K = .sl b 0 5 ks.length ks.length op /\ N <= b /\ h.get b = some (.cells (zae ks))
theorem KsL.sc {N : Nat} {ks : List Ex} {K : AV} {h : AHeap} (g : KsL N ks K h) : K.scalar = true := by rcases g with ⟨_, rfl⟩ | ⟨_, b, op, rfl, _⟩ <;> rfl
theorem KsL.cells {N : Nat} {ks : List Ex} {K : AV} {h : AHeap} (g : KsL N ks K h) : K.cells = [K] := by rcases g with ⟨_, rfl⟩ | ⟨_, b, op, rfl, _⟩ <;> rfl
theorem KsL.alen {N : Nat} {ks : List Ex} {K : AV} {h : AHeap} (g : KsL N ks K h) : Abs.alen Tryz.prog 59 K = some (.int .i64 ks.length) := by
 rcases g with ⟨rfl, rfl⟩ | ⟨_, b, op, rfl, _⟩ <;> simp [Abs.alen]
theorem zjD {ks : List Ex} (hl : ks.length <= 1000000) (H : AHeap) :
  Does Tryz.prog G 46 [kidsV ks] H fun r h => KsL H.next ks r h /\ ∀ j x, H.get j = some x -> h.get j = some x := by
 refine Does.wf Tryz.call46 fun hw _ => ?_
 refine zaf Tryz.call46 Tryz.func46 rfl (by simp [Tryz.f46]) ?_
 by_cases h0 : ks = []
 · subst h0
   simp [kidsV]
   exact .inl ⟨rfl, rfl⟩
 have hlen := zap ks
 have hpos : 0 < ks.length := by cases ks <;> simp_all
 have c1 : ¬ ks.length = 0 := by omega
 have c2 : ks.length * 72 <= 140737488355328 := by omega
 have c3 : ks.length <= 4611686018427387904 := by omega
 have k1 : List.take (ks.length * 5) (zae ks) = zae ks := List.take_of_length_le (by omega)
 rw [zfH h0]
 simp [c1, c2, c3, k1, hlen]
 rw [if_pos (exs_scal ks)]
 simp
 refine ⟨.inr ⟨h0, _, _, rfl, by omega, by simp⟩, fun j x hj => ?_⟩
 have := zac hw hj
 simp [show j ≠ H.next by omega, show j ≠ H.next + 1 by omega, hj]
def CopyD (G : Nat -> Option AV) (e : Ex) : Prop := ∀ H, Does Tryz.prog G 22 [.agg (zas e)] H fun r h => r = .agg (zas e) /\ h = H
theorem exs_set {l : List Ex} {i : Nat} {x : Ex} (h : l[i]? = some x) : splice (zae l) (i * 5) (zas x) = zae l := by
 have h1 := zb0 h
 have h2 := zap l
 have hi := (List.getElem?_eq_some_iff.1 h).1
 have h3 : (zas x).length = 5 := by cases x; rfl
 unfold splice
 rw [h3]
 calc List.take (i * 5) (zae l) ++ (zas x ++ List.drop (i * 5 + 5) (zae l)) = List.take (i * 5) (zae l) ++ (((zae l).drop (i * 5)).take 5 ++ ((zae l).drop (i * 5)).drop 5) := by rw [h1, List.drop_drop]
  _ = zae l := by rw [List.take_append_drop, List.take_append_drop]
theorem copy_live {op nm : Lex.Bs} {num pos : Nat} {ks : List Ex} (hK : ∀ k ∈ ks, CopyD G k) (hl : ks.length <= 1000000) (H : AHeap) :
  Does Tryz.prog G 22 [.agg (zas (.mk op nm num pos ks))] H fun r h => ∃ K, r = .agg [.str op, .str nm, .int .i64 num, .int .i64 pos, K] /\ KsL H.next ks K h /\ ∀ j x, H.get j = some x -> h.get j = some x := by
 refine Does.wf Tryz.call22 fun hw _ => ?_
 refine zaf Tryz.call22 Tryz.func22 rfl (by simp [Tryz.f22]) ?_
 rw [zab]
 have f2 : ¬ H.next = H.next + 1 := by omega
 simp
 refine zav (zjD hl _) ?_
 rintro K H1 ⟨hKs, hkp⟩ hw1 _
 have hal := hKs.alen
 have hsc := hKs.sc
 have hc := hKs.cells
 have hn1 : H.next + 2 <= H1.next := by
  have := zac hw1 (hkp (H.next + 1) _ (by simp; rfl))
  omega
 have hb1 := hkp H.next _ (by simp; rfl)
 have hb2 := hkp (H.next + 1) _ (by simp; rfl)
 simp [hb1, hsc, hc, hal, -alen]
 refine zai (fun j T' H' => ∃ i : Nat, i + j = ks.length /\ T' 1 = .ptr H.next 0 /\ T' 2 = .ptr (H.next + 1) 0 /\ T' 10 = .int .i64 ks.length /\ T' 11 = .int .i64 i /\ H'.get H.next = some (.cells [.str op, .str nm, .int .i64 num, .int .i64 pos, K]) /\ H'.get (H.next + 1) = some (.cells [.str [], .str [], .int .i64 0, .int .i64 0, .nilsl]) /\ KsL (H.next + 2) ks K H' /\ ∀ j x, H.get j = some x -> H'.get j = some x) ks.length ?_ ?_
 · refine ⟨0, by simp, by simp, by simp, by simp, by simp, by simp, by simp [hb2], ?_, fun j x hj => ?_⟩
   · rcases hKs with h | ⟨h0, b, op', h1, h2, h3⟩
     · exact .inl h
     · simp only [AHeap.next_push] at h2
       exact .inr ⟨h0, b, op', h1, by omega, by simp [show b ≠ H.next by omega, h3]⟩
   · have := zac hw hj
     simp [show j ≠ H.next by omega]
     exact hkp j x (by simp [show j ≠ H.next by omega, show j ≠ H.next + 1 by omega, hj])
 clear hKs hkp hw1
 rintro j T H2 ⟨i, hij, t1, t2, t10, t11, g1, g2, hKs, hkp⟩ hw2 _
 by_cases hi : i < ks.length
 · have hii : (i : Int) < ks.length := by omega
   obtain ⟨x, hx⟩ : ∃ x, ks[i]? = some x := ⟨_, List.getElem?_eq_getElem hi⟩
   rcases hKs with ⟨h0, _⟩ | ⟨h0, b, op', rfl, hbn, hb⟩
   · rw [h0] at hi; exact absurd hi (by simp)
   have hat := zb0 hx
   have hset := exs_set hx
   have hlen5 := zap ks
   have h5 : 5 <= (zae ks).length - i * 5 := by omega
   have h5' : i * 5 <= (zae ks).length := by omega
   have hxm := List.mem_of_getElem? hx
   have hd := hK x hxm
   have wr : IntKind.i64.wrap ((i : Int) + 1) = ((i + 1 : Nat) : Int) := by rw [IntWalk.i64_in _ (by omega)]; omega
   obtain ⟨xo, xn, xm, xp, xk⟩ := x
   unfold CopyD at hd
   simp only [zab] at hat hd hset
   simp [t1, t2, t10, t11, hii, hi, g1]
   refine zak [(1, 0), (1, 9), (4, 0), (7, 0)] mixedOrders (by kernel_rfl) ?_
   intro es hes
   simp [t1, t2, t10, t11, hii, hi, g1, hb, hat, h5, h5']
   refine ⟨_, _, hd _, Nat.le_refl _, ?_⟩
   simp [rds, heapF, t1, t2, t10, t11, hii, hi, g1, hb, hat, h5, h5', hset]
   have hset2 := hset
   simp only [splice, List.append_assoc, List.cons_append, List.nil_append, List.length_cons, List.length_nil, Nat.zero_add, Nat.reduceAdd] at hset2
   rw [if_pos (by omega)]
   simp [rds, heapF, t1, t2, t10, t11, hii, hi, g1, hb, hat, h5, h5']
   have v1 : ¬ H.next = b := by omega
   have v2 : ¬ H.next + 1 = b := by omega
   refine ⟨⟨by subst hes; kernel_rfl, by subst hes; kernel_rfl⟩, j - 1, by omega, i + 1, by omega, wr, fun e => absurd e v1, by rw [if_neg v2]; exact g2, .inr ⟨h0, b, op', rfl, hbn, ?_⟩, fun y w hy => ?_⟩
   · rw [hset2]; simp
   · have := zac hw hy
     rw [if_neg (by omega)]; exact hkp y w hy
 · obtain rfl : i = ks.length := by omega
   simp [t1, t2, t10, t11, g1, g2, hsc, hc]
   refine ⟨?_, fun j x hj => ?_⟩
   · rcases hKs with h | ⟨h0, b, op', h1, h2, h3⟩
     · exact .inl h
     · exact .inr ⟨h0, b, op', h1, by omega, by simp [show b ≠ H.next + 1 by omega, h3]⟩
   · have := zac hw hj
     simp [show j ≠ H.next + 1 by omega, hkp j x hj]
theorem copy_of {op nm : Lex.Bs} {num pos : Nat} {ks : List Ex} (hK : ∀ k ∈ ks, CopyD G k) (hl : ks.length <= 1000000) : CopyD G (.mk op nm num pos ks) := fun H => by
 refine Does.deep (copy_live hK hl H) ?_
 rintro hw ha r H1 ⟨K, rfl, h1, h2⟩
 have hres : ResV H1.get H.next K (kidsV ks) := by
  rcases h1 with ⟨rfl, rfl⟩ | ⟨hne, b, op, rfl, hb, hg⟩
  · exact .old rfl
  · rw [zfH hne]
    refine .sl hb hg ?_
    rw [List.drop_zero, List.take_of_length_le (by rw [zap]; omega)]
    exact ResL.old (zb7 _ _)
 rw [zab]
 exact ⟨_, H, .agg (.cons (.old rfl) (.cons (.old rfl) (.cons (.old rfl) (.cons (.old rfl) (.cons hres .nil))))), rfl, fun i x hi => ⟨h2 i x hi, hw i x hi⟩, rfl, rfl⟩
theorem copy_does : ∀ e : Ex, e.wt <= 1000000 -> CopyD G e := by
 refine zer ?_
 intro op nm num pos ks ih hwt
 have h1 := zcw ks
 rw [Ex.wt] at hwt
 exact copy_of (fun k hk => ih k hk (by have := zcn hk; omega)) (by omega)
theorem ixQ_does {l : List Eqn} {g : FuncId} {cap : List AV} {H : AHeap} {p : Eqn -> Bool} (hlen : l.length <= 1000000) (hp : ∀ x ∈ l, Does Tryz.prog G g (.agg (zao x) :: cap) H fun r h => r = .bool (p x) /\ h = H) :
  Does Tryz.prog G 179 [eqsV l, .func (.func g) [] cap] H fun r h => r = .int .i64 (ixOf p l) /\ h = H := by
 refine zaf Tryz.call179 Tryz.func179 rfl (by simp [Tryz.f179]) ?_
 have hal := zcj l
 have hsc := zbl l
 simp [hal, hsc, -alen]
 refine za6 (fun m T' H' => H' = H /\ T' 0 = eqsV l /\ T' 1 = .func (.func g) [] cap /\ T' 7 = .int .i64 l.length /\ ∃ i : Nat, i + m = l.length /\ T' 8 = .int .i64 i /\ ∀ j x, j < i -> l[j]? = some x -> p x = false) l.length ⟨rfl, by simp, by simp, by simp, 0, by simp, by simp, fun j x h => absurd h (by omega)⟩ ?_
 rintro m T H1 ⟨rfl, t0, t1, t7, i, him, t8, hno⟩
 by_cases hi : i < l.length
 · have hii : (i : Int) < l.length := by omega
   obtain ⟨x, hx⟩ : ∃ x, l[i]? = some x := ⟨_, List.getElem?_eq_getElem hi⟩
   have hat := zcQ hx
   have hpv := zcs hi
   have hlen7 := zaq l
   have h7 : 7 <= (zag l).length - i * 7 := by omega
   have hd := hp x (List.mem_of_getElem? hx)
   have wr : IntKind.i64.wrap ((i : Int) + 1) = ((i + 1 : Nat) : Int) := by rw [IntWalk.i64_in _ (by omega)]; omega
   simp [t0, t1, t7, t8, hii, hi, hpv, hat, h7]
   refine zaa hd ?_
   rintro r H2 ⟨rfl, rfl⟩
   cases hpx : p x with
   | true =>
     simp [t0, t1, t7, t8]
     exact (zbH hx hpx hno).symm
   | false =>
     simp [t0, t1, t7, t8, hpv]
     refine ⟨m - 1, by omega, i + 1, by omega, wr, fun j y hj hy => ?_⟩
     by_cases e : j = i
     · subst e; rw [hx] at hy; cases hy; exact hpx
     · exact hno j y (by omega) hy
 · obtain rfl : i = l.length := by omega
   simp [t0, t1, t7, t8]
   exact (zcg fun x hx => by
    obtain ⟨j, hj⟩ := List.mem_iff_getElem?.1 hx
    exact hno j x (List.getElem?_eq_some_iff.1 hj).1 hj).symm
theorem eq1_does {nm : Lex.Bs} {k : Nat} {H : AHeap} (hk : H.get k = some (.cells [.str nm])) (x : Eqn) : Does Tryz.prog G 180 [.agg (zao x), .ptr k 0] H fun r h => r = .bool (x.name == nm) /\ h = H := by
 refine kept (fun _ => rfl) (Does.wf Tryz.call180 fun hw _ => ?_)
 have e1 : k ≠ H.next := by have := (hw _ _ hk).1; omega
 obtain ⟨qn, ⟨op, nm', num, pos, ks⟩, qp⟩ := x
 simp only [zao, zab, List.cons_append, List.nil_append]
 refine zaf Tryz.call180 Tryz.func180 rfl (by simp [Tryz.f180]) ?_
 simp [hk, e1]
 exact fun j x hj => off1 hw hj
theorem zj9 {q : Eqn} (h : q.e.wt <= 1000000) (H : AHeap) : Does Tryz.prog G 181 [.agg (zao q)] H fun r h => r = .agg (zao q) /\ h = H := by
 refine kept (fun m => by
  obtain ⟨qn, ⟨op, nm', num, pos, ks⟩, qp⟩ := q
  simp [zao, zab, AV.idLt, AV.allLt, za1]) (Does.wf Tryz.call181 fun hw _ => ?_)
 have hd := copy_does (G := G) q.e h
 obtain ⟨qn, ⟨op, nm', num, pos, ks⟩, qp⟩ := q
 unfold CopyD at hd
 simp only [zao, zab, List.cons_append, List.nil_append] at hd ⊢
 refine zaf Tryz.call181 Tryz.func181 rfl (by simp [Tryz.f181]) ?_
 have f1 : ¬ H.next = H.next + 1 := by omega
 simp [f1]
 refine zaa (hd _) ?_
 rintro _ H2 ⟨rfl, rfl⟩
 simp [f1]
 intro j x hj
 have := zac hw hj
 simp [show j ≠ H.next by omega, show j ≠ H.next + 1 by omega, hj]
def eq0 : Eqn := ⟨[], .mk [] [] 0 0 [], 0⟩
theorem lean_eq0 (s : List Lex.Bs) : leanE s eq0.e = s := by
 unfold eq0
 rw [leanE_mk]
 rfl
theorem eq_does {n : Nd} (hn : NdOk2 n) (nm : Lex.Bs) (H : AHeap) : Does Tryz.prog G 150 [.agg (zah n), .str nm] H fun r h => r = .tuple [.agg (zao ((eqOf n nm).getD eq0)), .bool (eqOf n nm).isSome] /\ h = H := by
 refine kept (fun m => by
  obtain ⟨qn, ⟨op, nm', num, pos, ks⟩, qp⟩ := (eqOf n nm).getD eq0
  simp [zao, zab, AV.idLt, AV.allLt, za1]) (Does.wf Tryz.call150 fun hw _ => ?_)
 refine zaf Tryz.call150 Tryz.func150 rfl (by simp [Tryz.f150]) ?_
 have f1 : ¬ H.next = H.next + 1 + 1 := by omega
 have f1' : ¬ H.next + 1 + 1 = H.next := by omega
 have hsc := zbl n.eqs
 simp [zah, f1, hsc]
 refine zaa (ixQ_does (p := fun q => q.name == nm) hn.eqs fun x _ => eq1_does (by simp) x) ?_
 rintro _ H2 ⟨rfl, rfl⟩
 have hf : eqOf n nm = n.eqs.find? fun q => q.name == nm := rfl
 have hold : ∀ j x, H.get j = some x -> j ≠ H.next /\ j ≠ H.next + 1 /\ j ≠ H.next + 1 + 1 := fun j x hj => by
  have := zac hw hj
  omega
 rcases zb5 (fun q : Eqn => q.name == nm) n.eqs with ⟨h1, h2⟩ | ⟨i, x, h1, h2, h3, h4⟩
 · simp [h1, hf, h2, eq0, zao, zab, kidsV]
   refine fun j x hj => ?_
   obtain ⟨e0, e1, e2⟩ := hold j x hj
   simp [e0, e1, e2, hj]
 · have hi := (List.getElem?_eq_some_iff.1 h2).1
   have hat := zcQ h2
   have hpv := zcs hi
   have hlen7 := zaq n.eqs
   have h7 : 7 <= (zag n.eqs).length - i * 7 := by omega
   have c1 : ¬ (i : Int) < 0 := by omega
   have c2 : (i : Int) < n.eqs.length := by omega
   have hd := fun H => zj9 (G := G) (hn.wt x (List.mem_of_getElem? h2)) H
   have hg : (eqOf n nm).getD eq0 = x := by rw [hf, h3]; rfl
   have hg2 : (eqOf n nm).isSome = true := by rw [hf, h3]; rfl
   rw [hg, hg2]
   obtain ⟨qn, ⟨op, nm', num, pos, ks⟩, qp⟩ := x
   simp only [zao, zab, List.cons_append, List.nil_append] at hd hat ⊢
   simp [h1, c1, c2, hi, hpv, hat, h7, f1, f1']
   refine zaa (hd _) ?_
   rintro _ H3 ⟨rfl, rfl⟩
   simp
   refine ⟨by simp [zao, zab], fun j x hj => ?_⟩
   obtain ⟨e0, e1, e2⟩ := hold j x hj
   simp [e0, e1, e2, hj]
def FnR (H : AHeap) (m : Nat) (s : List Lex.Bs) (h : AHeap) : Prop := h.get m = some (.map (mapC s)) /\ ∀ j x, j ≠ m -> H.get j = some x -> h.get j = some x
def FnD (G : Nat -> Option AV) (e : Ex) : Prop := ∀ (H : AHeap) (k m : Nat) (s : List Lex.Bs), H.get k = some (.cells [.map m]) -> H.get m = some (.map (mapC s)) ->
    Does Tryz.prog G 151 [.ptr k 0, .agg (zas e)] H fun r h => FnR H m (leanE s e) h
def EsA (v : AV) (l : List Ex) : Prop := (v = .nilsl /\ l = []) \/ ∃ ts, v = .vsl (zae l ++ ts) l.length
theorem EsA.kidsV (l : List Ex) : EsA (kidsV l) l := by
 unfold Proofs.YtnejkhhnpbcmaaaGreatDoor.kidsV
 split
 · rename_i h
   exact .inl ⟨rfl, by simpa using h⟩
 · exact .inr ⟨[], by simp⟩
theorem EsA.alen {v : AV} {l : List Ex} (h : EsA v l) : Abs.alen Tryz.prog 59 v = some (.int .i64 l.length) := by
 rcases h with ⟨rfl, rfl⟩ | ⟨ts, rfl⟩ <;> simp [Abs.alen]
theorem EsA.sc {v : AV} {l : List Ex} (h : EsA v l) : v.scalar = true := by rcases h with ⟨rfl, rfl⟩ | ⟨ts, rfl⟩ <;> rfl
theorem EsA.cells {v : AV} {l : List Ex} (h : EsA v l) : v.cells = [v] := by rcases h with ⟨rfl, rfl⟩ | ⟨ts, rfl⟩ <;> rfl
theorem EsA.at {v : AV} {l : List Ex} (h : EsA v l) {i : Nat} {x : Ex} (hx : l[i]? = some x) : ∃ cs, v = .vsl cs l.length /\ (cs.drop (i * 5)).take 5 = zas x /\ 5 <= cs.length - i * 5 := by
 rcases h with ⟨rfl, rfl⟩ | ⟨ts, rfl⟩
 · simp at hx
 · have hlt := (List.getElem?_eq_some_iff.1 hx).1
   have hl := zap l
   refine ⟨_, rfl, ?_, by rw [List.length_append]; omega⟩
   rw [List.drop_append_of_le_length (by omega), List.take_append_of_le_length (by rw [List.length_drop]; omega)]
   exact zb0 hx
theorem zjz : ∀ e : Ex, e.wt <= 1000000 -> FnD G e := by
 refine zer ?_
 intro op nm num pos ks ih hwt H k m s hk hm
 have hkl : ks.length <= 1000000 := by
  have := zcw ks
  rw [Ex.wt] at hwt
  omega
 refine Does.wf Tryz.call151 fun hw _ => ?_
 have hkn := zac hw hk
 have hmn := zac hw hm
 have hkm : k ≠ m := fun e => by rw [e, hm] at hk; simp at hk
 have e1 : k ≠ H.next := by omega
 have e2 : m ≠ H.next := by omega
 refine zaf Tryz.call151 Tryz.func151 rfl (by simp [Tryz.f151]) ?_
 rw [zab]
 have hle := leanE_mk s op nm num pos ks
 obtain ⟨R, hR⟩ : ∃ R, R = leanE s (.mk op nm num pos ks) := ⟨_, rfl⟩
 rw [<- hR]
 rw [hle] at hR
 have hsub0 : ∀ x ∈ ks, x ∈ ks := fun x h => h
 by_cases c1 : op = sVar \/ op = sWhen \/ op = sMerge
 · obtain ⟨L, hL⟩ : ∃ L, L = ks := ⟨_, rfl⟩
   obtain ⟨V, hVe⟩ : ∃ V, V = kidsV ks := ⟨_, rfl⟩
   have hV : EsA V L := by rw [hL, hVe]; exact EsA.kidsV ks
   have hsub : ∀ x ∈ L, x ∈ ks := by rw [hL]; exact hsub0
   have hal := hV.alen
   have hLl : L.length <= 1000000 := by rw [hL]; exact hkl
   have hK0 : leanK op ks = L := by
    rw [hL]
    rcases c1 with rfl | rfl | rfl <;> rfl
   have hA0 : lean0 s op nm = addS s nm := by unfold lean0; rw [if_pos c1]
   rw [hK0, hA0] at hR
   clear hle hK0 hA0
   rw [<- hVe]
   rcases za8 (nm := nm) (S := s) with ⟨q1, q2⟩ | ⟨q1, jj, q2, q3⟩
   · have hR0 : R = zaL (s ++ [nm]) L := by rw [hR, addS, q1]; rfl
     rcases c1 with rfl | rfl | rfl
     all_goals
      simp [sVar, sWhen, sMerge]
      refine zak [(3, 0), (5, 0)] mixedOrders (by kernel_rfl) ?_
      intro es hes
      simp [hk, hm, e1, e2, q2, rds, heapF, hal, hV.sc, hV.cells, -alen, -afind]
      refine ⟨⟨by subst hes; kernel_rfl, by subst hes; kernel_rfl⟩, ?_⟩
      clear hes
      refine zai (fun j T' H' => ∃ (i : Nat) (s2 : List Lex.Bs), i + j = L.length /\ T' 0 = .ptr k 0 /\ T' 30 = V /\ T' 31 = .int .i64 L.length /\ T' 32 = .int .i64 i /\ R = zaL s2 (L.drop i) /\ H'.get k = some (.cells [.map m]) /\ H'.get m = some (.map (mapC s2)) /\ ∀ j x, j ≠ m -> H.get j = some x -> H'.get j = some x) L.length ?_ ?_
      · refine ⟨0, (s ++ [nm]), by simp, by simp, by simp, by simp, by simp, by rw [hR0, List.drop_zero], by simp [hk, hm, e1, e2, hkm], by simp [hk, hm, e1, e2, zbx], fun y w hy hw' => ?_⟩
        have := zac hw hw'
        simp [show y ≠ H.next by omega, hy, hw']
      rintro j T H1 ⟨i, s2, hij, t0, t30, t31, t32, hS, hk1, hm1, hkp⟩ hw1 _
      by_cases hi : i < L.length
      · have hii : (i : Int) < L.length := by omega
        obtain ⟨x, hx⟩ : ∃ x, L[i]? = some x := ⟨_, List.getElem?_eq_getElem hi⟩
        obtain ⟨cs, hcs, hat, h5⟩ := hV.at hx
        have hxm := hsub x (List.mem_of_getElem? hx)
        have hd := ih x hxm (by have := zcn hxm; rw [Ex.wt] at hwt; omega)
        have wr : IntKind.i64.wrap ((i : Int) + 1) = ((i + 1 : Nat) : Int) := by rw [IntWalk.i64_in _ (by omega)]; omega
        have hnx := zcN hx s2
        have l1 := zac hw1 hk1
        have l2 := zac hw1 hm1
        unfold FnD at hd
        obtain ⟨xo, xn, xm, xp, xk⟩ := x
        simp only [zab] at hat hd
        simp [t0, t30, t31, t32, hii, hi, hcs, hat, h5]
        refine zav (hd _ k m s2 ?h1 ?h2) ?_
        case h1 => simp [show k ≠ H1.next by omega, hk1]
        case h2 => simp [show m ≠ H1.next by omega, hm1]
        rintro _ H2 ⟨g1, g2⟩ hw2 _
        simp [t0, t30, t31, t32]
        refine ⟨j - 1, by omega, i + 1, by omega, wr, leanE s2 (.mk xo xn xm xp xk), by rw [hS, hnx], g2 k _ hkm (by simp [show k ≠ H1.next by omega, hk1]), g1, fun y w hy hw' => ?_⟩
        have l3 := zac hw1 (hkp y w hy hw')
        exact g2 y w hy (by simp [show y ≠ H1.next by omega, hkp y w hy hw'])
      · obtain rfl : i = L.length := by omega
        simp [t0, t30, t31, t32]
        rw [List.drop_length, zaL] at hS
        exact ⟨by rw [hS]; exact hm1, fun y w hy hw' => hkp y w hy hw'⟩
   · have hR0 : R = zaL s L := by rw [hR, addS, q1]; rfl
     rcases c1 with rfl | rfl | rfl
     all_goals
      simp [sVar, sWhen, sMerge]
      refine zak [(3, 0), (5, 0)] mixedOrders (by kernel_rfl) ?_
      intro es hes
      simp [hk, hm, e1, e2, q2, rds, heapF, hal, hV.sc, hV.cells, -alen, -afind]
      refine ⟨⟨by subst hes; kernel_rfl, by subst hes; kernel_rfl⟩, ?_⟩
      clear hes
      refine zai (fun j T' H' => ∃ (i : Nat) (s2 : List Lex.Bs), i + j = L.length /\ T' 0 = .ptr k 0 /\ T' 30 = V /\ T' 31 = .int .i64 L.length /\ T' 32 = .int .i64 i /\ R = zaL s2 (L.drop i) /\ H'.get k = some (.cells [.map m]) /\ H'.get m = some (.map (mapC s2)) /\ ∀ j x, j ≠ m -> H.get j = some x -> H'.get j = some x) L.length ?_ ?_
      · refine ⟨0, s, by simp, by simp, by simp, by simp, by simp, by rw [hR0, List.drop_zero], by simp [hk, hm, e1, e2, hkm], by simp [hk, hm, e1, e2, zbx, q3], fun y w hy hw' => ?_⟩
        have := zac hw hw'
        simp [show y ≠ H.next by omega, hy, hw']
      rintro j T H1 ⟨i, s2, hij, t0, t30, t31, t32, hS, hk1, hm1, hkp⟩ hw1 _
      by_cases hi : i < L.length
      · have hii : (i : Int) < L.length := by omega
        obtain ⟨x, hx⟩ : ∃ x, L[i]? = some x := ⟨_, List.getElem?_eq_getElem hi⟩
        obtain ⟨cs, hcs, hat, h5⟩ := hV.at hx
        have hxm := hsub x (List.mem_of_getElem? hx)
        have hd := ih x hxm (by have := zcn hxm; rw [Ex.wt] at hwt; omega)
        have wr : IntKind.i64.wrap ((i : Int) + 1) = ((i + 1 : Nat) : Int) := by rw [IntWalk.i64_in _ (by omega)]; omega
        have hnx := zcN hx s2
        have l1 := zac hw1 hk1
        have l2 := zac hw1 hm1
        unfold FnD at hd
        obtain ⟨xo, xn, xm, xp, xk⟩ := x
        simp only [zab] at hat hd
        simp [t0, t30, t31, t32, hii, hi, hcs, hat, h5]
        refine zav (hd _ k m s2 ?h1 ?h2) ?_
        case h1 => simp [show k ≠ H1.next by omega, hk1]
        case h2 => simp [show m ≠ H1.next by omega, hm1]
        rintro _ H2 ⟨g1, g2⟩ hw2 _
        simp [t0, t30, t31, t32]
        refine ⟨j - 1, by omega, i + 1, by omega, wr, leanE s2 (.mk xo xn xm xp xk), by rw [hS, hnx], g2 k _ hkm (by simp [show k ≠ H1.next by omega, hk1]), g1, fun y w hy hw' => ?_⟩
        have l3 := zac hw1 (hkp y w hy hw')
        exact g2 y w hy (by simp [show y ≠ H1.next by omega, hkp y w hy hw'])
      · obtain rfl : i = L.length := by omega
        simp [t0, t30, t31, t32]
        rw [List.drop_length, zaL] at hS
        exact ⟨by rw [hS]; exact hm1, fun y w hy hw' => hkp y w hy hw'⟩
 simp only [not_or] at c1
 obtain ⟨n1, n2, n3⟩ := c1
 simp only [sVar, sWhen, sMerge] at n1 n2 n3
 have b1 := beq_false_of_ne n1
 have b2 := beq_false_of_ne n2
 have b3 := beq_false_of_ne n3
 by_cases c2 : op = sPre
 · subst c2
   have h0 : R = s := by rw [hR]; rfl
   rw [h0]
   simp [sPre]
   refine zai (fun j T' H' => T' 31 = .int .i64 0 /\ T' 32 = .int .i64 0 /\ H'.get m = some (.map (mapC s)) /\ ∀ j x, j ≠ m -> H.get j = some x -> H'.get j = some x) 0 ⟨by simp, by simp, by simp [hm, e2], fun y w hy hw' => ?_⟩ ?_
   · have := zac hw hw'
     simp [show y ≠ H.next by omega, hy, hw']
   rintro j T H1 ⟨t31, t32, g1, g2⟩ hw1 _
   simp [t31, t32]
   exact ⟨g1, g2⟩
 simp only [sPre] at c2
 have b4 := beq_false_of_ne c2
 by_cases c3 : op = sFby
 · subst c3
   have hal0 := zbo ks
   obtain ⟨L, hL⟩ : ∃ L, L = ks.take 1 := ⟨_, rfl⟩
   have hsub : ∀ x ∈ L, x ∈ ks := by rw [hL]; exact fun x h => List.mem_of_mem_take h
   cases ks with
   | nil =>
     have hL0 : L = [] := by rw [hL]; rfl
     obtain ⟨V, hVe⟩ : ∃ V, V = AV.nilsl := ⟨_, rfl⟩
     have hV : EsA V L := .inl ⟨hVe, hL0⟩
     have hal := hV.alen
     rw [hL0] at hal
     have hal1 : Abs.alen Tryz.prog 59 .nilsl = some (.int .i64 0) := rfl
     have h0 : R = s := by rw [hR]; rfl
     rw [h0]
     simp [sFby, kidsV, hal1, -alen]
     refine zai (fun j T' H' => T' 31 = .int .i64 0 /\ T' 32 = .int .i64 0 /\ H'.get m = some (.map (mapC s)) /\ ∀ j x, j ≠ m -> H.get j = some x -> H'.get j = some x) 0 ⟨by simp, by simp, by simp [hm, e2], fun y w hy hw' => ?_⟩ ?_
     · have := zac hw hw'
       simp [show y ≠ H.next by omega, hy, hw']
     rintro j T H1 ⟨t31, t32, g1, g2⟩ hw1 _
     simp [t31, t32]
     exact ⟨g1, g2⟩
   | cons e r =>
     obtain ⟨V, hVe⟩ : ∃ V, V = AV.vsl (zae (e :: r)) 1 := ⟨_, rfl⟩
     have hV : EsA V L := .inr ⟨zae r, by rw [hVe, hL]; simp [zae]⟩
     have hal := hV.alen
     rw [hVe] at hal
     have hal1 : Abs.alen Tryz.prog 59 (.vsl (zae (e :: r)) (r.length + 1)) = some (.int .i64 (r.length + 1 : Nat)) := rfl
     have hmin : (if (1 : Int) < (r.length : Int) + 1 then (1 : Int) else (r.length : Int) + 1) = 1 := by split <;> omega
     have c4 : (1 : Int) <= (r.length : Int) + 1 := by omega
     have hLl : L.length <= 1000000 := by simp [hL]
     have hR0 : R = zaL s L := by rw [hR, hL]; rfl
     have hL1 : L.length = 1 := by simp [hL]
     simp [sFby, zfH (List.cons_ne_nil e r), hal1, hmin, c4, hal, -alen]
     refine zai (fun j T' H' => ∃ (i : Nat) (s2 : List Lex.Bs), i + j = L.length /\ T' 0 = .ptr k 0 /\ T' 30 = V /\ T' 31 = .int .i64 L.length /\ T' 32 = .int .i64 i /\ R = zaL s2 (L.drop i) /\ H'.get k = some (.cells [.map m]) /\ H'.get m = some (.map (mapC s2)) /\ ∀ j x, j ≠ m -> H.get j = some x -> H'.get j = some x) L.length ?_ ?_
     · refine ⟨0, s, by simp, by simp, by simp [hVe], by simp, by simp, by rw [hR0, List.drop_zero], by simp [hk, hm, e1, e2, hkm], by simp [hk, hm, e1, e2, zbx], fun y w hy hw' => ?_⟩
       have := zac hw hw'
       simp [show y ≠ H.next by omega, hy, hw']
     rintro j T H1 ⟨i, s2, hij, t0, t30, t31, t32, hS, hk1, hm1, hkp⟩ hw1 _
     by_cases hi : i < L.length
     · have hii : (i : Int) < L.length := by omega
       obtain ⟨x, hx⟩ : ∃ x, L[i]? = some x := ⟨_, List.getElem?_eq_getElem hi⟩
       obtain ⟨cs, hcs, hat, h5⟩ := hV.at hx
       have hxm := hsub x (List.mem_of_getElem? hx)
       have hd := ih x hxm (by have := zcn hxm; rw [Ex.wt] at hwt; omega)
       have wr : IntKind.i64.wrap ((i : Int) + 1) = ((i + 1 : Nat) : Int) := by rw [IntWalk.i64_in _ (by omega)]; omega
       have hnx := zcN hx s2
       have l1 := zac hw1 hk1
       have l2 := zac hw1 hm1
       unfold FnD at hd
       obtain ⟨xo, xn, xm, xp, xk⟩ := x
       simp only [zab] at hat hd
       simp [t0, t30, t31, t32, hii, hi, hcs, hat, h5]
       refine zav (hd _ k m s2 ?h1 ?h2) ?_
       case h1 => simp [show k ≠ H1.next by omega, hk1]
       case h2 => simp [show m ≠ H1.next by omega, hm1]
       rintro _ H2 ⟨g1, g2⟩ hw2 _
       simp [t0, t30, t31, t32]
       refine ⟨j - 1, by omega, i + 1, by omega, wr, leanE s2 (.mk xo xn xm xp xk), by rw [hS, hnx], g2 k _ hkm (by simp [show k ≠ H1.next by omega, hk1]), g1, fun y w hy hw' => ?_⟩
       have l3 := zac hw1 (hkp y w hy hw')
       exact g2 y w hy (by simp [show y ≠ H1.next by omega, hkp y w hy hw'])
     · obtain rfl : i = L.length := by omega
       simp [t0, t30, t31, t32]
       rw [List.drop_length, zaL] at hS
       exact ⟨by rw [hS]; exact hm1, fun y w hy hw' => hkp y w hy hw'⟩
 simp only [sFby] at c3
 have b5 := beq_false_of_ne c3
 have hR0 : R = zaL s ks := by
  rw [hR]
  simp [lean0, leanK, sVar, sWhen, sMerge, sPre, sFby, n1, n2, n3, c2, c3]
 obtain ⟨L, hL⟩ : ∃ L, L = ks := ⟨_, rfl⟩
 obtain ⟨V, hVe⟩ : ∃ V, V = kidsV ks := ⟨_, rfl⟩
 have hV : EsA V L := by rw [hL, hVe]; exact EsA.kidsV ks
 have hsub : ∀ x ∈ L, x ∈ ks := by rw [hL]; exact hsub0
 have hal := hV.alen
 have hLl : L.length <= 1000000 := by rw [hL]; exact hkl
 rw [<- hL] at hR0
 rw [<- hVe]
 simp [b1, b2, b3, b4, b5, hal, hV.sc, hV.cells, -alen]
 refine zai (fun j T' H' => ∃ (i : Nat) (s2 : List Lex.Bs), i + j = L.length /\ T' 0 = .ptr k 0 /\ T' 30 = V /\ T' 31 = .int .i64 L.length /\ T' 32 = .int .i64 i /\ R = zaL s2 (L.drop i) /\ H'.get k = some (.cells [.map m]) /\ H'.get m = some (.map (mapC s2)) /\ ∀ j x, j ≠ m -> H.get j = some x -> H'.get j = some x) L.length ?_ ?_
 · refine ⟨0, s, by simp, by simp, by simp, by simp, by simp, by rw [hR0, List.drop_zero], by simp [hk, hm, e1, e2, hkm], by simp [hk, hm, e1, e2, zbx], fun y w hy hw' => ?_⟩
   have := zac hw hw'
   simp [show y ≠ H.next by omega, hy, hw']
 rintro j T H1 ⟨i, s2, hij, t0, t30, t31, t32, hS, hk1, hm1, hkp⟩ hw1 _
 by_cases hi : i < L.length
 · have hii : (i : Int) < L.length := by omega
   obtain ⟨x, hx⟩ : ∃ x, L[i]? = some x := ⟨_, List.getElem?_eq_getElem hi⟩
   obtain ⟨cs, hcs, hat, h5⟩ := hV.at hx
   have hxm := hsub x (List.mem_of_getElem? hx)
   have hd := ih x hxm (by have := zcn hxm; rw [Ex.wt] at hwt; omega)
   have wr : IntKind.i64.wrap ((i : Int) + 1) = ((i + 1 : Nat) : Int) := by rw [IntWalk.i64_in _ (by omega)]; omega
   have hnx := zcN hx s2
   have l1 := zac hw1 hk1
   have l2 := zac hw1 hm1
   unfold FnD at hd
   obtain ⟨xo, xn, xm, xp, xk⟩ := x
   simp only [zab] at hat hd
   simp [t0, t30, t31, t32, hii, hi, hcs, hat, h5]
   refine zav (hd _ k m s2 ?h1 ?h2) ?_
   case h1 => simp [show k ≠ H1.next by omega, hk1]
   case h2 => simp [show m ≠ H1.next by omega, hm1]
   rintro _ H2 ⟨g1, g2⟩ hw2 _
   simp [t0, t30, t31, t32]
   refine ⟨j - 1, by omega, i + 1, by omega, wr, leanE s2 (.mk xo xn xm xp xk), by rw [hS, hnx], g2 k _ hkm (by simp [show k ≠ H1.next by omega, hk1]), g1, fun y w hy hw' => ?_⟩
   have l3 := zac hw1 (hkp y w hy hw')
   exact g2 y w hy (by simp [show y ≠ H1.next by omega, hkp y w hy hw'])
 · obtain rfl : i = L.length := by omega
   simp [t0, t30, t31, t32]
   rw [List.drop_length, zaL] at hS
   exact ⟨by rw [hS]; exact hm1, fun y w hy hw' => hkp y w hy hw'⟩
def addC (s : List Lex.Bs) (c : Lex.Bs × Bool) : List Lex.Bs := addS s c.1
theorem zju (n : Nd) (nm : Lex.Bs) (s : List Lex.Bs) : zfC n nm s = (zaE n.decl n.locals.length nm).foldl addC s := rfl
theorem chain_none {V : List Va} {nm : Lex.Bs} (h : findV V nm = none) (k : Nat) : zaE V k nm = [] := by
 cases k with
 | zero => rfl
 | succ k => rw [zaE, h]
theorem chain_end {V : List Va} {nm : Lex.Bs} {v : Va} (h : findV V nm = some v) (hv : v.on = []) (k : Nat) : zaE V k nm = [] := by
 cases k with
 | zero => rfl
 | succ k => rw [zaE, h]; simp [hv]
theorem chain_on {V : List Va} {nm : Lex.Bs} {v : Va} (h : findV V nm = some v) (hv : v.on ≠ []) (k : Nat) : zaE V (k + 1) nm = (v.on, v.neg) :: zaE V k v.on := by
 rw [zaE, h]; simp [hv]
theorem fnon_does {n : Nd} (hn : nlen n <= 1000000) {H : AHeap} {k m : Nat} {s : List Lex.Bs} (hk : H.get k = some (.cells [.map m])) (hm : H.get m = some (.map (mapC s))) (nm : Lex.Bs) :
  Does Tryz.prog G 152 [.ptr k 0, .agg (zah n), .str nm] H fun r h => FnR H m (zfC n nm s) h := by
 refine Does.wf Tryz.call152 fun hw _ => ?_
 have hkn := zac hw hk
 have hmn := zac hw hm
 have hkm : k ≠ m := fun e => by rw [e, hm] at hk; simp at hk
 have e1 : k ≠ H.next := by omega
 have e2 : m ≠ H.next := by omega
 have hlo : n.locals.length <= 1000000 := by unfold nlen at hn; omega
 refine zaf Tryz.call152 Tryz.func152 rfl (by simp [Tryz.f152]) ?_
 have hal := zbT n.locals
 have hfd := fun nm H => zfL (G := G) (n := n) hn nm H
 obtain ⟨R, hR⟩ : ∃ R, R = zfC n nm s := ⟨_, rfl⟩
 rw [<- hR]
 rw [zju] at hR
 simp only [zah] at hfd
 simp [zah, hal, -alen]
 refine zai (fun j T' H' => ∃ (i : Nat) (nm2 : Lex.Bs) (s2 : List Lex.Bs), i + j = n.locals.length /\ T' 0 = .ptr k 0 /\ T' 2 = .str nm2 /\ T' 4 = .ptr H.next 0 /\ T' 10 = .int .i64 n.locals.length /\ T' 11 = .int .i64 i /\ R = (zaE n.decl j nm2).foldl addC s2 /\ H'.get k = some (.cells [.map m]) /\ H'.get m = some (.map (mapC s2)) /\ H'.get H.next = some (.cells (zah n)) /\ ∀ j x, j ≠ m -> H.get j = some x -> H'.get j = some x) n.locals.length ?_ ?_
 · refine ⟨0, nm, s, by simp, by simp, by simp, by simp, by simp, by simp, hR, by simp [e1, hk], by simp [e2, hm], by simp [zah], fun y w hy hw' => ?_⟩
   have := zac hw hw'
   simp [show y ≠ H.next by omega, hy, hw']
 rintro j T H1 ⟨i, nm2, s2, hij, t0, t2, t4, t10, t11, hS, hk1, hm1, hb1, hkp⟩ hw1 _
 have l1 := zac hw1 hk1
 have l2 := zac hw1 hm1
 have l3 := zac hw1 hb1
 by_cases hi : i < n.locals.length
 · have hii : (i : Int) < n.locals.length := by omega
   have wr : IntKind.i64.wrap ((i : Int) + 1) = ((i + 1 : Nat) : Int) := by rw [IntWalk.i64_in _ (by omega)]; omega
   obtain ⟨j', rfl⟩ : ∃ j', j = j' + 1 := ⟨j - 1, by omega⟩
   simp only [zah] at hb1
   simp [t0, t2, t4, t10, t11, hii, hi, hb1]
   have q1 : k ≠ H1.next := by omega
   have q2 : m ≠ H1.next := by omega
   have q3 : ¬ H.next = H1.next := by omega
   have q4 : ¬ H1.next = m := by omega
   have q5 : ¬ H.next = m := fun e => by rw [e] at hb1; rw [hb1] at hm1; simp at hm1
   have keep : ∀ y w, y ≠ m -> H.get y = some w -> y ≠ H1.next := fun y w hy hw' => by
    have := zac hw1 (hkp y w hy hw')
    omega
   refine zaa (hfd nm2 _) ?_
   rintro _ H2 ⟨rfl, rfl⟩
   cases hf : findV n.decl nm2 with
   | none =>
     rw [chain_none hf] at hS
     simp [t0, t2, t4, t10, t11, va0, zar]
     exact ⟨by rw [hS]; simp [q2, hm1], fun y w hy hw' => by simp [keep y w hy hw', hkp y w hy hw']⟩
   | some v =>
     by_cases hv : v.on = []
     · rw [chain_end hf hv] at hS
       simp [t0, t2, t4, t10, t11, zar, hv]
       exact ⟨by rw [hS]; simp [q2, hm1], fun y w hy hw' => by simp [keep y w hy hw', hkp y w hy hw']⟩
     · rw [chain_on hf hv, List.foldl_cons] at hS
       have hv2 : v.on.isEmpty = false := by simpa using hv
       have hv3 : (v.on == ([] : Lex.Bs)) = false := by simpa using hv
       simp [t0, t2, t4, t10, t11, zar, hv, hv2, hv3]
       rcases za8 (nm := v.on) (S := s2) with ⟨p1, p2⟩ | ⟨p1, jj, p2, p3⟩
       · have hA : addC s2 (v.on, v.neg) = s2 ++ [v.on] := by unfold addC addS; simp only [p1]; rfl
         refine zak [(3, 0), (5, 0)] mixedOrders (by kernel_rfl) ?_
         intro es hes
         simp [t0, t2, t4, t10, t11, hk1, hm1, q1, q2, p2, rds, heapF, -afind]
         refine ⟨⟨by subst hes; kernel_rfl, by subst hes; kernel_rfl⟩, ?_⟩
         clear hes
         simp [t0, t2, t4, t10, t11, q4]
         refine ⟨j', by omega, i + 1, by omega, wr, s2 ++ [v.on], by rw [hS, hA], by simp [hkm, hk1, q1], zbx _ _, by simp [q3, q5, hb1, zah], fun y w hy hw' => by simp [keep y w hy hw', hy, hkp y w hy hw']⟩
       · have hA : addC s2 (v.on, v.neg) = s2 := by unfold addC addS; simp only [p1]; rfl
         refine zak [(3, 0), (5, 0)] mixedOrders (by kernel_rfl) ?_
         intro es hes
         simp [t0, t2, t4, t10, t11, hk1, hm1, q1, q2, p2, rds, heapF, -afind]
         refine ⟨⟨by subst hes; kernel_rfl, by subst hes; kernel_rfl⟩, ?_⟩
         clear hes
         simp [t0, t2, t4, t10, t11, q4]
         refine ⟨j', by omega, i + 1, by omega, wr, s2, by rw [hS, hA], by simp [hkm, hk1, q1], p3, by simp [q3, q5, hb1, zah], fun y w hy hw' => by simp [keep y w hy hw', hy, hkp y w hy hw']⟩
 · obtain rfl : i = n.locals.length := by omega
   obtain rfl : j = 0 := by omega
   simp [t0, t2, t4, t10, t11]
   exact ⟨by rw [hS]; exact hm1, hkp⟩
def NmL (N : Nat) (l : List Lex.Bs) (v : AV) (h : AHeap) : Prop := (l = [] /\ v = .nilsl) \/ l ≠ [] /\ ∃ b op, v = .sl b 0 1 l.length l.length op /\ N <= b /\ h.get b = some (.cells (l.map .str))
theorem NmL.sc {N : Nat} {l : List Lex.Bs} {v : AV} {h : AHeap} (g : NmL N l v h) : v.scalar = true := by rcases g with ⟨_, rfl⟩ | ⟨_, b, op, rfl, _⟩ <;> rfl
theorem NmL.cells {N : Nat} {l : List Lex.Bs} {v : AV} {h : AHeap} (g : NmL N l v h) : v.cells = [v] := by rcases g with ⟨_, rfl⟩ | ⟨_, b, op, rfl, _⟩ <;> rfl
theorem zfZ {n : Nd} (hn : nlen n <= 1000000) (H : AHeap) :
  Does Tryz.prog G 117 [.agg (zah n)] H fun r h => NmL H.next (n.own.map Va.name) r h /\ ∀ j x, H.get j = some x -> h.get j = some x := by
 refine Does.wf Tryz.call117 fun hw _ => ?_
 refine zaf Tryz.call117 Tryz.func117 rfl (by simp [Tryz.f117]) ?_
 have hol : n.outs.length + n.locals.length <= 1000000 := by unfold nlen at hn; omega
 simp [zah]
 refine zaa (zdt (VsA.vsV n.outs) (VsA.vsV n.locals) (by simp) hol) ?_
 rintro _ H2 ⟨rfl, rfl⟩
 have hown : n.own = n.outs ++ n.locals := rfl
 obtain ⟨l, hl⟩ : ∃ l, l = n.own := ⟨_, rfl⟩
 rw [<- hown, <- hl]
 have hll : l.length <= 1000000 := by rw [hl, hown, List.length_append]; exact hol
 have hal := zbT l
 have hv := VsA.vsV l
 simp [hal, -alen]
 refine zai (fun j T' H' => ∃ (i : Nat) (K : AV), i + j = l.length /\ T' 3 = K /\ T' 11 = vsV l /\ T' 12 = .int .i64 l.length /\ T' 13 = .int .i64 i /\ NmL H.next ((l.map Va.name).take i) K H' /\ H.next <= H'.next /\ ∀ j x, H.get j = some x -> H'.get j = some x) l.length ?_ ?_
 · refine ⟨0, .nilsl, by simp, by simp, by simp, by simp, by simp, .inl ⟨by simp, rfl⟩, by simp; omega, fun y w hy => ?_⟩
   have := zac hw hy
   simp [show y ≠ H.next by omega, show y ≠ H.next + 1 by omega, hy]
 rintro j T H1 ⟨i, K, hij, t3, t11, t12, t13, hK, hnx, hkp⟩ hw1 _
 by_cases hi : i < l.length
 · have hii : (i : Int) < l.length := by omega
   obtain ⟨x, hx⟩ : ∃ x, l[i]? = some x := ⟨_, List.getElem?_eq_getElem hi⟩
   obtain ⟨cs, hcs, hat, h6⟩ := hv.at hx
   have wr : IntKind.i64.wrap ((i : Int) + 1) = ((i + 1 : Nat) : Int) := by rw [IntWalk.i64_in _ (by omega)]; omega
   have htk : (l.map Va.name).take (i + 1) = (l.map Va.name).take i ++ [x.name] := by
    rw [List.take_add_one, List.getElem?_map, hx]; rfl
   have hln : ((l.map Va.name).take i).length = i := by rw [List.length_take, List.length_map]; omega
   simp only [zar] at hat
   generalize (l.map Va.name).take i = ns at *
   rcases hK with ⟨rfl, rfl⟩ | ⟨hne, b, op, rfl, hbn, hb⟩
   · simp only [List.length_nil] at hln
     subst hln
     have h6' : 5 <= cs.length := by simpa using h6
     have hat' : List.take 5 cs = [.str x.name, .int .i64 x.kind, .str x.on, .bool x.neg, .int .i64 x.pos] := by simpa using hat
     simp [t3, t11, t12, t13, hii, hi, hcs, hat', h6']
     refine ⟨j - 1, by omega, 1, by omega, by decide, .inr ⟨by rw [htk]; simp, H1.next + 1 + 1, true, by rw [htk]; rfl, by omega, by rw [htk]; simp⟩, by omega, fun y w hy => ?_⟩
     have := zac hw1 (hkp y w hy)
     simp [show y ≠ H1.next by omega, show y ≠ H1.next + 1 by omega, show y ≠ H1.next + 1 + 1 by omega, hkp y w hy]
   · have hbl := zac hw1 hb
     have n1 : b ≠ H1.next := by omega
     have n2 : b ≠ H1.next + 1 := by omega
     have c1 : ns.length <= (ns.map AV.str).length := by simp
     have c0 : ¬ ns.length + 1 <= ns.length := by omega
     have c2 : (ns.length + 1) * 16 <= 140737488355328 := by omega
     have c3 : ns.length <= 4611686018427387903 := by omega
     have c4 : List.take ns.length (ns.map AV.str) = ns.map AV.str := List.take_of_length_le (by simp)
     cases op with
     | true =>
       simp [t3, t11, t12, t13, hii, hi, hcs, hat, h6, hb, n1, n2, c0, c1, c2, c3, c4]
       refine ⟨j - 1, by omega, i + 1, by omega, wr, .inr ⟨by rw [htk]; simp, H1.next + 1 + 1, true, by rw [htk]; simp, by omega, by rw [htk]; simp⟩, by omega, fun y w hy => ?_⟩
       have k1 := zac hw1 (hkp y w hy)
       have k2 := zac hw hy
       simp [show y ≠ H1.next by omega, show y ≠ H1.next + 1 by omega, show y ≠ H1.next + 1 + 1 by omega, show y ≠ b by omega, hkp y w hy]
     | false =>
       simp [t3, t11, t12, t13, hii, hi, hcs, hat, h6, hb, n1, n2, c0, c1, c2, c3, c4]
       refine ⟨j - 1, by omega, i + 1, by omega, wr, .inr ⟨by rw [htk]; simp, H1.next + 1 + 1, true, by rw [htk]; simp, by omega, by rw [htk]; simp⟩, by omega, fun y w hy => ?_⟩
       have k1 := zac hw1 (hkp y w hy)
       have k2 := zac hw hy
       simp [show y ≠ H1.next by omega, show y ≠ H1.next + 1 by omega, show y ≠ H1.next + 1 + 1 by omega, hkp y w hy]
 · obtain rfl : i = l.length := by omega
   rw [List.take_of_length_le (by simp)] at hK
   simp [t3, t11, t12, t13, hK.sc, hK.cells]
   exact ⟨hK, hkp⟩
theorem zgB {X : Type} (p : X -> Bool) : ∀ l : List X, (ixOf p l = -1 /\ l.filter (fun x => !p x) = l) \/ ∃ (i : Nat) (x : X), ixOf p l = i /\ l[i]? = some x /\ p x = true /\ (l.take i).filter (fun x => !p x) = l.take i
 | [] => .inl ⟨rfl, rfl⟩
 | a :: l => by
   cases ha : p a with
   | true => exact .inr ⟨0, a, by simp [ixOf, List.findIdx?_cons, ha], rfl, ha, rfl⟩
   | false =>
     rcases zgB p l with ⟨h1, h2⟩ | ⟨i, x, h1, h2, h3, h4⟩
     · refine .inl ⟨?_, by rw [List.filter_cons, ha]; simpa using h2⟩
       unfold ixOf at h1 ⊢
       rw [List.findIdx?_cons, ha]
       cases hf : l.findIdx? p with
       | none => rfl
       | some k => rw [hf] at h1; simp at h1
     · refine .inr ⟨i + 1, x, ?_, by simpa using h2, h3, by rw [List.take_succ_cons, List.filter_cons, ha]; simpa using h4⟩
       unfold ixOf at h1 ⊢
       rw [List.findIdx?_cons, ha]
       cases hf : l.findIdx? p with
       | none => rw [hf] at h1; simp at h1
       | some k => rw [hf] at h1; simp at h1 ⊢; omega
theorem zjt {H : AHeap} {c k m : Nat} {S : List Lex.Bs} (hc : H.get c = some (.cells [.ptr k 0])) (hk : H.get k = some (.cells [.map m])) (hm : H.get m = some (.map (mapC S))) (s : Lex.Bs) :
  Does Tryz.prog G 154 [.str s, .ptr c 0] H fun r h => r = .bool (!S.contains s) /\ h = H := by
 refine zaf Tryz.call154 Tryz.func154 rfl (by simp [Tryz.f154]) ?_
 rcases za8 (nm := s) (S := S) with ⟨q1, q2⟩ | ⟨q1, jj, q2, q3⟩
 · simp [hc, hk, hm, q2, q1]
   simpa using q1
 · simp [hc, hk, hm, q2, q1]
   simpa using q1
theorem ixS_does {l : List Lex.Bs} {g : FuncId} {cap : List AV} {H : AHeap} {b : Nat} {op : Bool} {p : Lex.Bs -> Bool} (hb : H.get b = some (.cells (l.map .str))) (hlen : l.length <= 1000000) (hp : ∀ x ∈ l, Does Tryz.prog G g (.str x :: cap) H fun r h => r = .bool (p x) /\ h = H) :
  Does Tryz.prog G 182 [.sl b 0 1 l.length l.length op, .func (.func g) [] cap] H fun r h => r = .int .i64 (ixOf p l) /\ h = H := by
 refine zaf Tryz.call182 Tryz.func182 rfl (by simp [Tryz.f182]) ?_
 simp
 refine za6 (fun m T' H' => H' = H /\ T' 0 = .sl b 0 1 l.length l.length op /\ T' 1 = .func (.func g) [] cap /\ T' 7 = .int .i64 l.length /\ ∃ i : Nat, i + m = l.length /\ T' 8 = .int .i64 i /\ ∀ j x, j < i -> l[j]? = some x -> p x = false) l.length ⟨rfl, by simp, by simp, by simp, 0, by simp, by simp, fun j x h => absurd h (by omega)⟩ ?_
 rintro m T H1 ⟨rfl, t0, t1, t7, i, him, t8, hno⟩
 by_cases hi : i < l.length
 · have hii : (i : Int) < l.length := by omega
   obtain ⟨x, hx⟩ : ∃ x, l[i]? = some x := ⟨_, List.getElem?_eq_getElem hi⟩
   have hd := hp x (List.mem_of_getElem? hx)
   have hle : i <= l.length := by omega
   have hat : (l.map AV.str)[i]? = some (.str x) := by rw [List.getElem?_map, hx]; rfl
   have wr : IntKind.i64.wrap ((i : Int) + 1) = ((i + 1 : Nat) : Int) := by rw [IntWalk.i64_in _ (by omega)]; omega
   have hxe : l[i] = x := by rw [List.getElem?_eq_getElem hi] at hx; simpa using hx
   simp [t0, t1, t7, t8, hii, hi, hb, hle, hxe]
   refine zaa hd ?_
   rintro r H2 ⟨rfl, rfl⟩
   cases hpx : p x with
   | true =>
     simp [t0, t1, t7, t8]
     exact (zbH hx hpx hno).symm
   | false =>
     simp [t0, t1, t7, t8]
     refine ⟨m - 1, by omega, i + 1, by omega, wr, fun j y hj hy => ?_⟩
     by_cases e : j = i
     · subst e; rw [hx] at hy; cases hy; exact hpx
     · exact hno j y (by omega) hy
 · obtain rfl : i = l.length := by omega
   simp [t0, t1, t7, t8]
   exact (zcg fun x hx => by
    obtain ⟨j, hj⟩ := List.mem_iff_getElem?.1 hx
    exact hno j x (List.getElem?_eq_some_iff.1 hj).1 hj).symm
def DlR (H : AHeap) (b : Nat) (op : Bool) (n : Nat) (F : List Lex.Bs) (r : AV) (h : AHeap) : Prop :=
 (∃ junk, r = .sl b 0 1 F.length n op /\ h.get b = some (.cells (F.map .str ++ junk))) /\ ∀ j x, j ≠ b -> H.get j = some x -> h.get j = some x
theorem zfM {X : Type} (p : X -> Bool) {l : List X} {i : Nat} {x : X} (h : l[i]? = some x) : (l.take (i + 1)).filter p = (l.take i).filter p ++ if p x then [x] else [] := by
 rw [List.take_add_one, h, List.filter_append]
 simp [List.filter_cons]
theorem delS_does {l : List Lex.Bs} {g : FuncId} {cap : List AV} {H : AHeap} {b : Nat} {op : Bool} {p : Lex.Bs -> Bool} (hb : H.get b = some (.cells (l.map .str))) (hlen : l.length <= 1000000)
  (hp : ∀ H' : AHeap, (∀ j x, j ≠ b -> H.get j = some x -> H'.get j = some x) -> ∀ x, Does Tryz.prog G g (.str x :: cap) H' fun r h => r = .bool (p x) /\ h = H') :
  Does Tryz.prog G 153 [.sl b 0 1 l.length l.length op, .func (.func g) [] cap] H fun r h => DlR H b op l.length (l.filter fun x => !p x) r h := by
 refine zaf Tryz.call153 Tryz.func153 rfl (by simp [Tryz.f153]) ?_
 simp
 refine zaa (ixS_does hb hlen fun x _ => hp H (fun _ _ _ h => h) x) ?_
 rintro _ H2 ⟨rfl, rfl⟩
 rcases zgB p l with ⟨h1, h2⟩ | ⟨i0, x0, h1, h2, h3, h4⟩
 · simp [h1]
   refine ⟨⟨[], by rw [h2], by rw [h2, List.append_nil]; exact hb⟩, fun j x _ h => h⟩
 have hi0 := (List.getElem?_eq_some_iff.1 h2).1
 have w0 : IntKind.i64.wrap ((i0 : Int) + 1) = ((i0 + 1 : Nat) : Int) := by rw [IntWalk.i64_in _ (by omega)]; omega
 have c0 : ((i0 : Int) == -1) = false := by simp
 have c1 : ¬ (i0 : Int) = -1 := by omega
 simp [h1, c0, c1]
 refine za6 (fun m T' H' => ∃ (j i : Nat) (cs : List AV), j + m = l.length /\ T' 0 = .sl b 0 1 l.length l.length op /\ T' 1 = .func (.func g) [] cap /\ T' 5 = .int .i64 i /\ T' 6 = .int .i64 j /\ i < j /\ ((l.take j).filter fun x => !p x).length = i /\ H'.get b = some (.cells cs) /\ cs.length = l.length /\ cs.take i = ((l.take j).filter fun x => !p x).map .str /\ cs.drop j = (l.drop j).map .str /\ ∀ j x, j ≠ b -> H2.get j = some x -> H'.get j = some x) (l.length - (i0 + 1)) ?_ ?_
 · have hf := zfM (fun x => !p x) h2
   rw [h4, h3] at hf
   simp only [Bool.not_true, Bool.false_eq_true, if_false, List.append_nil] at hf
   refine ⟨i0 + 1, i0, l.map .str, by omega, by simp, by simp, by simp, by simp [w0], by omega, by rw [hf, List.length_take]; omega, hb, by simp, by rw [hf, List.map_take], by rw [List.map_drop], fun _ _ _ h => h⟩
 rintro m T H1 ⟨j, i, cs, hjm, t0, t1, t5, t6, hij, hfl, hcb, hcl, htk, hdp, hkp⟩
 by_cases hj : j < l.length
 · have hjj : (j : Int) < l.length := by omega
   obtain ⟨x, hx⟩ : ∃ x, l[j]? = some x := ⟨_, List.getElem?_eq_getElem hj⟩
   have hd := hp H1 hkp x
   have hle : j <= cs.length := by omega
   have hat : cs[j]? = some (.str x) := by
    have e1 : (cs.drop j)[0]? = ((l.drop j).map AV.str)[0]? := by rw [hdp]
    rw [List.getElem?_drop, List.getElem?_map, List.getElem?_drop, Nat.add_zero, hx] at e1
    exact e1
   have wr : IntKind.i64.wrap ((j : Int) + 1) = ((j + 1 : Nat) : Int) := by rw [IntWalk.i64_in _ (by omega)]; omega
   have wi : IntKind.i64.wrap ((i : Int) + 1) = ((i + 1 : Nat) : Int) := by rw [IntWalk.i64_in _ (by omega)]; omega
   have hf := zfM (fun x => !p x) hx
   have hdp2 : cs.drop (j + 1) = (l.drop (j + 1)).map .str := by
    rw [<- List.drop_drop, hdp, <- List.map_drop, List.drop_drop]
   simp [t0, t1, t5, t6, hjj, hj, hcb, hle, hat]
   refine zaa hd ?_
   rintro r H3 ⟨rfl, rfl⟩
   cases hpx : p x with
   | true =>
     rw [hpx] at hf
     simp only [Bool.not_true, Bool.false_eq_true, if_false, List.append_nil] at hf
     simp [t0, t1, t5, t6, hcb, -List.map_drop]
     exact ⟨m - 1, by omega, j + 1, by omega, i, rfl, wr, by omega, by rw [hf]; exact hfl, hcl, by rw [hf]; exact htk, hdp2, hkp⟩
   | false =>
     rw [hpx] at hf
     simp only [Bool.not_false, if_true] at hf
     have c3 : (i : Int) < l.length := by omega
     have c4 : i < l.length := by omega
     have c5 : i + 1 <= cs.length := by omega
     have e1 : List.drop (j + 1) (List.take i cs ++ AV.str x :: List.drop (i + 1) cs) = List.drop (j + 1) cs := by
      rw [show List.take i cs ++ AV.str x :: List.drop (i + 1) cs = (List.take i cs ++ [AV.str x]) ++ List.drop (i + 1) cs by simp]
      have e2 : (List.take i cs ++ [AV.str x]).length = i + 1 := by rw [List.length_append, List.length_take]; simp; omega
      rw [show j + 1 = (i + 1) + (j - i) by omega, <- List.drop_drop, List.drop_left' e2, List.drop_drop]
     have e3 : List.take (i + 1) (List.take i cs ++ AV.str x :: List.drop (i + 1) cs) = List.take i cs ++ [AV.str x] := by
      rw [show List.take i cs ++ AV.str x :: List.drop (i + 1) cs = (List.take i cs ++ [AV.str x]) ++ List.drop (i + 1) cs by simp]
      exact List.take_left' (by rw [List.length_append, List.length_take]; simp; omega)
     simp [t0, t1, t5, t6, hcb, c3, c4, c5, wi, -List.map_drop]
     refine ⟨m - 1, by omega, j + 1, by omega, i + 1, by omega, wr, by omega, by rw [hf]; simp; exact hfl, by omega, by rw [hf, e3, htk]; simp, by rw [e1]; exact hdp2, fun y w hy hw' => ?_⟩
     rw [if_neg hy]
     exact hkp y w hy hw'
 · obtain rfl : j = l.length := by omega
   rw [List.take_length] at hfl htk
   have c2 : (i : Int) <= l.length := by omega
   have c6 : ¬ l.length - i = 0 := by omega
   have c7 : i + (l.length - i) <= cs.length := by omega
   have c8 : 0 < l.length := by omega
   simp [t0, t1, t5, t6, hcb, c2, hij, c6, c7, c8, -arep]
   refine ⟨⟨_, by rw [hfl], by simp [htk]; rfl⟩, fun y w hy hw' => ?_⟩
   simp [hy, hkp y w hy hw']
theorem leansS_is (n : Nd) (nm : Lex.Bs) : zdD n nm = zfC n nm (leanE [] ((eqOf n nm).getD eq0).e) := by
 unfold zdD
 cases eqOf n nm with
 | none => rw [Option.getD_none, lean_eq0]
 | some q => rfl
theorem zgm (nm : Lex.Bs) (H : AHeap) : Does Tryz.prog G 131 [.nilsl, .str nm] H fun r h => r = .bool false /\ h = H := by
 have hi : Does Tryz.prog G 163 [.nilsl, .str nm] H fun r h => r = .int .i64 (-1) /\ h = H := by
  refine zaf Tryz.call163 Tryz.func163 rfl (by simp [Tryz.f163]) ?_
  simp
  refine za6 (fun m T' H' => T' 7 = .int .i64 0 /\ T' 8 = .int .i64 0 /\ H' = H) 0 ⟨by simp, by simp, rfl⟩ ?_
  rintro m T H1 ⟨t7, t8, rfl⟩
  simp [t7, t8]
 refine zaf Tryz.call131 Tryz.func131 rfl (by simp [Tryz.f131]) ?_
 simp
 refine zaa hi ?_
 rintro _ H2 ⟨rfl, rfl⟩
 simp
theorem zjA {N : Nat} {l : List Lex.Bs} {v : AV} {H : AHeap} (h : NmL N l v H) (hl : l.length <= 1000000) (nm : Lex.Bs) : Does Tryz.prog G 131 [v, .str nm] H fun r h => r = .bool (l.contains nm) /\ h = H := by
 rcases h with ⟨rfl, rfl⟩ | ⟨hne, b, op, rfl, hb, hg⟩
 · exact zgm nm H
 · exact zeg l nm b l.length op H hg hl
def LnR (H : AHeap) (n : Nd) (nm : Lex.Bs) (r : AV) (h : AHeap) : Prop :=
 (if (n.own.map Va.name).contains nm then ∃ b op c junk, r = .sl b 0 1 (za7 n nm).length c op /\ H.next <= b /\ h.get b = some (.cells ((za7 n nm).map .str ++ junk)) else r = .nilsl) /\ ∀ j x, H.get j = some x -> h.get j = some x
theorem leans_live {n : Nd} (hn : NdOk2 n) (nm : Lex.Bs) (H : AHeap) :
  Does Tryz.prog G 118 [.agg (zah n), .str nm] H fun r h => LnR H n nm r h := by
 have hn1 := hn.vars
 have hol : (n.own.map Va.name).length <= 1000000 := by
  rw [List.length_map]
  have : n.own.length = n.outs.length + n.locals.length := by simp [Nd.own]
  unfold nlen at hn1
  omega
 refine Does.wf Tryz.call118 fun hw _ => ?_
 refine zaf Tryz.call118 Tryz.func118 rfl (by simp [Tryz.f118]) ?_
 have hown := fun H => zfZ (G := G) hn1 H
 have heq := fun H => eq_does (G := G) hn nm H
 have hlS := leansS_is n nm
 have hlF : za7 n nm = if (n.own.map Va.name).contains nm then (n.own.map Va.name).filter fun s => (zdD n nm).contains s else [] := rfl
 obtain ⟨l, hl⟩ : ∃ l, l = n.own.map Va.name := ⟨_, rfl⟩
 unfold LnR
 rw [<- hl] at hol hlF ⊢
 have hew : ((eqOf n nm).getD eq0).e.wt <= 1000000 := by
  have hf : eqOf n nm = n.eqs.find? fun q => q.name == nm := rfl
  cases he : eqOf n nm with
  | none => simp [eq0, Ex.wt, Ex.wts]
  | some q => exact hn.wt q (List.mem_of_find?_eq_some (hf ▸ he))
 obtain ⟨q, hq⟩ : ∃ q, q = (eqOf n nm).getD eq0 := ⟨_, rfl⟩
 have hon := fun (H : AHeap) (k m : Nat) s hk hm => fnon_does (G := G) hn1 (H := H) (k := k) (m := m) (s := s) hk hm nm
 rw [<- hq] at heq hlS hew
 have hex := zjz (G := G) q.e hew
 unfold FnD at hex
 simp only [zah] at hown heq hon
 simp [zah]
 refine zav (hown _) ?_
 rintro v H1 ⟨hv, hkp⟩ hw1 _
 rw [<- hl] at hv
 have hsc := hv.sc
 have hcs := hv.cells
 have hb1 := hkp H.next _ (by simp; rfl)
 have hkp1 : ∀ j x, H.get j = some x -> H1.get j = some x := fun j x hj => hkp j x (by simp [show j ≠ H.next by have := zac hw hj; omega, hj])
 have hn1' : H.next + 1 <= H1.next := zac hw1 hb1
 clear hkp
 simp [hsc, hcs]
 refine zaa (zjA hv hol nm) ?_
 rintro _ H2 ⟨rfl, rfl⟩
 cases hC : l.contains nm with
 | false =>
   simp
   exact hkp1
 | true =>
   rw [hC] at hlF
   simp only [if_true] at hlF
   rcases hv with ⟨rfl, _⟩ | ⟨hne, b, op, rfl, hbn, hb⟩
   · simp at hC
   have hbl := zac hw1 hb
   simp only [AHeap.next_push] at hbn
   have n1 : ¬ H2.next = H2.next + 1 := by omega
   have n2 : ¬ H.next = H2.next := by omega
   have n3 : ¬ H.next = H2.next + 1 := by omega
   have n4 : ¬ H.next = H2.next + 1 + 1 := by omega
   have n5 : ¬ H.next = H2.next + 1 + 1 + 1 := by omega
   have n6 : ¬ H2.next = H2.next + 1 + 1 := by omega
   have n7 : ¬ H2.next = H2.next + 1 + 1 + 1 := by omega
   simp [hb1, n1, n2, n3, n4]
   refine zaa (heq _) ?_
   rintro _ H3 ⟨rfl, hH3⟩
   rw [hH3]
   clear hH3 H3
   obtain ⟨qn, ⟨op', nm', num, pos, ks⟩, qp⟩ := q
   simp only [zab] at hex
   simp [zao, zab]
   refine zav (hex _ (H2.next + 1) H2.next [] ?h1 ?h2) ?_
   case h1 => simp
   case h2 => simp [mapC, n1, n6, n7]
   rintro _ H3 ⟨g1, g2⟩ hw3 _
   have k1 := g2 (H2.next + 1) (.cells [.map H2.next]) (by omega) (by simp)
   have k2 := g2 (H2.next + 1 + 1) (.cells [.ptr (H2.next + 1) 0]) (by omega) (by simp)
   have k4 := g2 H.next _ (by omega) (by simp [n2, n3, n4, n5]; exact hb1)
   have k5 := g2 b _ (by omega) (by simp [show b ≠ H2.next by omega, show b ≠ H2.next + 1 by omega, show b ≠ H2.next + 1 + 1 by omega, show b ≠ H2.next + 1 + 1 + 1 by omega]; exact hb)
   have hkp3 : ∀ j x, H.get j = some x -> H3.get j = some x := fun y w hy => by
    have q1 := zac hw1 (hkp1 y w hy)
    exact g2 y w (by omega) (by simp [show y ≠ H2.next by omega, show y ≠ H2.next + 1 by omega, show y ≠ H2.next + 1 + 1 by omega, show y ≠ H2.next + 1 + 1 + 1 by omega, hkp1 y w hy])
   have hH3 := zac hw3 k2
   clear g2
   simp [k1, k2, k4]
   refine zav (hon _ _ _ _ k1 g1) ?_
   rintro _ H4 ⟨g3, g4⟩ hw4 _
   have j1 := g4 (H2.next + 1) _ (by omega) k1
   have j2 := g4 (H2.next + 1 + 1) _ (by omega) k2
   have j5 := g4 b _ (by omega) k5
   have hkp4 : ∀ j x, H.get j = some x -> H4.get j = some x := fun y w hy => g4 y w (by have := zac hw1 (hkp1 y w hy); omega) (hkp3 y w hy)
   have hl1 : zfC n nm (leanE [] (.mk op' nm' num pos ks)) = zdD n nm := hlS.symm
   rw [hl1] at g3
   have hdel := delS_does (G := G) (g := 154) (cap := [.ptr (H2.next + 1 + 1) 0]) (op := op) (p := fun x => !(zdD n nm).contains x) j5 hol fun H' hk' x => zjt (hk' _ _ (by omega) j2) (hk' _ _ (by omega) j1) (hk' _ _ (by omega) g3) x
   have hfe : (l.filter fun x => !(fun x => !(zdD n nm).contains x) x) = za7 n nm := by rw [hlF]; congr 1; funext x; simp
   rw [hfe] at hdel
   simp [k1, k2, k4, j1, j2]
   refine zaa hdel ?_
   rintro r H5 ⟨⟨junk, rfl, hg5⟩, hk5⟩
   simp
   exact ⟨⟨by omega, junk, hg5⟩, fun y w hy => hk5 y w (by have := zac hw hy; omega) (hkp4 y w hy)⟩
def lnV (n : Nd) (nm : Lex.Bs) : AV := if (n.own.map Va.name).contains nm then .vsl ((za7 n nm).map .str) (za7 n nm).length else .nilsl
theorem zjf (m : Nat) : ∀ l : List Lex.Bs, AV.allLt m (l.map .str) = true
 | [] => rfl
 | a :: l => by rw [List.map_cons, AV.allLt, zjf m l]; rfl
theorem leans_does {n : Nd} (hn : NdOk2 n) (nm : Lex.Bs) (H : AHeap) :
  Does Tryz.prog G 118 [.agg (zah n), .str nm] H fun r h => r = lnV n nm /\ h = H := by
 refine Does.wfs fun hw _ => (leans_live hn nm H).ghost fun r H1 ⟨h1, h2⟩ => ?_
 unfold lnV
 by_cases hc : (n.own.map Va.name).contains nm = true
 · rw [if_pos hc] at h1 ⊢
   obtain ⟨b, op, c, junk, rfl, hb, hg⟩ := h1
   have e1 : AV.frz b ((za7 n nm).map .str ++ junk) (.sl b 0 1 (za7 n nm).length c op) = .vsl ((za7 n nm).map .str) (za7 n nm).length := by
    simp only [AV.frz, if_true, List.drop_zero]
    rw [List.take_left' (by simp)]
   refine ⟨_, H, (Ghost.frz hg).trans (Ghost.back hw ?_ (AHeap.frz_old hw hb h2)), e1, rfl⟩
   rw [e1]
   simpa [AV.idLt] using zjf _ _
 · rw [if_neg hc] at h1 ⊢
   subst h1
   exact ⟨_, H, Ghost.back hw rfl h2, rfl, rfl⟩
def nmV (l : List Lex.Bs) : AV := if l = [] then .nilsl else .vsl (l.map .str) l.length
theorem nmV_sc (l : List Lex.Bs) : (nmV l).scalar = true := by unfold nmV; split <;> rfl
theorem zf7 (l : List Lex.Bs) : (nmV l).cells = [nmV l] := by unfold nmV; split <;> rfl
theorem nmV_alen (l : List Lex.Bs) : Abs.alen Tryz.prog 154 (nmV l) = some (.int .i64 l.length) := by
 unfold nmV
 split
 · rename_i h; simp [Abs.alen, h]
 · simp [Abs.alen]
theorem lnV_sc (n : Nd) (nm : Lex.Bs) : (lnV n nm).scalar = true := by unfold lnV; split <;> rfl
theorem zfB (n : Nd) (nm : Lex.Bs) : (lnV n nm).cells = [lnV n nm] := by unfold lnV; split <;> rfl
theorem ownF_does {n : Nd} (hn : nlen n <= 1000000) (H : AHeap) :
  Does Tryz.prog G 117 [.agg (zah n)] H fun r h => r = nmV (n.own.map Va.name) /\ h = H := by
 refine Does.wfs fun hw _ => (zfZ hn H).ghost fun r H1 ⟨h1, h2⟩ => ?_
 unfold nmV
 rcases h1 with ⟨h0, rfl⟩ | ⟨hne, b, op, rfl, hb, hg⟩
 · rw [if_pos h0]
   exact ⟨_, H, Ghost.back hw rfl h2, rfl, rfl⟩
 · rw [if_neg hne]
   have e1 : AV.frz b ((n.own.map Va.name).map .str) (.sl b 0 1 (n.own.map Va.name).length (n.own.map Va.name).length op) = .vsl ((n.own.map Va.name).map .str) (n.own.map Va.name).length := by
    simp only [AV.frz, if_true, List.drop_zero]
    rw [List.take_of_length_le (by simp)]
   refine ⟨_, H, (Ghost.frz hg).trans (Ghost.back hw ?_ (AHeap.frz_old hw hb h2)), e1, rfl⟩
   rw [e1]
   exact zjf _ _
def SameS (S l : List Lex.Bs) : Prop := ∀ x, S.contains x = l.contains x
def GrfAt (H : AHeap) (n : Nd) (g m : Nat) (h : AHeap) : Prop := ∃ S : List Lex.Bs, SameS S (n.own.map Va.name) /\ H.next <= g /\ H.next <= m /\ h.get g = some (.cells [nmV (n.own.map Va.name), .map m]) /\ h.get m = some (.map (mapF (lnV n) S))
theorem made_does {n : Nd} (hn : NdOk2 n) (H : AHeap) :
  Does Tryz.prog G 63 [.agg (zah n)] H fun r h => (∃ g m, r = .ptr g 0 /\ GrfAt H n g m h) /\ ∀ j x, H.get j = some x -> h.get j = some x := by
 have hn1 := hn.vars
 refine Does.wf Tryz.call63 fun hw _ => ?_
 refine zaf Tryz.call63 Tryz.func63 rfl (by simp [Tryz.f63]) ?_
 have hown := fun H => ownF_does (G := G) hn1 H
 have hln := fun nm H => leans_does (G := G) hn nm H
 have hll : (n.own.map Va.name).length <= 1000000 := by
  have h1 : n.own.length = n.outs.length + n.locals.length := by simp [Nd.own]
  have h2 : nlen n = n.ins.length + n.outs.length + n.locals.length := rfl
  rw [List.length_map]; omega
 obtain ⟨l, hl⟩ : ∃ l, l = n.own.map Va.name := ⟨_, rfl⟩
 rw [<- hl] at hown hll
 have hsc := nmV_sc l
 have hcs := zf7 l
 have hal := nmV_alen l
 simp only [zah] at hown hln
 simp [zah]
 refine zaa (hown _) ?_
 rintro _ H1 ⟨rfl, rfl⟩
 have f2 : ¬ H.next = H.next + 1 + 1 := by omega
 simp [hsc, hcs, hal, -alen]
 refine zai (fun j T' H' => ∃ (i : Nat) (S : List Lex.Bs), i + j = l.length /\ T' 1 = .ptr H.next 0 /\ T' 3 = .ptr (H.next + 1 + 1) 0 /\ T' 14 = nmV l /\ T' 15 = .int .i64 l.length /\ T' 16 = .int .i64 i /\ SameS S (l.take i) /\ H'.get H.next = some (.cells (zah n)) /\ H'.get (H.next + 1) = some (.map (mapF (lnV n) S)) /\ H'.get (H.next + 1 + 1) = some (.cells [nmV l, .map (H.next + 1)]) /\ ∀ j x, H.get j = some x -> H'.get j = some x) l.length ?_ ?_
 · refine ⟨0, [], by simp, by simp, by simp, by simp, by simp, by simp, (fun x => by simp), by simp [zah, f2], by simp [mapF], by simp, fun y w hy => ?_⟩
   have := zac hw hy
   simp [show y ≠ H.next by omega, show y ≠ H.next + 1 by omega, show y ≠ H.next + 1 + 1 by omega, hy]
 rintro j T H1 ⟨i, S, hij, t1, t3, t14, t15, t16, hS, hb1, hm1, hg1, hkp⟩ hw1 _
 by_cases hi : i < l.length
 · have hii : (i : Int) < l.length := by omega
   obtain ⟨x, hx⟩ : ∃ x, l[i]? = some x := ⟨_, List.getElem?_eq_getElem hi⟩
   have hxe : l[i] = x := by rw [List.getElem?_eq_getElem hi] at hx; simpa using hx
   have hnv : nmV l = .vsl (l.map .str) l.length := by unfold nmV; rw [if_neg (by intro e; rw [e] at hi; simp at hi)]
   have wr : IntKind.i64.wrap ((i : Int) + 1) = ((i + 1 : Nat) : Int) := by rw [IntWalk.i64_in _ (by omega)]; omega
   have htk : ∀ y, (l.take (i + 1)).contains y = ((l.take i).contains y || y == x) := fun y => by
    rw [List.take_add_one, hx]; exact zbI _ _ _
   simp only [zah] at hb1
   rw [hnv] at hg1
   simp [t1, t3, t14, t15, t16, hii, hi, hnv, hxe]
   refine zak [(3, 0), (3, 8), (5, 0)] mixedOrders (by kernel_rfl) ?_
   intro es hes
   simp [t1, t3, hb1, hm1, hg1]
   refine ⟨_, _, hln x _, Nat.le_refl _, ?_⟩
   rcases zdV (f := lnV n) (nm := x) (S := S) with ⟨p1, p2⟩ | ⟨p1, jj, p2, p3⟩
   · simp [t1, t3, hb1, hm1, hg1, p2, lnV_sc, zfB, rds, heapF, -afind]
     refine ⟨⟨by subst hes; kernel_rfl, by subst hes; kernel_rfl⟩, ?_⟩
     clear hes
     simp [t1, t3, t14, t15, t16, -afind]
     refine ⟨j - 1, by omega, i + 1, by omega, wr, S ++ [x], (fun y => by rw [htk, zbI, hS]), hb1, mapF_app _ _ _, by rw [hnv]; exact hg1, fun y w hy => ?_⟩
     have := zac hw hy
     rw [if_neg (by omega)]
     exact hkp y w hy
   · simp [t1, t3, hb1, hm1, hg1, p2, lnV_sc, zfB, rds, heapF, -afind]
     refine ⟨⟨by subst hes; kernel_rfl, by subst hes; kernel_rfl⟩, ?_⟩
     clear hes
     simp [t1, t3, t14, t15, t16, -afind]
     refine ⟨j - 1, by omega, i + 1, by omega, wr, S, (fun y => ?_), hb1, p3, by rw [hnv]; exact hg1, fun y w hy => ?_⟩
     · rw [htk, <- hS]
       by_cases e : y = x
       · rw [e, p1]; simp
       · have : (y == x) = false := by simpa using e
         rw [this, Bool.or_false]
     · have := zac hw hy
       rw [if_neg (by omega)]
       exact hkp y w hy
 · obtain rfl : i = l.length := by omega
   rw [List.take_length] at hS
   simp [t1, t3, t14, t15, t16]
   refine ⟨⟨H.next + 1, S, by rw [<- hl]; exact hS, by omega, by omega, by rw [<- hl]; exact hg1, hm1⟩, hkp⟩
theorem zfV {v : AV} {l : List Lex.Bs} (hv : (v = .nilsl /\ l = []) \/ v = .vsl (l.map .str) l.length) (hl : l.length <= 1000000) (H : AHeap) :
  Does Tryz.prog G 119 [v] H fun r h => (∃ b, Gr h 1 l.length (l.map .str) r b /\ (∀ y, b y -> H.next <= y)) /\ ∀ j x, H.get j = some x -> h.get j = some x := by
 refine Does.wf Tryz.call119 fun hw _ => ?_
 refine zaf Tryz.call119 Tryz.func119 rfl (by simp [Tryz.f119]) ?_
 rcases hv with ⟨rfl, rfl⟩ | rfl
 · simp
   exact ⟨fun _ => False, .inl ⟨rfl, rfl, rfl⟩, fun _ h => h.elim⟩
 · have hk : List.take l.length (l.map AV.str) = l.map AV.str := List.take_of_length_le (by simp)
   have c2 : l.length * 16 <= 140737488355328 := by omega
   have c3 : l.length <= 4611686018427387904 := by omega
   by_cases h0 : l.length = 0
   · have e : l = [] := List.length_eq_zero_iff.1 h0
     subst e
     simp
     refine ⟨⟨fun y => y = H.next, .inr ⟨H.next, 0, 0, false, [], [], rfl, rfl, by simp, rfl, rfl, rfl, Nat.le_refl _⟩, fun y h => by omega⟩, fun j x hj => off1 hw hj⟩
   · simp [h0, c2, c3, hk]
     refine ⟨⟨fun y => y = H.next + 1, .inr ⟨H.next + 1, 0, l.length, true, [], [], rfl, rfl, by simp, rfl, by simp, by simp, Nat.le_refl _⟩, fun y h => by omega⟩, fun j x hj => ?_⟩
     have := zac hw hj
     simp [show j ≠ H.next by omega, show j ≠ H.next + 1 by omega, hj]
def RdI (n : Nd) (nm : Lex.Bs) (j : Nat) (seen w : List Lex.Bs) : Prop := zcZ n nm = zda (za7 n) nm j seen w /\ toDo (n.own.map Va.name) seen w < j /\ ∀ y ∈ w, y ∈ n.own.map Va.name
theorem RdI.first (n : Nd) (nm : Lex.Bs) : RdI n nm ((n.own.length + 2) * (n.own.length + 2)) [] (za7 n nm) := by
 have h := toDo_first (n.own.map Va.name) (za7 n nm) (zbY n nm).1
 rw [List.length_map] at h
 exact ⟨rfl, h, (zbY n nm).2⟩
theorem RdI.stop {n : Nd} {nm : Lex.Bs} {j : Nat} {seen : List Lex.Bs} (h : RdI n nm j seen []) : zcZ n nm = false := by
 obtain ⟨h1, h2, _⟩ := h
 obtain ⟨k, rfl⟩ : ∃ k, j = k + 1 := ⟨j - 1, by omega⟩
 rw [h1, zda]; rfl
theorem RdI.hit {n : Nd} {nm : Lex.Bs} {j : Nat} {seen w : List Lex.Bs} (h : RdI n nm j seen (w ++ [nm])) : zcZ n nm = true := by
 obtain ⟨h1, h2, _⟩ := h
 obtain ⟨k, rfl⟩ : ∃ k, j = k + 1 := ⟨j - 1, by omega⟩
 rw [h1, zda, List.getLast?_concat]; simp
theorem RdI.old {n : Nd} {nm s : Lex.Bs} {j : Nat} {seen w : List Lex.Bs} (hs : s ≠ nm) (hc : seen.contains s = true) (h : RdI n nm j seen (w ++ [s])) : ∃ k, k < j /\ RdI n nm k seen w := by
 obtain ⟨h1, h2, h3⟩ := h
 obtain ⟨k, rfl⟩ : ∃ k, j = k + 1 := ⟨j - 1, by omega⟩
 have h4 := toDo_pop (n.own.map Va.name) seen (w := w ++ [s]) (by simp)
 rw [List.dropLast_concat] at h4
 rw [zda, List.getLast?_concat] at h1
 simp only [hs, if_false, hc, if_true, List.dropLast_concat] at h1
 exact ⟨k, by omega, h1, by omega, fun y hy => h3 y (by simp [hy])⟩
theorem RdI.new {n : Nd} {nm s : Lex.Bs} {j : Nat} {seen w : List Lex.Bs} (hs : s ≠ nm) (hc : seen.contains s = false) (h : RdI n nm j seen (w ++ [s])) : ∃ k, k < j /\ RdI n nm k (seen ++ [s]) (w ++ za7 n s) := by
 obtain ⟨h1, h2, h3⟩ := h
 obtain ⟨k, rfl⟩ : ∃ k, j = k + 1 := ⟨j - 1, by omega⟩
 have h4 := toDo_push (own := n.own.map Va.name) (seen := seen) (w := w ++ [s]) (g := za7 n s) (s := s) (by simp) (h3 s (by simp)) hc (zbY n s).1
 rw [List.dropLast_concat] at h4
 rw [zda, List.getLast?_concat] at h1
 simp only [hs, if_false, hc, Bool.false_eq_true, List.dropLast_concat] at h1
 refine ⟨k, by omega, h1, by omega, fun y hy => ?_⟩
 rcases List.mem_append.1 hy with hy | hy
 · exact h3 y (by simp [hy])
 · exact (zbY n s).2 y hy
theorem elemOkS : ElemOk Tryz.prog 154 154 9 1 16 := ⟨by simp, ⟨.slice 9, by simp, rfl⟩, by simp⟩
theorem round_does {n : Nd} (hn : nlen n <= 1000000) {H : AHeap} {g m : Nat} {S : List Lex.Bs} (hS : SameS S (n.own.map Va.name)) (hg : H.get g = some (.cells [nmV (n.own.map Va.name), .map m])) (hm : H.get m = some (.map (mapF (lnV n) S))) (nm : Lex.Bs) :
  Does Tryz.prog G 64 [.ptr g 0, .str nm] H fun r h => r = .bool (zcZ n nm) /\ h = H := by
 have hll : (n.own.map Va.name).length <= 1000000 := by
  have h1 : n.own.length = n.outs.length + n.locals.length := by simp [Nd.own]
  have h2 : nlen n = n.ins.length + n.outs.length + n.locals.length := rfl
  rw [List.length_map]; omega
 refine kept (fun _ => rfl) (Does.wf Tryz.call64 fun hw _ => ?_)
 have hgn := zac hw hg
 have hmn := zac hw hm
 have e1 : g ≠ H.next := by omega
 have e2 : m ≠ H.next := by omega
 have hlf := (zbY n nm).1
 have hI0 := RdI.first n nm
 have hval : ∀ s, S.contains s = true -> lnV n s = .vsl ((za7 n s).map .str) (za7 n s).length := fun s h => by unfold lnV; rw [if_pos (by rw [<- hS]; exact h)]
 have hno : ∀ s, S.contains s = false -> za7 n s = [] := fun s h => by unfold za7; rw [if_neg (by rw [<- hS, h]; simp)]
 obtain ⟨N, hN⟩ : ∃ N, N = (n.own.length + 2) * (n.own.length + 2) := ⟨_, rfl⟩
 rw [<- hN] at hI0
 have hNb : N <= 1000002 * 1000002 := by
  rw [List.length_map] at hll
  rw [hN]
  exact Nat.mul_le_mul (by omega) (by omega)
 refine zaf Tryz.call64 Tryz.func64 rfl (by simp [Tryz.f64]) ?_
 rcases zdV (f := lnV n) (nm := nm) (S := S) with ⟨p1, p2⟩ | ⟨p1, jj, p2, p3⟩
 have hv0 : ((AV.nilsl : AV) = .nilsl /\ za7 n nm = []) \/ (AV.nilsl : AV) = .vsl ((za7 n nm).map .str) (za7 n nm).length := .inl ⟨rfl, hno nm p1⟩
 simp [hg, hm, e1, e2, p2, nmV_sc, zf7, -afind]
 refine zav (zfV hv0 (by omega) _) ?_
 rotate_left
 have hv0 : (lnV n nm = .nilsl /\ za7 n nm = []) \/ lnV n nm = .vsl ((za7 n nm).map .str) (za7 n nm).length := .inr (hval nm p1)
 simp [hg, hm, e1, e2, p2, nmV_sc, zf7, lnV_sc, zfB, -afind]
 refine zav (zfV hv0 (by omega) _) ?_
 all_goals
  clear p1 p2 hv0
  rintro wv0 H1 ⟨⟨b0, hgr0, hbH0⟩, hkp0⟩ hw1 _
  simp only [AHeap.next_push] at hbH0
  have hM0 := hkp0 H.next _ (by simp; rfl)
  have hn1 : H.next + 1 <= H1.next := zac hw1 hM0
  simp [hgr0.sc, hgr0.cells]
  refine zai (fun j T' H' => ∃ (seen w : List Lex.Bs) (wv : AV) (b : Nat -> Prop), T' 0 = .ptr g 0 /\ T' 1 = .str nm /\ T' 5 = .map H.next /\ T' 6 = wv /\ RdI n nm j seen w /\ j <= N /\ H'.get H.next = some (.map (mapC seen)) /\ Gr H' 1 w.length (w.map .str) wv b /\ (∀ y, b y -> H.next + 1 <= y) /\ (∀ j x, H.get j = some x -> H'.get j = some x)) N ?_ ?_
  · refine ⟨[], za7 n nm, wv0, b0, by simp, by simp, by simp, by simp, hI0, Nat.le_refl _, hM0, hgr0, hbH0, fun y w hy => hkp0 y w ?_⟩
    have := zac hw hy
    simp [show y ≠ H.next by omega, hy]
  clear hgr0 hbH0 hkp0 hM0 hn1 hw1
  rintro j T H1 ⟨seen, w, wv, b, t0, t1, t5, t6, hI, hjN, hM, hgr, hbH, hkp⟩ hw1 _
  have l1 := zac hw1 hM
  have hal := hgr.alen (P := Tryz.prog) (t := 154) (e := 9) (by simp)
  rcases List.eq_nil_or_concat w with rfl | ⟨w', s, hws⟩
  · simp only [List.length_nil] at hal
    simp [t0, t1, t5, t6, hgr.sc, hgr.cells, hal, -alen]
    exact ⟨hI.stop, hkp⟩
  · rw [List.concat_eq_append] at hws
    subst hws
    rw [List.length_append, List.length_singleton] at hal
    have hsm := hI.2.2 s (by simp)
    have hSs : S.contains s = true := by rw [hS]; simpa using hsm
    rcases hgr with ⟨h0, _, _⟩ | ⟨p, o, cap, op, pre, junk, rfl, hp, hb, ho, hcl, hjl, hcap⟩
    · simp at h0
    have hpn := hbH p hp
    have hpl := zac hw1 hb
    simp only [List.length_append, List.length_singleton, List.map_append, List.map_cons, List.map_nil] at hcl hjl hcap hb
    have hwl : w'.length <= 1000002 * 1000002 := by
     have q1 := hI.2.1
     unfold toDo at q1
     rw [List.length_append] at q1
     omega
    have w1 : IntKind.i64.wrap (w'.length : Int) = w'.length := IntWalk.i64_in _ (by omega)
    have c2 : (w'.length : Int) < (w'.length : Int) + 1 := by omega
    have c3 : (w'.length : Int) <= cap := by omega
    have c4 : 0 < cap := by omega
    have hal2 : Abs.alen Tryz.prog 154 (.sl p o 1 (w'.length + 1) cap op) = some (.int .i64 ((w'.length : Int) + 1)) := by simp [Abs.alen]
    have c1 : (0 : Int) < (w'.length : Int) + 1 := by omega
    have hat : (pre ++ (w'.map AV.str ++ AV.str s :: junk))[o + w'.length]? = some (.str s) := by
     rw [List.getElem?_append_right (by omega), List.getElem?_append_right (by simp; omega), show o + w'.length - pre.length - (w'.map AV.str).length = 0 by simp; omega]
     rfl
    have c5 : o + w'.length <= pre.length + (w'.length + (junk.length + 1)) := by omega
    simp [t0, t1, t5, t6, hal2, c5, w1, c1, c2, c3, c4, hb, hat, -alen]
    by_cases hsn : s = nm
    · subst hsn
      simp
      exact ⟨hI.hit, hkp⟩
    · have hsb : (s == nm) = false := by simpa using hsn
      rcases za8 (nm := s) (S := seen) with ⟨q1, q2⟩ | ⟨q1, k1, q2, q3⟩
      · obtain ⟨j', hj', hI'⟩ := hI.new hsn q1
        have hg1 := hkp g _ hg
        have hm1 := hkp m _ hm
        obtain ⟨jj2, hf2⟩ : ∃ jj2, afind .string (.str s) (mapF (lnV n) S) 0 = some (some (jj2, lnV n s)) := by
         rcases zdV (f := lnV n) (nm := s) (S := S) with ⟨p1, _⟩ | ⟨_, jj2, p2, _⟩
         · rw [p1] at hSs; cases hSs
         · exact ⟨jj2, p2⟩
        have hv := hval s hSs
        rw [hv] at hf2
        simp [hsb, hsn, t0, t1, t5, t6, hM, q2, hg1, hm1, e1, e2, hf2, -afind, -zaF]
        obtain ⟨HB, hHB⟩ : ∃ HB, HB = H1.set H.next (.map (mapC seen ++ [(.str s, .bool true)])) := ⟨_, rfl⟩
        rw [<- hHB]
        have hBg : ∀ y, y ≠ H.next -> HB.get y = H1.get y := fun y hy => by rw [hHB]; simp [hy]
        have hBM : HB.get H.next = some (.map (mapC (seen ++ [s]))) := by rw [hHB, zbx]; simp
        have hBn : HB.next = H1.next := by rw [hHB]; rfl
        have hsub := (zbY n s).1
        have hgrB : Gr HB 1 w'.length (w'.map .str) (.sl p o 1 w'.length cap op) b := .inr ⟨p, o, cap, op, pre, .str s :: junk, rfl, hp, by rw [hBg p (by omega)]; simpa using hb, ho, by simp, by simp; omega, by omega⟩
        by_cases hz : (za7 n s).length = 0
        · have hz2 : za7 n s = [] := List.length_eq_zero_iff.1 hz
          rw [hz2, List.append_nil] at hI'
          have hBp : HB.get p = some (.cells (pre ++ (w'.map .str ++ .str s :: junk))) := by rw [hBg p (by omega)]; simpa using hb
          have c6 : w'.length <= cap := by omega
          have c7 : o + w'.length <= (pre ++ (w'.map AV.str ++ AV.str s :: junk)).length := by simp; omega
          have hap : zaF Tryz.prog 154 154 HB.get H1.next (.sl p o 1 w'.length cap op) (.vsl [] 0) = some (.sl p o 1 w'.length cap op, .put p (.cells (pre ++ (w'.map .str ++ .str s :: junk)))) := by
           simp [zaF, hBp, c6, zaK, isSeq, zbR]
           omega
          simp only [hz2, List.map_nil, List.length_nil]
          rw [hap]
          simp [t0, t1, t5, t6]
          refine ⟨j', hj', seen ++ [s], w', hI', by omega, by simp [show H.next ≠ p by omega, hBM], b, .inr ⟨p, o, cap, op, pre, .str s :: junk, rfl, hp, by simp, ho, by simp, by simp; omega, by omega⟩, hbH, fun y w hy => ?_⟩
          have := zac hw hy
          simp [show y ≠ p by omega]
          rw [hBg y (by omega)]
          exact hkp y w hy
        · obtain ⟨v', eff, f1, f2, f3, f4⟩ := hgrB.app elemOkS (m := (za7 n s).length) (x := .vsl ((za7 n s).map .str) (za7 n s).length) (news := (za7 n s).map .str) (fun _ _ e => by cases e) rfl (by simp [zaK, List.take_of_length_le]) (by simp) (by simp) (by omega) (by omega) (by omega) (by omega) (nx := H1.next) hBn.symm
          rw [hBn] at f2 f3 f4
          rw [f1]
          simp [f2.sc, f2.cells, t0, t1, t5, t6, -zaF]
          refine ⟨j', hj', seen ++ [s], w' ++ za7 n s, hI', by omega, ?_, _, by simpa using f2, fun y hy => ?_, fun y w hy => ?_⟩
          · rw [f3 _ (fun e => by have := hbH _ e; omega) (by omega)]
            exact hBM
          · rcases hy with hy | hy
            · exact hbH y hy
            · omega
          · have l3 := zac hw hy
            rw [f3 _ (fun e => by have := hbH _ e; omega) (by omega), hBg y (by omega)]
            exact hkp y w hy
      · obtain ⟨j', hj', hI'⟩ := hI.old hsn q1
        simp [hsb, hsn, t0, t1, t5, t6, hM, q2, -afind]
        exact ⟨j', hj', seen, w', hI', by omega, rfl, b, .inr ⟨p, o, cap, op, pre, .str s :: junk, rfl, hp, by simpa using hb, ho, by simp, by simp; omega, by omega⟩, hbH, hkp⟩
def eqC (n : Nd) (q : Eqn) : Bool := !zcZ n q.name
theorem cauN_all (n : Nd) : cauN n = n.eqs.all (eqC n) := rfl
theorem zh7 {v : AV} {l : List Nd} (hv : NsA v l) (hl : l.length <= 1000000) (hn : ∀ n ∈ l, NdOk2 n) (H : AHeap) :
  Does Tryz.prog G 32 [v] H fun r h => FaultA (l.all cauN) 12 r /\ h = H := by
 refine keptR (fun r n h => h.lt n) (Does.wf Tryz.call32 fun hw _ => ?_)
 refine zaf Tryz.call32 Tryz.func32 rfl (by simp [Tryz.f32]) ?_
 have hal := hv.alen
 have hsc := hv.sc
 simp [hal, hsc, hv.cells, -alen]
 refine zai (fun j T' H' => ∃ i : Nat, i + j = l.length /\ T' 2 = .ptr H.next 0 /\ T' 8 = v /\ T' 9 = .int .i64 l.length /\ T' 10 = .int .i64 i /\ (l.take i).all cauN = true /\ H'.get H.next = some (.cells [.int .i64 0, .int .i64 0]) /\ ∀ j x, H.get j = some x -> H'.get j = some x) l.length ⟨0, by simp, by simp, by simp, by simp, by simp, by simp, by simp, fun j x hj => off1 hw hj⟩ ?_
 rintro j T H1 ⟨i, hij, t2, t8, t9, t10, hA, hc, hkp⟩ hw1 _
 by_cases hi : i < l.length
 · have hii : (i : Int) < l.length := by omega
   obtain ⟨x, hx⟩ : ∃ x, l[i]? = some x := ⟨_, List.getElem?_eq_getElem hi⟩
   obtain ⟨cs, hcs, hat, h6⟩ := hv.at hx
   have hxm := List.mem_of_getElem? hx
   have hxn := hn x hxm
   have wr : IntKind.i64.wrap ((i : Int) + 1) = ((i + 1 : Nat) : Int) := by rw [IntWalk.i64_in _ (by omega)]; omega
   have g1 : H.next ≠ H1.next := by have := zac hw1 hc; omega
   have hal2 := zcj x.eqs
   have hq := hxn.eqs
   have hmd := fun H => made_does (G := G) hxn H
   simp only [zah] at hat hmd
   simp [t2, t8, t9, t10, hii, hi, hcs, hat, h6, hal2, -alen]
   refine zav (hmd _) ?_
   rintro _ H2 ⟨⟨g, m, rfl, hG⟩, hkp2⟩ hw2 _
   obtain ⟨S, hS, hgn, hmn, hgg, hgm⟩ := hG
   simp only [AHeap.next_push] at hgn hmn
   have hx2 := hkp2 H1.next _ (by simp; rfl)
   have hc2 := hkp2 H.next _ (by simp [g1]; exact hc)
   have hkp3 : ∀ j x, H.get j = some x -> H2.get j = some x := fun y w hy => hkp2 y w (by
    have := zac hw1 (hkp y w hy)
    simp [show ¬ y = H1.next by omega, hkp y w hy])
   simp [t2, t8, t9, t10, hx2, hal2, -alen]
   refine zai (fun j2 T' H' => ∃ i2 : Nat, i2 + j2 = x.eqs.length /\ T' 2 = .ptr H.next 0 /\ T' 8 = v /\ T' 9 = .int .i64 l.length /\ T' 10 = .int .i64 i /\ T' 4 = .ptr H1.next 0 /\ T' 5 = .ptr g 0 /\ T' 17 = eqsV x.eqs /\ T' 18 = .int .i64 x.eqs.length /\ T' 19 = .int .i64 i2 /\ (x.eqs.take i2).all (eqC x) = true /\ H'.get H.next = some (.cells [.int .i64 0, .int .i64 0]) /\ H'.get g = some (.cells [nmV (x.own.map Va.name), .map m]) /\ H'.get m = some (.map (mapF (lnV x) S)) /\ ∀ j x, H.get j = some x -> H'.get j = some x) x.eqs.length ⟨0, by simp, by simp [t2], by simp [t8], by simp [t9], by simp [t10], by simp, by simp, by simp, by simp, by simp, by simp, hc2, hgg, hgm, hkp3⟩ ?_
   clear hkp2
   rintro j2 T2 H3 ⟨i2, hij2, u2, u8, u9, u10, u4, u5, u17, u18, u19, hA2, hc3, hg3, hm3, hkp2⟩ hw3 _
   by_cases hi2 : i2 < x.eqs.length
   · have hii2 : (i2 : Int) < x.eqs.length := by omega
     obtain ⟨q, hqx⟩ : ∃ q, x.eqs[i2]? = some q := ⟨_, List.getElem?_eq_getElem hi2⟩
     have hqm := List.mem_of_getElem? hqx
     have hat2 := zcQ hqx
     have hpv := zcs hi2
     have hlen7 := zaq x.eqs
     have h7 : 7 <= (zag x.eqs).length - i2 * 7 := by omega
     have wr2 : IntKind.i64.wrap ((i2 : Int) + 1) = ((i2 + 1 : Nat) : Int) := by rw [IntWalk.i64_in _ (by omega)]; omega
     have l1 := zac hw3 hc3
     have l2 := zac hw3 hg3
     have l3 := zac hw3 hm3
     have hrd := fun (H : AHeap) hg hm => round_does (G := G) hxn.vars (H := H) (g := g) (m := m) hS hg hm q.name
     have htk : (x.eqs.take (i2 + 1)).all (eqC x) = ((x.eqs.take i2).all (eqC x) && eqC x q) := by
      rw [List.take_add_one, hqx, List.all_append]; simp
     have hbadE : eqC x q = false -> l.all cauN = false := fun h => zeH hxm (by rw [cauN_all]; exact zeH hqm h)
     have hek : eqC x q = !zcZ x q.name := rfl
     obtain ⟨qn, ⟨op, nm, num, pos, ks⟩, qp⟩ := q
     simp only [zao, zab, List.cons_append, List.nil_append] at hat2
     have m1 : ¬ g = H3.next := by omega
     have m3 : ¬ H.next = H3.next := by omega
     have m5 : ¬ m = H3.next := by omega
     simp [u2, u4, u5, u8, u9, u10, u17, u18, u19, hii2, hi2, hpv, hat2, h7, m1, m3, m5]
     refine zaa (hrd _ ?h1 ?h2) ?_
     case h1 => simp [m1, hg3]
     case h2 => simp [m5, hm3]
     rintro _ H4 ⟨rfl, rfl⟩
     simp only at hek
     cases hW : zcZ x qn with
     | true =>
       simp [u2, hc3, m3]
       refine ⟨⟨12, qp, rfl, fun h => ?_, fun _ => ⟨rfl, by omega⟩⟩, fun y w hy => ?_⟩
       · rw [hbadE (by rw [hek, hW]; rfl)] at h; cases h
       · have k1 := zac hw hy
         rw [if_neg (by omega), if_neg (by omega)]
         exact hkp2 _ _ hy
     | false =>
       have htk : (x.eqs.take (i2 + 1)).all (eqC x) = true := by rw [htk, hA2, hek, hW]; rfl
       simp [u2, u4, u5, u8, u9, u10, u17, u18, u19, m1, m3, m5, hpv]
       refine ⟨j2 - 1, by omega, i2 + 1, by omega, wr2, by simpa using htk, hc3, hg3, hm3, fun y w hy => ?_⟩
       have k1 := zac hw hy
       rw [if_neg (by omega)]
       exact hkp2 _ _ hy
   · obtain rfl : i2 = x.eqs.length := by omega
     rw [List.take_length] at hA2
     have htk : (l.take (i + 1)).all cauN = true := by
      rw [List.take_add_one, hx, List.all_append, hA]
      simpa [cauN_all] using hA2
     simp [u2, u4, u5, u8, u9, u10, u17, u18, u19]
     exact ⟨j - 1, by omega, i + 1, by omega, wr, by simpa using htk, hc3, hkp2⟩
 · obtain rfl : i = l.length := by omega
   rw [List.take_length] at hA
   simp [t2, t8, t9, t10, hc]
   refine ⟨⟨0, 0, rfl, fun _ => ⟨rfl, rfl⟩, fun h => ?_⟩, fun y w hy => ?_⟩
   · rw [hA] at h
     cases h
   · have l1 := zac hw hy
     rw [if_neg (by omega)]
     exact hkp y w hy
def FaultT (ok : Bool) (r : AV) : Prop := ∃ x y : Int, r = .agg [.int .i64 x, .int .i64 y] /\ (ok = true -> x = 0 /\ y = 0) /\ (ok = false -> ¬ x = 0)
theorem FaultT.lt {ok : Bool} {r : AV} (h : FaultT ok r) (n : Nat) : r.idLt n = true := by obtain ⟨x, y, rfl, _⟩ := h; rfl
theorem NsA.ndsV (l : List Nd) : NsA (ndsV l) l := by
 unfold Proofs.YtnejkhhnpbcmaaaGreatDoor.ndsV
 split
 · rename_i h
   exact .inl ⟨rfl, by simpa using h⟩
 · exact .inr ⟨[], fun _ => rfl, by simp⟩
theorem ndsV_lt (m : Nat) (l : List Nd) : (ndsV l).idLt m = true := by
 unfold ndsV
 split
 · rfl
 · exact zce m l
def zcb (l : List Nd) : Nat -> Bool
 | 0 => allN zbG [] l
 | 1 => allN typN [] l
 | 2 => l.all clkN
 | 3 => l.all iniN
 | _ => l.all cauN
theorem zeb (l : List Nd) : zbN l = (zcb l 0 && (zcb l 1 && (zcb l 2 && (zcb l 3 && zcb l 4)))) := rfl
theorem zc1 {l : List Nd} {i : Nat} (hi : i < 5) (h : zcb l i = false) : zbN l = false := by
 rw [zeb]
 obtain rfl | rfl | rfl | rfl | rfl : i = 0 \/ i = 1 \/ i = 2 \/ i = 3 \/ i = 4 := by omega
 all_goals
  rw [h]
  simp
theorem treeOk_all {l : List Nd} (h : ∀ i, i < 5 -> zcb l i = true) : zbN l = true := by
 rw [zeb, h 0 (by omega), h 1 (by omega), h 2 (by omega), h 3 (by omega), h 4 (by omega)]; rfl
theorem zgj {v : AV} {l : List Nd} (hv : NsA v l) (hl : l.length <= 1000000) (hn : ∀ n ∈ l, NdOk2 n) (hn9 : ∀ n ∈ l, nlen n <= 900000) (H : AHeap) :
  Does Tryz.prog G 14 [v] H fun r h => FaultT (zbN l) r /\ h = H := by
 have h0 := fun H => zfA (G := G) hv hl (fun n h => (hn n h).toNdOk) H
 have h1 := fun H => zha (G := G) hv hl hn H
 have h2 := fun H => zh5 (G := G) hv hl hn hn9 H
 have h3 := fun H => zhw (G := G) hv hl hn H
 have h4 := fun H => zh7 (G := G) hv hl hn H
 refine keptR (fun r n h => h.lt n) (Does.wf Tryz.call14 fun hw _ => ?_)
 refine zaf Tryz.call14 Tryz.func14 rfl (by simp [Tryz.f14]) ?_
 have hsc := hv.sc
 simp [hsc, hv.cells]
 refine zai (fun m T' H' => ∃ i : Nat, i + m = 5 /\ T' 0 = v /\ T' 2 = .ptr H.next 0 /\ T' 5 = .int .i64 i /\ (∀ k, k < i -> zcb l k = true) /\ H'.get H.next = some (.cells [.int .i64 0, .int .i64 0]) /\ ∀ j x, H.get j = some x -> H'.get j = some x) 5 ⟨0, by simp, by simp, by simp, by simp, fun k h => absurd h (by omega), by simp, fun j x hj => off1 hw hj⟩ ?_
 rintro m T H1 ⟨i, him, t0, t2, t5, hA, hf, hkp⟩ hw1 _
 have e0 : H.next ≠ H1.next := by have := (hw1 _ _ hf).1; omega
 have e1 : ∀ j x, H.get j = some x -> j ≠ H1.next := fun j x hj => by have := (hw1 _ _ (hkp j x hj)).1; omega
 have e2 : ∀ j x, H.get j = some x -> j ≠ H.next := fun j x hj => by have := (hw _ _ hj).1; omega
 have nextA : ∀ i, (∀ k, k < i -> zcb l k = true) -> zcb l i = true -> ∀ k, k < i + 1 -> zcb l k = true := fun i h h' k hk => by
  by_cases e : k = i
  · rw [e]; exact h'
  · exact h k (by omega)
 obtain rfl | rfl | rfl | rfl | rfl | rfl : i = 0 \/ i = 1 \/ i = 2 \/ i = 3 \/ i = 4 \/ i = 5 := by omega
 · simp [t0, t2, t5, e0, hf]
   refine zaa (h0 _) ?_
   rintro r H2 ⟨⟨x, y, rfl, hy, hno⟩, rfl⟩
   cases hB : allN zbG [] l with
   | true =>
     obtain ⟨rfl, rfl⟩ := hy hB
     simp [t0, t2, t5, e0, hf]
     exact ⟨4, by omega, 1, by omega, by decide, nextA 0 hA hB, fun j x hj => by simp [e1 j x hj, hkp j x hj]⟩
   | false =>
     obtain ⟨rfl, hy0⟩ := hno hB
     simp [t0, t2, t5, e0, hf]
     refine ⟨⟨_, y, rfl, fun h => ?_, fun _ => by decide⟩, fun j x hj => by simp [e1 j x hj, e2 j x hj, hkp j x hj]⟩
     rw [zc1 (i := 0) (by omega) hB] at h
     cases h
 · simp [t0, t2, t5, e0, hf]
   refine zaa (h1 _) ?_
   rintro r H2 ⟨⟨x, y, rfl, hy, hno⟩, rfl⟩
   cases hB : allN typN [] l with
   | true =>
     obtain ⟨rfl, rfl⟩ := hy hB
     simp [t0, t2, t5, e0, hf]
     exact ⟨3, by omega, 2, by omega, by decide, nextA 1 hA hB, fun j x hj => by simp [e1 j x hj, hkp j x hj]⟩
   | false =>
     obtain ⟨rfl, hy0⟩ := hno hB
     simp [t0, t2, t5, e0, hf]
     refine ⟨⟨_, y, rfl, fun h => ?_, fun _ => by decide⟩, fun j x hj => by simp [e1 j x hj, e2 j x hj, hkp j x hj]⟩
     rw [zc1 (i := 1) (by omega) hB] at h
     cases h
 · simp [t0, t2, t5, e0, hf]
   refine zaa (h2 _) ?_
   rintro r H2 ⟨⟨x, y, rfl, hy, hno⟩, rfl⟩
   cases hB : l.all clkN with
   | true =>
     obtain ⟨rfl, rfl⟩ := hy hB
     simp [t0, t2, t5, e0, hf]
     exact ⟨2, by omega, 3, by omega, by decide, nextA 2 hA hB, fun j x hj => by simp [e1 j x hj, hkp j x hj]⟩
   | false =>
     obtain ⟨rfl, hy0⟩ := hno hB
     simp [t0, t2, t5, e0, hf]
     refine ⟨⟨_, y, rfl, fun h => ?_, fun _ => by decide⟩, fun j x hj => by simp [e1 j x hj, e2 j x hj, hkp j x hj]⟩
     rw [zc1 (i := 2) (by omega) hB] at h
     cases h
 · simp [t0, t2, t5, e0, hf]
   refine zaa (h3 _) ?_
   rintro r H2 ⟨⟨x, y, rfl, hy, hno⟩, rfl⟩
   cases hB : l.all iniN with
   | true =>
     obtain ⟨rfl, rfl⟩ := hy hB
     simp [t0, t2, t5, e0, hf]
     exact ⟨1, by omega, 4, by omega, by decide, nextA 3 hA hB, fun j x hj => by simp [e1 j x hj, hkp j x hj]⟩
   | false =>
     obtain ⟨rfl, hy0⟩ := hno hB
     simp [t0, t2, t5, e0, hf]
     refine ⟨⟨_, y, rfl, fun h => ?_, fun _ => by decide⟩, fun j x hj => by simp [e1 j x hj, e2 j x hj, hkp j x hj]⟩
     rw [zc1 (i := 3) (by omega) hB] at h
     cases h
 · simp [t0, t2, t5, e0, hf]
   refine zaa (h4 _) ?_
   rintro r H2 ⟨⟨x, y, rfl, hy, hno⟩, rfl⟩
   cases hB : l.all cauN with
   | true =>
     obtain ⟨rfl, rfl⟩ := hy hB
     simp [t0, t2, t5, e0, hf]
     exact ⟨0, by omega, 5, by omega, by decide, nextA 4 hA hB, fun j x hj => by simp [e1 j x hj, hkp j x hj]⟩
   | false =>
     obtain ⟨rfl, hy0⟩ := hno hB
     simp [t0, t2, t5, e0, hf]
     refine ⟨⟨_, y, rfl, fun h => ?_, fun _ => by decide⟩, fun j x hj => by simp [e1 j x hj, e2 j x hj, hkp j x hj]⟩
     rw [zc1 (i := 4) (by omega) hB] at h
     cases h
 · simp [t0, t2, t5, e0, hf]
   refine ⟨⟨0, 0, rfl, fun _ => ⟨rfl, rfl⟩, fun h => ?_⟩, fun j x hj => by simp [e2 j x hj, hkp j x hj]⟩
   rw [treeOk_all hA] at h
   cases h
def FrcR (t : Lex.Bs) (r : AV) : Prop := match Syn.parse t with
 | .error (e, p) => r = .tuple [.nilsl, .agg [.int .i64 e, .int .i64 p]]
 | .ok l => (zbN l = true -> r = .tuple [ndsV l, .agg [.int .i64 0, .int .i64 0]]) /\ (zbN l = false -> ∃ x y : Int, r = .tuple [.nilsl, .agg [.int .i64 x, .int .i64 y]] /\ ¬ x = 0)
theorem nd_ok {t : Lex.Bs} {l : List Nd} (hp : Syn.parse t = .ok l) : l.length <= 1000000 /\ (∀ n ∈ l, NdOk2 n) /\ ∀ n ∈ l, nlen n <= 900000 := by
 have hwt := Syn.parse_wt hp
 have hwf := (Syn.parse_wf hp).2
 have hb : ∀ n ∈ l, n.ins.length + n.outs.length + n.locals.length + Syn.eqsWt n.eqs <= 40000 := fun n hn => by
  have w1 := zc2 hn
  have w2 : n.wt = 1 + (n.ins.length + n.outs.length + n.locals.length + Syn.eqsWt n.eqs) := rfl
  omega
 refine ⟨by have := zc3 l; omega, fun n hn => ⟨⟨by have := hb n hn; unfold nlen; omega, by have := hb n hn; have := zc6 n.eqs; omega, fun q hq => by have := hb n hn; have := zd4 hq; omega⟩, fun q hq => ?_⟩, fun n hn => by have := hb n hn; unfold nlen; omega⟩
 obtain ⟨h1, w, tt, ht⟩ := (hwf n hn).eqs q hq
 exact zcX ht
theorem nds_sc (l : List Nd) : (ndsV l).scalar = true /\ (ndsV l).cells = [ndsV l] := by
 unfold ndsV; split <;> exact ⟨rfl, rfl⟩
theorem zch (t : Lex.Bs) (hG : zdd G) (hbig : t.length < 9223372036854775808) (H : AHeap) :
  Does Tryz.prog G 6 [.str t] H fun r h => FrcR t r /\ h = H := by
 have hp := fun H => p_parse (G := G) t hG H hbig
 have hlt : ∀ (r : AV) (n : Nat), FrcR t r -> r.idLt n = true := fun r n h => by
  unfold FrcR at h
  split at h
  · rw [h]; rfl
  · rename_i l hl
    cases hT : zbN l with
    | true => rw [h.1 hT]; simp [AV.idLt, AV.allLt, ndsV_lt]
    | false => obtain ⟨x, y, rfl, _⟩ := h.2 hT; rfl
 refine keptR hlt (Does.wf Tryz.call6 fun hw _ => ?_)
 refine zaf Tryz.call6 Tryz.func6 rfl (by simp [Tryz.f6]) ?_
 unfold FrcR zfj at *
 have f1 : ∀ j x, H.get j = some x -> j ≠ H.next /\ j ≠ H.next + 1 /\ j ≠ H.next + 1 + 1 := fun j x hj => by
  have := (hw _ _ hj).1
  omega
 cases hP : Syn.parse t with
 | error z =>
   obtain ⟨e, p⟩ := z
   rw [hP] at hp
   have e2 := parse_nz hP
   have e3 : ((e : Int) != 0) = true := by simp [e2]
   simp
   refine zaa (hp _) ?_
   rintro r H2 ⟨rfl, rfl⟩
   simp [e3, e2]
   refine zak [(0, 0)] mixedOrders (by kernel_rfl) ?_
   intro es hes
   simp [rds, heapF]
   subst hes
   refine ⟨⟨by kernel_rfl, by kernel_rfl⟩, ?_⟩
   intro j x hj
   obtain ⟨g1, g2, g3⟩ := f1 j x hj
   simp [g1, g2, g3, hj]
 | ok l =>
   rw [hP] at hp
   obtain ⟨hl, hn, hn9⟩ := nd_ok hP
   have o1 : ¬ H.next = H.next + 1 + 1 := by omega
   have ht := fun H => zgj (G := G) (NsA.ndsV l) hl hn hn9 H
   have hsc := nds_sc l
   simp
   refine zaa (hp _) ?_
   rintro r H2 ⟨rfl, rfl⟩
   simp [hsc]
   refine zaa (ht _) ?_
   rintro r H3 ⟨⟨x, y, rfl, hy, hno⟩, rfl⟩
   cases hT : zbN l with
   | true =>
     obtain ⟨rfl, rfl⟩ := hy hT
     simp [hsc, o1]
     refine ⟨(fun h => absurd h (by rw [hT]; simp)), ?_⟩
     intro j x hj
     obtain ⟨g1, g2, g3⟩ := f1 j x hj
     simp [g1, g2, g3, hj]
   | false =>
     have hx := hno hT
     have hx2 : (x != 0) = true := by simpa using hx
     simp [hsc, hx, hx2]
     refine zak [(0, 0)] mixedOrders (by kernel_rfl) ?_
     intro es hes
     simp [rds, heapF, o1]
     subst hes
     refine ⟨⟨by kernel_rfl, by kernel_rfl⟩, ⟨(fun h => absurd h (by rw [hT]; simp)), fun _ => hx⟩, ?_⟩
     intro j x hj
     obtain ⟨g1, g2, g3⟩ := f1 j x hj
     simp [g1, g2, g3, hj]
end Go.Proofs.YtnejkhhnpbcmaaaGreatDoor
namespace Go.Proofs.YtnejkhhnpbcmaaaGreatDoor
open Go Go.Abs Go.Lex Go.Syn
variable {G : Nat -> Option AV}
theorem map_at {X Y : Type} {f : X -> Y} {a b : List X} (h : a.map f = b.map f) {i : Nat} {x : X} (hx : a[i]? = some x) : ∃ y, b[i]? = some y /\ f y = f x := by
 have e : (a.map f)[i]? = (b.map f)[i]? := by rw [h]
 rw [List.getElem?_map, List.getElem?_map, hx] at e
 cases hy : b[i]? with
 | none => rw [hy] at e; simp at e
 | some y => rw [hy] at e; simp at e; exact ⟨y, rfl, e.symm⟩
theorem zhn {X Y : Type} {f : X -> Y} {a b : List X} (h : a.map f = b.map f) : b.length = a.length := by
 have := congrArg List.length h
 simpa using this.symm
theorem vs_pos {l : List Va} {i : Nat} (h : i < l.length) : vsV l = .vsl (zad l) l.length := by
 unfold vsV
 rw [if_neg (by cases l <;> simp_all)]
theorem zcH {a b : List Va} (hl : a.length <= 1000000) (h : a.map Va.er = b.map Va.er) (H : AHeap) :
  Does Tryz.prog G 18 [vsV a, vsV b, .bool false] H fun r h => r = .bool true /\ h = H := by
 refine kept (fun _ => rfl) (Does.wf Tryz.call18 fun hw _ => ?_)
 refine zaf Tryz.call18 Tryz.func18 rfl (by simp [Tryz.f18]) ?_
 have hbl := zhn h
 have hal : ∀ l : List Va, alen Tryz.prog 44 (vsV l) = some (.int .i64 l.length) := fun l => by
  unfold vsV
  cases l <;> rfl
 have ha1 := hal a
 have hb1 := hal b
 rw [hbl] at hb1
 simp [ha1, hb1, -alen]
 refine zai (fun j T' H' => ∃ i : Nat, i + j = a.length /\ T' 0 = vsV a /\ T' 1 = vsV b /\ T' 2 = .bool false /\ T' 7 = .int .i64 i /\ ∀ j x, H.get j = some x -> H'.get j = some x) a.length ⟨0, by simp, by simp, by simp, by simp, by simp, fun y w hy => hy⟩ ?_
 rintro j T H1 ⟨i, hij, t0, t1, t2, t7, hkp⟩ hw1 _
 by_cases hi : i < a.length
 · have hii : (i : Int) < a.length := by omega
   obtain ⟨x, hx⟩ : ∃ x, a[i]? = some x := ⟨_, List.getElem?_eq_getElem hi⟩
   obtain ⟨y, hy, hxy⟩ := map_at h hx
   have p1 := vs_pos hi
   have p2 := vs_pos (l := b) (i := i) (by omega)
   have at1 := zcE hx
   have at2 := zcE hy
   have n1 := zam a
   have n2 := zam b
   have k1 : 5 <= (zad a).length - i * 5 := by omega
   have k2 : 5 <= (zad b).length - i * 5 := by omega
   rw [hbl] at p2
   have hA : alen Tryz.prog 44 (.vsl (zad a) a.length) = some (.int .i64 a.length) := rfl
   have wr : IntKind.i64.wrap ((i : Int) + 1) = ((i + 1 : Nat) : Int) := by rw [IntWalk.i64_in _ (by omega)]; omega
   obtain ⟨xn, xk, xo, xg, xp⟩ := x
   obtain ⟨yn, yk, yo, yg, yp⟩ := y
   simp only [Va.er, Va.mk.injEq, and_true] at hxy
   obtain ⟨rfl, rfl, rfl, rfl⟩ := hxy
   simp only [zar] at at1 at2
   simp [t0, t1, t2, t7, hii, hi, p1, p2, hA, -alen]
   refine zak [(3, 0), (7, 0), (7, 11)] mixedOrders (by kernel_rfl) ?_
   intro es hes
   simp [t0, t1, t2, t7, hii, hi, p1, p2, at1, at2, k1, k2, rds, heapF]
   subst hes
   refine ⟨⟨by kernel_rfl, by kernel_rfl⟩, ?_⟩
   refine ⟨j - 1, by omega, i + 1, by omega, wr, fun y w hy => ?_⟩
   have := zac hw1 (hkp y w hy)
   simp [show y ≠ H1.next by omega, show y ≠ H1.next + 1 by omega, hkp y w hy]
 · obtain rfl : i = a.length := by omega
   simp [t0, t1, t2, t7, ha1, -alen]
   exact hkp
theorem ers_at : ∀ {a b : List Ex} {i : Nat} {x : Ex}, Ex.ers a = Ex.ers b -> a[i]? = some x -> ∃ y, b[i]? = some y /\ y.er = x.er
 | [], _, i, x, _, h => by simp at h
 | e :: a, [], i, x, h, _ => by simp [Ex.ers] at h
 | e :: a, f :: b, 0, x, h, hx => by
   rw [Ex.ers, Ex.ers, List.cons.injEq] at h
   simp at hx
   exact ⟨f, rfl, by rw [<- hx, h.1]⟩
 | e :: a, f :: b, i + 1, x, h, hx => by
   rw [Ex.ers, Ex.ers, List.cons.injEq] at h
   obtain ⟨y, h1, h2⟩ := ers_at (i := i) h.2 (by simpa using hx)
   exact ⟨y, by simpa using h1, h2⟩
theorem ers_lens : ∀ {a b : List Ex}, Ex.ers a = Ex.ers b -> b.length = a.length
 | [], [], _ => rfl
 | [], _ :: _, h => by simp [Ex.ers] at h
 | _ :: _, [], h => by simp [Ex.ers] at h
 | e :: a, f :: b, h => by
   rw [Ex.ers, Ex.ers, List.cons.injEq] at h
   rw [List.length_cons, List.length_cons, ers_lens h.2]
def SmD (G : Nat -> Option AV) (e : Ex) : Prop := ∀ (f : Ex) (H : AHeap), f.er = e.er -> Does Tryz.prog G 19 [.agg (zas e), .agg (zas f), .bool false] H fun r h => r = .bool true /\ h = H
theorem kids_vsl {ks : List Ex} {i : Nat} (h : i < ks.length) : kidsV ks = .vsl (zae ks) ks.length := by
 unfold kidsV
 rw [if_neg (by cases ks <;> simp_all)]
theorem zhh : ∀ e : Ex, e.wt <= 1000000 -> SmD G e := by
 refine zer ?_
 intro op nm num pos ks ih hwt f H hf
 obtain ⟨op2, nm2, num2, pos2, ks2⟩ := f
 rw [Ex.er, Ex.er, Ex.mk.injEq] at hf
 obtain ⟨rfl, rfl, rfl, _, hks⟩ := hf
 have hks := hks.symm
 have hkl : ks.length <= 1000000 := by
  have := zcw ks
  rw [Ex.wt] at hwt
  omega
 refine kept (fun _ => rfl) (Does.wf Tryz.call19 fun hw _ => ?_)
 refine zaf Tryz.call19 Tryz.func19 rfl (by simp [Tryz.f19]) ?_
 have hbl := ers_lens hks
 have hal : ∀ l : List Ex, alen Tryz.prog 49 (kidsV l) = some (.int .i64 l.length) := fun l => by
  unfold kidsV
  cases l <;> rfl
 have ha1 := hal ks
 have hb1 := hal ks2
 rw [hbl] at hb1
 have o1 : ¬ H.next = H.next + 1 := by omega
 rw [zab, zab]
 simp [ha1, hb1, o1, -alen]
 refine zai (fun j T' H' => ∃ i : Nat, i + j = ks.length /\ T' 2 = .bool false /\ T' 3 = .ptr H.next 0 /\ T' 4 = .ptr (H.next + 1) 0 /\ T' 7 = .int .i64 i /\ H'.get H.next = some (.cells [.str op2, .str nm2, .int .i64 num2, .int .i64 pos, kidsV ks]) /\ H'.get (H.next + 1) = some (.cells [.str op2, .str nm2, .int .i64 num2, .int .i64 pos2, kidsV ks2]) /\ ∀ j x, H.get j = some x -> H'.get j = some x) ks.length ⟨0, by simp, by simp, by simp, by simp, by simp, by simp [o1], by simp, fun y w hy => off2 hw hy⟩ ?_
 rintro j T H1 ⟨i, hij, t2, t3, t4, t7, g1, g2, hkp⟩ hw1 _
 by_cases hi : i < ks.length
 · have hii : (i : Int) < ks.length := by omega
   obtain ⟨x, hx⟩ : ∃ x, ks[i]? = some x := ⟨_, List.getElem?_eq_getElem hi⟩
   obtain ⟨y, hy, hxy⟩ := ers_at hks hx
   have p1 := kids_vsl hi
   have p2 := kids_vsl (ks := ks2) (i := i) (by omega)
   have at1 := zb0 hx
   have at2 := zb0 hy
   have n1 := zap ks
   have n2 := zap ks2
   have k1 : 5 <= (zae ks).length - i * 5 := by omega
   have k2 : 5 <= (zae ks2).length - i * 5 := by omega
   rw [hbl] at p2
   have hA : alen Tryz.prog 49 (.vsl (zae ks) ks.length) = some (.int .i64 ks.length) := rfl
   have wr : IntKind.i64.wrap ((i : Int) + 1) = ((i + 1 : Nat) : Int) := by rw [IntWalk.i64_in _ (by omega)]; omega
   have hxm := List.mem_of_getElem? hx
   have hd := ih x hxm (by have := zcn hxm; rw [Ex.wt] at hwt; omega) y
   obtain ⟨xo, xn, xm, xp, xk⟩ := x
   obtain ⟨yo, yn, ym, yp, yk⟩ := y
   have hd' := fun H => hd H hxy
   simp only [zab] at at1 at2 hd'
   rw [p1] at g1
   rw [p2] at g2
   simp [t2, t3, t4, t7, g1, g2, hii, hi, hA, -alen]
   refine zak [(1, 0), (4, 0), (6, 0), (9, 0)] mixedOrders (by kernel_rfl) ?_
   intro es hes
   simp [t2, t3, t4, t7, g1, g2, hii, hi, at1, at2, k1, k2]
   refine ⟨_, _, hd' _, Nat.le_refl _, ?_⟩
   simp [rds, heapF, t2, t3, t4, t7, g1, g2, hii, hi, at1, at2, k1, k2]
   subst hes
   refine ⟨⟨by kernel_rfl, by kernel_rfl⟩, ?_⟩
   exact ⟨j - 1, by omega, i + 1, by omega, wr, p1.symm, p2.symm, hkp⟩
 · obtain rfl : i = ks.length := by omega
   simp [t2, t3, t4, t7, g1, g2, ha1, -alen]
   exact hkp
theorem zib {l m : List Nd} (hwt : Syn.ndsWt l <= 40000) (h : l.map Nd.er = m.map Nd.er) (H : AHeap) :
  Does Tryz.prog G 9 [ndsV l, ndsV m, .bool false] H fun r h => r = .bool true /\ h = H := by
 refine kept (fun _ => rfl) (Does.wf Tryz.call9 fun hw _ => ?_)
 refine zaf Tryz.call9 Tryz.func9 rfl (by simp [Tryz.f9]) ?_
 have hbl := zhn h
 have hll := zc3 l
 have hal : ∀ l : List Nd, alen Tryz.prog 30 (ndsV l) = some (.int .i64 l.length) := fun l => by
  unfold ndsV
  cases l <;> rfl
 have ha1 := hal l
 have hb1 := hal m
 rw [hbl] at hb1
 simp [ha1, hb1, -alen]
 refine zai (fun j T' H' => ∃ i : Nat, i + j = l.length /\ T' 0 = ndsV l /\ T' 1 = ndsV m /\ T' 2 = .bool false /\ T' 7 = .int .i64 i /\ ∀ j x, H.get j = some x -> H'.get j = some x) l.length ⟨0, by simp, by simp, by simp, by simp, by simp, fun y w hy => hy⟩ ?_
 rintro j T H1 ⟨i, hij, t0, t1, t2, t7, hkp⟩ hw1 _
 by_cases hi : i < l.length
 · have hii : (i : Int) < l.length := by omega
   obtain ⟨x, hx⟩ : ∃ x, l[i]? = some x := ⟨_, List.getElem?_eq_getElem hi⟩
   obtain ⟨y, hy, hxy⟩ := map_at h hx
   have p1 := zhl hi
   have p2 := zhl (l := m) (i := i) (by omega)
   have at1 := zf8 hx
   have at2 := zf8 hy
   have n1 := zcL l
   have n2 := zcL m
   have k1 : 6 <= (zal l).length - i * 6 := by omega
   have k2 : 6 <= (zal m).length - i * 6 := by omega
   rw [hbl] at p2
   have hA : alen Tryz.prog 30 (.vsl (zal l) l.length) = some (.int .i64 l.length) := rfl
   have wr : IntKind.i64.wrap ((i : Int) + 1) = ((i + 1 : Nat) : Int) := by rw [IntWalk.i64_in _ (by omega)]; omega
   have w1 := zc2 (List.mem_of_getElem? hx)
   have w2 : x.wt = 1 + (x.ins.length + x.outs.length + x.locals.length + Syn.eqsWt x.eqs) := rfl
   have w3 := zc6 x.eqs
   obtain ⟨xn, xi, xo, xl, xe, xp⟩ := x
   obtain ⟨yn, yi, yo, yl, ye, yp⟩ := y
   simp only [Nd.er, Nd.mk.injEq, and_true] at hxy
   obtain ⟨rfl, hI, hO, hL, hE⟩ := hxy
   simp only at w1 w2 w3
   have dI := fun H => zcH (G := G) (a := xi) (b := yi) (by omega) hI.symm H
   have dO := fun H => zcH (G := G) (a := xo) (b := yo) (by omega) hO.symm H
   have dL := fun H => zcH (G := G) (a := xl) (b := yl) (by omega) hL.symm H
   have hE := hE.symm
   have hel := zhn hE
   have hae : ∀ l : List Eqn, alen Tryz.prog 45 (eqsV l) = some (.int .i64 l.length) := fun l => by
    unfold eqsV
    cases l <;> rfl
   have ha2 := hae xe
   have hb2 := hae ye
   rw [hel] at hb2
   simp only [zah] at at1 at2
   have o1 : ¬ H1.next = H1.next + 1 := by omega
   simp [t0, t1, t2, t7, hii, hi, p1, p2, hA, -alen]
   refine zak [(3, 0), (7, 0), (7, 11)] mixedOrders (by kernel_rfl) ?_
   intro es hes
   simp [t0, t1, t2, t7, hii, hi, p1, p2, at1, at2, k1, k2, zbl, o1, rds, heapF]
   subst hes
   refine ⟨⟨by kernel_rfl, by kernel_rfl⟩, ?_⟩
   refine zaa (dI _) ?_
   rintro _ H2 ⟨rfl, hH⟩
   rw [hH]
   clear hH H2
   simp [o1, t2]
   refine zaa (dO _) ?_
   rintro _ H2 ⟨rfl, hH⟩
   rw [hH]
   clear hH H2
   simp [o1, t2]
   refine zaa (dL _) ?_
   rintro _ H2 ⟨rfl, hH⟩
   rw [hH]
   clear hH H2
   simp [o1, t0, t1, t2, t7, p1, p2, ha2, hb2, -alen]
   refine zai (fun j2 T' H' => ∃ i2 : Nat, i2 + j2 = xe.length /\ T' 0 = .vsl (zal l) l.length /\ T' 1 = .vsl (zal m) l.length /\ T' 2 = .bool false /\ T' 7 = .int .i64 i /\ T' 8 = .ptr H1.next 0 /\ T' 9 = .ptr (H1.next + 1) 0 /\ T' 10 = .int .i64 i2 /\ H'.get H1.next = some (.cells [.str yn, vsV xi, vsV xo, vsV xl, eqsV xe, .int .i64 xp]) /\ H'.get (H1.next + 1) = some (.cells [.str yn, vsV yi, vsV yo, vsV yl, eqsV ye, .int .i64 yp]) /\ ∀ j x, H.get j = some x -> H'.get j = some x) xe.length ?_ ?_
   · refine ⟨0, by simp, by simp [t0, p1], by simp [t1, p2], by simp [t2], by simp [t7], by simp, by simp, by simp, by simp [o1], by simp, fun y w hy => ?_⟩
     have := zac hw1 (hkp y w hy)
     simp [show y ≠ H1.next by omega, show y ≠ H1.next + 1 by omega, hkp y w hy]
   rintro j2 T2 H2 ⟨i2, hij2, u0, u1, u2, u7, u8, u9, u10, g1, g2, hkp2⟩ hw2 _
   by_cases hi2 : i2 < xe.length
   · have hii2 : (i2 : Int) < xe.length := by omega
     obtain ⟨q, hq⟩ : ∃ q, xe[i2]? = some q := ⟨_, List.getElem?_eq_getElem hi2⟩
     obtain ⟨r, hr, hqr⟩ := map_at hE hq
     have b1 := zh0 hi2
     have b2 := zh0 (l := ye) (i := i2) (by omega)
     rw [hel] at b2
     obtain ⟨c0, c1, c2, c3⟩ := zgL hq
     obtain ⟨d0, d1, d2, d3⟩ := zgL hr
     have m1 := zaq xe
     have m2 := zaq ye
     have k3 : 5 <= (zag xe).length - (i2 * 7 + 1) := by omega
     have k4 : 5 <= (zag ye).length - (i2 * 7 + 1) := by omega
     have hA2 : alen Tryz.prog 45 (.vsl (zag xe) xe.length) = some (.int .i64 xe.length) := rfl
     have wr2 : IntKind.i64.wrap ((i2 : Int) + 1) = ((i2 + 1 : Nat) : Int) := by rw [IntWalk.i64_in _ (by omega)]; omega
     have hqw := zd4 (List.mem_of_getElem? hq)
     have hd := zhh (G := G) q.e (by omega) r.e
     obtain ⟨qn, ⟨qo, qm, qk, qa, qs⟩, qp⟩ := q
     obtain ⟨rn, ⟨ro, rm, rk, ra, rs⟩, rp⟩ := r
     simp only [Eqn.er, Eqn.mk.injEq, and_true] at hqr
     obtain ⟨rfl, hqe⟩ := hqr
     have hd' := fun H => hd H hqe
     simp only [zab] at c0 c1 d0 d1 hd'
     rw [b1] at g1
     rw [b2] at g2
     simp [u0, u1, u2, u7, u8, u9, u10, g1, g2, hii2, hi2, hA2, -alen]
     refine zak [(1, 0), (5, 0), (7, 0), (11, 0), (33, 0), (37, 0), (39, 0), (43, 0)] mixedOrders (by kernel_rfl) ?_
     intro es hes
     simp [u2, u8, u9, u10, g1, g2, hii2, hi2, c0, d0]
     simp [u2, u8, u9, u10, g1, g2, hii2, hi2, c1, k3]
     simp [u2, u8, u9, u10, g1, g2, hii2, hi2, d1, k4]
     refine ⟨_, _, hd' _, Nat.le_refl _, ?_⟩
     simp [rds, heapF, u0, u1, u2, u7, u8, u9, u10, g1, g2, hii2, hi2, c0, c1, d0, d1, k3, k4, -alen]
     subst hes
     refine ⟨⟨by kernel_rfl, by kernel_rfl⟩, ?_⟩
     exact ⟨j2 - 1, by omega, i2 + 1, by omega, wr2, b1.symm, b2.symm, hkp2⟩
   · obtain rfl : i2 = xe.length := by omega
     simp [u0, u1, u2, u7, u8, u9, u10, g1, g2, ha2, -alen]
     exact ⟨j - 1, by omega, i + 1, by omega, p1.symm, p2.symm, wr, hkp2⟩
 · obtain rfl : i = l.length := by omega
   simp [t0, t1, t2, t7, ha1, -alen]
   exact hkp
def MaR (nm : Lex.Bs) (r : AV) : Prop := ∃ a b c d e, r = .agg [.str nm, a, b, c, d, e]
theorem main_nil (H : AHeap) : Does Tryz.prog G 12 [.nilsl] H fun r h => MaR [] r /\ ∀ j x, H.get j = some x -> h.get j = some x := by
 refine Does.wf Tryz.call12 fun hw _ => ?_
 refine zaf Tryz.call12 Tryz.func12 rfl (by simp [Tryz.f12]) ?_
 simp
 exact ⟨⟨_, _, _, _, _, rfl⟩, fun j x hj => off1 hw hj⟩
theorem main_A (H : AHeap) : Does Tryz.prog G 12 [ndsV [ndA]] H fun r h => MaR [102] r /\ ∀ j x, H.get j = some x -> h.get j = some x := by
 have hcp := copy_does (G := G) (.mk sVar [120] 0 41 []) (by decide)
 have hn : ndsV [ndA] = .vsl [.str [102], .vsl [.str [120], .int .i64 2, .str [], .bool false, .int .i64 7] 1, .vsl [.str [121], .int .i64 2, .str [], .bool false, .int .i64 24] 1, .nilsl, .vsl [.str [121], .str [118, 97, 114], .str [120], .int .i64 0, .int .i64 41, .nilsl, .int .i64 37] 1, .int .i64 0] 1 := rfl
 unfold CopyD at hcp
 rw [show zas (.mk sVar [120] 0 41 []) = [.str [118, 97, 114], .str [120], .int .i64 0, .int .i64 41, .nilsl] from rfl] at hcp
 rw [hn]
 refine Does.wf Tryz.call12 fun hw _ => ?_
 refine zaf Tryz.call12 Tryz.func12 rfl (by simp [Tryz.f12]) ?_
 have w0 : IntKind.i64.wrap 0 = 0 := by decide
 have p2 : ¬ H.next = H.next + 1 + 1 := by omega
 have q2 : ¬ H.next + 1 + 1 = H.next := by omega
 have p3 : ¬ H.next = H.next + 1 + 1 + 1 := by omega
 have q3 : ¬ H.next + 1 + 1 + 1 = H.next := by omega
 have p4 : ¬ H.next = H.next + 1 + 1 + 1 + 1 := by omega
 have q4 : ¬ H.next + 1 + 1 + 1 + 1 = H.next := by omega
 have p5 : ¬ H.next = H.next + 1 + 1 + 1 + 1 + 1 := by omega
 have q5 : ¬ H.next + 1 + 1 + 1 + 1 + 1 = H.next := by omega
 have p6 : ¬ H.next = H.next + 1 + 1 + 1 + 1 + 1 + 1 := by omega
 have q6 : ¬ H.next + 1 + 1 + 1 + 1 + 1 + 1 = H.next := by omega
 have p7 : ¬ H.next = H.next + 1 + 1 + 1 + 1 + 1 + 1 + 1 := by omega
 have q7 : ¬ H.next + 1 + 1 + 1 + 1 + 1 + 1 + 1 = H.next := by omega
 have p8 : ¬ H.next = H.next + 1 + 1 + 1 + 1 + 1 + 1 + 1 + 1 := by omega
 have q8 : ¬ H.next + 1 + 1 + 1 + 1 + 1 + 1 + 1 + 1 = H.next := by omega
 simp [w0]
 refine zai (fun j T' H' => ∃ (i : Nat), i + j = 1 /\ T' 2 = .ptr H.next 0 /\ T' 3 = .ptr (H.next + 1) 0 /\ T' 37 = .int .i64 1 /\ T' 38 = .int .i64 i /\ H'.get H.next = some (.cells [.str [], .nilsl, .nilsl, .nilsl, .nilsl, .int .i64 0]) /\ H'.get (H.next + 1) = some (.cells [.str [102], .sl (H.next + 1 + 1 + 1) 0 5 1 1 true, .sl (H.next + 1 + 1 + 1 + 1 + 1) 0 5 1 1 true, .sl (H.next + 1 + 1 + 1 + 1 + 1 + 1) 0 5 0 0 false, .sl (H.next + 1 + 1 + 1 + 1 + 1 + 1 + 1 + 1) 0 7 1 1 true, .int .i64 0]) /\ H'.get (H.next + 1 + 1 + 1 + 1 + 1 + 1 + 1 + 1) = some (.cells [.str [121], .str [118, 97, 114], .str [120], .int .i64 0, .int .i64 41, .nilsl, .int .i64 37]) /\ ∀ j x, H.get j = some x -> H'.get j = some x) 1 ?_ ?_
 · refine ⟨0, by simp, by simp, by simp, by simp, by simp, by simp [p2, q2, p3, q3, p4, q4, p5, q5, p6, q6, p7, q7, p8, q8], by simp [p2, q2, p3, q3, p4, q4, p5, q5, p6, q6, p7, q7, p8, q8], by simp [p2, q2, p3, q3, p4, q4, p5, q5, p6, q6, p7, q7, p8, q8], fun y w hy => ?_⟩
   have := zac hw hy
   simp [show y ≠ H.next by omega, show y ≠ H.next + 1 by omega, show y ≠ H.next + 1 + 1 by omega, show y ≠ H.next + 1 + 1 + 1 by omega, show y ≠ H.next + 1 + 1 + 1 + 1 by omega, show y ≠ H.next + 1 + 1 + 1 + 1 + 1 by omega, show y ≠ H.next + 1 + 1 + 1 + 1 + 1 + 1 by omega, show y ≠ H.next + 1 + 1 + 1 + 1 + 1 + 1 + 1 by omega, show y ≠ H.next + 1 + 1 + 1 + 1 + 1 + 1 + 1 + 1 by omega, hy]
 rintro j T H1 ⟨i, hij, t2, t3, t37, t38, g0, g1, g2, hkp⟩ hw1 _
 obtain rfl | rfl : i = 0 \/ i = 1 := by omega
 · simp [t2, t3, t37, t38, g1]
   refine zak [(1, 0), (1, 10), (4, 0), (8, 0)] mixedOrders (by kernel_rfl) ?_
   intro es hes
   simp [t2, t3, t37, t38, g1, g2]
   refine ⟨_, _, hcp _, Nat.le_refl _, ?_⟩
   simp [rds, heapF, t2, t3, t37, t38, g1, g2, p2, q2, p3, q3, p4, q4, p5, q5, p6, q6, p7, q7, p8, q8]
   subst hes
   refine ⟨⟨by kernel_rfl, by kernel_rfl⟩, 0, by omega, 1, by omega, by decide, g0, fun y w hy => ?_⟩
   have := zac hw hy
   rw [if_neg (by omega)]
   exact hkp y w hy
 · simp [t2, t3, t37, t38, g0, g1]
   refine ⟨⟨_, _, _, _, _, rfl⟩, fun y w hy => ?_⟩
   have := zac hw hy
   rw [if_neg (by omega)]
   exact hkp y w hy
theorem awake11 (hG : zdd G) (H : AHeap) : Does Tryz.prog G 5 [] H fun r h => r = .bool true /\ h = H := by
 have hc := fun H => zch (G := G) tA hG (by decide) H
 have hm := fun H => main_A (G := G) H
 have hal : alen Tryz.prog 23 (ndsV [ndA]) = some (.int .i64 1) := rfl
 have hsc := nds_sc [ndA]
 unfold FrcR at hc
 rw [parse_A] at hc
 simp only [tA] at hc
 generalize ndsV [ndA] = N at *
 refine kept (fun _ => rfl) (Does.wf Tryz.call5 fun hw _ => ?_)
 refine zaf Tryz.call5 Tryz.func5 rfl (by simp [Tryz.f5]) ?_
 simp
 refine zaa (hc _) ?_
 rintro r H2 ⟨⟨hr, _⟩, rfl⟩
 obtain rfl := hr tree_A
 simp [hsc, hal, -alen]
 refine zav (hm _) ?_
 rintro r H3 ⟨⟨a, b, c, d, e, rfl⟩, hk3⟩ hw3 _
 simp
 refine zaa (main_nil _) ?_
 rintro r H4 ⟨⟨a, b, c, d, e, rfl⟩, hk4⟩
 simp
 exact fun j x hj => hk4 j x (hk3 j x (off1 hw hj))
end Go.Proofs.YtnejkhhnpbcmaaaGreatDoor
namespace Go.Proofs.YtnejkhhnpbcmaaaGreatDoor
open Go Go.Abs Go.Lex
def zir : Option AV -> Bool
 | some (.vptr [.iface _ _]) => true
 | _ => false
theorem errCell : zir (Gof tab 2) = true := by kernel_rfl
theorem hasErr : zdd (Gof tab) := by
 have h := errCell
 unfold zir at h
 split at h
 · rename_i t v he; exact ⟨t, v, he⟩
 · simp at h
theorem shp_str' {n : Nat} {a : AV} (h : Shp Tryz.prog (n + 1) 9 [a]) : ∃ s, a = .str s /\ s.length <= maxLen := by
 simp only [Shp, Tryz.underlying9] at h
 obtain ⟨s, h, hl⟩ := h
 simp only [List.cons.injEq, and_true] at h
 exact ⟨s, h, hl⟩
theorem shp_str {a : AV} (h : Shp Tryz.prog 8 9 [a]) : ∃ s, a = .str s /\ s.length <= maxLen := shp_str' (n := 7) h
end Go.Proofs.YtnejkhhnpbcmaaaGreatDoor
namespace Go.Proofs.YtnejkhhnpbcmaaaGreatDoor
open Go Go.Abs Go.Lex Go.Syn
theorem shown_run (H : AHeap) (t : Lex.Bs) (ht : t.length < 9223372036854775808) : Does Tryz.prog (Gof tab) 3 [.str t] H fun r _ => r = .bool true := by
 refine zaf Tryz.call3 Tryz.func3 rfl (by simp [Tryz.f3]) ?_
 simp
 refine zaa (awake11 hasErr _) ?_
 rintro _ H0 ⟨rfl, rfl⟩
 by_cases big : 1500 < t.length
 · have : (1500 : Int) < t.length := by omega
   simp [this]
 have big' : ¬ (1500 : Int) < t.length := by omega
 simp [big']
 refine zaa (zch t hasErr ht _) ?_
 rintro r H2 ⟨hr, rfl⟩
 unfold FrcR at hr
 cases hp : Syn.parse t with
 | error x =>
   obtain ⟨e, p⟩ := x
   rw [hp] at hr
   have e2 := parse_nz hp
   have e3 : ((e : Int) != 0) = true := by simp [e2]
   obtain rfl := hr
   simp [e3, e2]
 | ok l =>
   rw [hp] at hr
   obtain ⟨hyes, hno⟩ := hr
   cases hT : zbN l with
   | false =>
     obtain ⟨x, y, rfl, hx⟩ := hno hT
     have hx2 : (x != 0) = true := by simpa using hx
     simp [hx, hx2]
   | true =>
     obtain rfl := hyes hT
     clear hyes hno
     have hsc := nds_sc l
     have hback := Syn.show_back hp
     have hwf := (Syn.parse_wf hp).2
     have hsl := Syn.showT_len hwf
     have hwt := Syn.parse_wt hp
     simp [hsc]
     refine zaa (ze8 hwt _) ?_
     rintro _ H3 ⟨rfl, rfl⟩
     simp [hsc]
     refine zaa (zia hwf hwt _) ?_
     rintro _ H4 ⟨rfl, rfl⟩
     simp [hsc]
     refine zaa (zch _ hasErr (by omega) _) ?_
     rintro r H5 ⟨hr, rfl⟩
     unfold FrcR at hr
     rcases hback with ⟨p, hb⟩ | ⟨l', hb, hbe, hbs⟩
     · rw [hb] at hr
       obtain rfl := hr
       simp
     · rw [hb] at hr
       have hT2 : zbN l' = true := by rw [zje hbe]; exact hT
       obtain rfl := hr.1 hT2
       have hsc2 := nds_sc l'
       have hwt2 := Syn.parse_wt hb
       simp [hsc, hsc2]
       refine zaa (ze8 hwt _) ?_
       rintro _ H6 ⟨rfl, rfl⟩
       simp [hsc, hsc2]
       refine zaa (ze8 hwt2 _) ?_
       rintro _ H7 ⟨rfl, rfl⟩
       simp [hsc, hsc2]
       refine zaa (zib hwt hbe.symm _) ?_
       rintro _ H8 ⟨rfl, rfl⟩
       simp
theorem shown_law (H : AHeap) (a : AV) (ha : Shp Tryz.prog 8 9 [a]) : Does Tryz.prog (Gof tab) 3 [a] H fun r _ => r = .bool true := by
 obtain ⟨s, rfl, hl⟩ := shp_str ha
 exact shown_run H s (by have : maxLen = 9223372036854775807 := rfl; omega)
end Go.Proofs.YtnejkhhnpbcmaaaGreatDoor
