/-
  Own library of this claim, part 4: texts one behind the other.
-/
import Derived.Test.YtnejkhhnpbcmaaaGreatDoorLibFrontShownC
set_option maxRecDepth 100000
set_option maxHeartbeats 8000000
set_option linter.unusedVariables false
set_option linter.unusedSimpArgs false
namespace Go.Proofs.YtnejkhhnpbcmaaaGreatDoor
open Go Go.Abs Go.Lex
variable {G : Nat -> Option AV}
theorem zgc {W : Syn.Ws} (hW : WsOk W) {inn : Syn.P} (hk : Keeps W inn) : (∀ s, s.i < W.length -> (Syn.arguments W inn s).2.i < W.length) /\ ∀ s, s.i < W.length -> mu W (Syn.arguments W inn s).2 <= mu W s := by
 have hL : ∀ (m : Nat) (l : List Syn.Ex) (s : Syn.St), s.i < W.length -> (Syn.argsL W inn m l s).2.i < W.length /\ mu W (Syn.argsL W inn m l s).2 <= mu W s := by
  intro m
  induction m with
  | zero => intro l s hi; exact ⟨hi, Nat.le_refl _⟩
  | succ m ih =>
    intro l s hi
    unfold Syn.argsL
    split
    · rename_i ho
      have hi2 := zb4 hW hi (is_kind ho).2
      have h1 := hk.i { s with i := s.i + 1 } hi2
      have h2 := hk.mu { s with i := s.i + 1 } hi2
      have h3 := ze9 W s
      rcases hx : inn { s with i := s.i + 1 } with ⟨e, s2⟩
      rw [hx] at h1 h2
      simp only at h1 h2 ⊢
      obtain ⟨g1, g2⟩ := ih (l ++ [e]) s2 h1
      exact ⟨g1, Nat.le_trans g2 (Nat.le_trans h2 h3)⟩
    · exact ⟨hi, Nat.le_refl _⟩
 have key : ∀ s, s.i < W.length -> (Syn.arguments W inn s).2.i < W.length /\ mu W (Syn.arguments W inn s).2 <= mu W s := by
  intro s hi
  unfold Syn.arguments
  split
  · rename_i ho
    exact ⟨zb4 hW hi (is_kind ho).2, ze9 W s⟩
  · have h1 := hk.i s hi
    have h2 := hk.mu s hi
    rcases hx : inn s with ⟨e, s1⟩
    rw [hx] at h1 h2
    simp only at h1 h2 ⊢
    obtain ⟨g1, g2⟩ := hL (W.length + 1) [e] s1 h1
    rcases hy : Syn.argsL W inn (W.length + 1) [e] s1 with ⟨l, s2⟩
    rw [hy] at g1 g2
    simp only at g1 g2 ⊢
    exact ⟨za2 hW g1 _, Nat.le_trans (zaU W s2 _) (Nat.le_trans g2 h2)⟩
 exact ⟨fun s hi => (key s hi).1, fun s hi => (key s hi).2⟩
theorem p_rest {W : Syn.Ws} (hW : WsOk W) {p : Nat} {d : Int} {inn mer : Syn.P} (hn : Reads G W p 232 d inn) (hk : Keeps W inn) (hm : Reads G W p 235 d mer) (hkm : Keeps W mer)
  (H : AHeap) (s : Syn.St) (h : PAt H p W s) (hi : s.i < W.length) (w : Nat × Wd) :
  Does Tryz.prog G 233 [.ptr p 0, .agg (zat w.2 w.1), .int .i64 d] H fun r H' => r = .agg (zas (Syn.rest W inn mer w s).1) /\ H' = H.set p (.cells (zaj W (Syn.rest W inn mer w s).2)) := by
 refine PRes.deep h ?_
 refine Does.wf Tryz.call233 fun hw _ => ?_
 have old : ∀ j x, H.get j = some x -> j < H.next := fun j x hj => zac hw hj
 refine zaf Tryz.call233 Tryz.func233 rfl (by simp [Tryz.f233]) ?_
 have hpl := old _ _ h
 have hp1 : p ≠ H.next := by omega
 have hp2 : p ≠ H.next + 1 := by omega
 have hp3 : p ≠ H.next + 1 + 1 := by omega
 have hp4 : p ≠ H.next + 1 + 1 + 1 := by omega
 have hq1 := Ne.symm hp1
 have hq2 := Ne.symm hp2
 have hq3 := Ne.symm hp3
 have hq4 := Ne.symm hp4
 have m1 : H.next ≠ H.next + 1 + 1 := by omega
 have m2 : H.next + 1 + 1 ≠ H.next := by omega
 have m3 : H.next ≠ H.next + 1 + 1 + 1 := by omega
 have m4 : H.next + 1 + 1 + 1 ≠ H.next := by omega
 have m5 : H.next + 1 ≠ H.next + 1 + 1 + 1 := by omega
 have m6 : H.next + 1 + 1 + 1 ≠ H.next + 1 := by omega
 have hP0 : ∀ H' : AHeap, H'.get p = H.get p -> PAt H' p W s := fun H' e => e.trans h
 simp [zat]
 by_cases k3 : w.2.kind = 3
 · have k3' : ((w.2.kind : Nat) : Int) = 3 := by omega
   simp [k3', m1, m2]
   refine zak [(1, 0), (1, 4)] mixedOrders (by kernel_rfl) ?_
   intro es hes
   simp [m1, m2, rds, heapF]
   refine ⟨?_, ?_⟩
   · subst hes
     exact ⟨by kernel_rfl, by kernel_rfl⟩
   have hr : Syn.rest W inn mer w s = (.mk [105, 110, 116] [] w.2.n w.1 [], s) := by simp [Syn.rest, k3]
   rw [hr]
   refine ⟨?_, by simp [hp1, hp2, hp3]; exact h, fun j x hjp hj => ?_⟩
   · exact .old (by simp [AV.idLt, AV.allLt])
   · have := old j x hj
     have k1 : j ≠ H.next := by omega
     have k2 : j ≠ H.next + 1 := by omega
     have k4 : j ≠ H.next + 1 + 1 := by omega
     simp [hj, hjp, k1, k2, k4]
 · have k3' : ¬ ((w.2.kind : Nat) : Int) = 3 := by omega
   simp [k3', m1, m2, zd0]
   by_cases tT : w.2.text = [116, 114, 117, 101]
   · simp [tT, m1, m2]
     have hr : Syn.rest W inn mer w s = (.mk [98, 111, 111, 108] [] 1 w.1 [], s) := by simp [Syn.rest, k3, tT]
     rw [hr]
     refine ⟨?_, by simp [hp1, hp2, hp3]; exact h, fun j x hjp hj => ?_⟩
     · exact .old (by simp [AV.idLt, AV.allLt])
     · have := old j x hj
       have k1 : j ≠ H.next := by omega
       have k2 : j ≠ H.next + 1 := by omega
       have k4 : j ≠ H.next + 1 + 1 := by omega
       simp [hj, hjp, k1, k2, k4]
   simp [tT, m1, m2, zd0]
   by_cases tF : w.2.text = [102, 97, 108, 115, 101]
   · simp [tF, m1, m2]
     have hr : Syn.rest W inn mer w s = (.mk [98, 111, 111, 108] [] 0 w.1 [], s) := by simp [Syn.rest, k3, tT, tF]
     rw [hr]
     refine ⟨?_, by simp [hp1, hp2, hp3]; exact h, fun j x hjp hj => ?_⟩
     · exact .old (by simp [AV.idLt, AV.allLt])
     · have := old j x hj
       have k1 : j ≠ H.next := by omega
       have k2 : j ≠ H.next + 1 := by omega
       have k4 : j ≠ H.next + 1 + 1 := by omega
       simp [hj, hjp, k1, k2, k4]
   simp [tF, m1, m2, zd0]
   by_cases k1 : w.2.kind = 1
   · have k1' : ((w.2.kind : Nat) : Int) = 1 := by omega
     simp [k1', m1, m2]
     refine zak [(1, 0), (1, 4)] mixedOrders (by kernel_rfl) ?_
     intro es hes
     simp [m1, m2, rds, heapF]
     refine ⟨?_, ?_⟩
     · subst hes
       exact ⟨by kernel_rfl, by kernel_rfl⟩
     refine zaa (zbF hW (hP0 _ (by simp [hp1, hp2, hp3])) hi [40]) ?_
     rintro _ H2 ⟨rfl, rfl⟩
     by_cases ho : Syn.is W s [40] = true
     · have hi2 := zb4 hW hi (is_kind ho).2
       simp [Syn.take, ho, hp1, hp2, hp3, hq1, hq2, hq3]
       refine zaa (zjn hW hn hk _ { s with i := s.i + 1 } (by unfold PAt; simp [hp3]) hi2) ?_
       rintro _ H3 ⟨rfl, rfl⟩
       rcases hy : Syn.arguments W inn { s with i := s.i + 1 } with ⟨l, s4⟩
       simp [hp1, hp2, hp3, hq1, hq2, hq3, m1, m2]
       have hr : Syn.rest W inn mer w s = (.mk [99, 97, 108, 108] w.2.text 0 w.1 l, s4) := by simp [Syn.rest, k3, tT, tF, k1, ho, hy]
       rw [hr]
       refine ⟨?_, by simp [hp1, hp2, hp3], fun j x hjp hj => ?_⟩
       · rw [zab]
         exact .old (by simp [AV.idLt, AV.allLt, za1])
       · have := old j x hj
         have k1 : j ≠ H.next := by omega
         have k2 : j ≠ H.next + 1 := by omega
         have k4 : j ≠ H.next + 1 + 1 := by omega
         simp [hj, hjp, k1, k2, k4]
     · have ho' : Syn.is W s [40] = false := by simpa using ho
       simp [Syn.take, ho', hp1, hp2, hp3, hq1, hq2, hq3, m1, m2]
       have hr : Syn.rest W inn mer w s = (.mk [118, 97, 114] w.2.text 0 w.1 [], s) := by simp [Syn.rest, k3, tT, tF, k1, ho']
       rw [hr]
       refine ⟨?_, by simp [hp1, hp2, hp3], fun j x hjp hj => ?_⟩
       · exact .old (by simp [AV.idLt, AV.allLt])
       · have := old j x hj
         have k1 : j ≠ H.next := by omega
         have k2 : j ≠ H.next + 1 := by omega
         have k4 : j ≠ H.next + 1 + 1 := by omega
         simp [hj, hjp, k1, k2, k4]
   have k1' : ¬ ((w.2.kind : Nat) : Int) = 1 := by omega
   simp [k1', m1, m2, zd0]
   by_cases tI : w.2.text = [105, 102]
   · simp [tI, m1, m2]
     refine zak [(1, 0), (1, 5)] mixedOrders (by kernel_rfl) ?_
     intro es hes
     simp [m1, m2, hp1, hp2, hp3, hq1, hq2, hq3]
     refine ⟨_, _, hn _ s (hP0 _ (by simp [hp1, hp2, hp3])) hi, by simp, ?_⟩
     have hiA := hk.i s hi
     rcases hA : inn s with ⟨⟨opA, nmA, nA, poA, ksA⟩, sA⟩
     rw [hA] at hiA
     simp only at hiA
     simp [zab, m1, m2, m3, m4, m5, m6, hp1, hp2, hp3, hp4, hq1, hq2, hq3, hq4, rds, heapF]
     refine ⟨?_, ?_⟩
     · subst hes
       exact ⟨by kernel_rfl, by kernel_rfl⟩
     have c2 : H.next ≠ H.next + 1 + 1 := by omega
     have e2 : H.next + 1 + 1 ≠ H.next := by omega
     have c3 : H.next ≠ H.next + 1 + 1 + 1 := by omega
     have e3 : H.next + 1 + 1 + 1 ≠ H.next := by omega
     have c4 : H.next ≠ H.next + 1 + 1 + 1 + 1 := by omega
     have e4 : H.next + 1 + 1 + 1 + 1 ≠ H.next := by omega
     have c5 : H.next ≠ H.next + 1 + 1 + 1 + 1 + 1 := by omega
     have e5 : H.next + 1 + 1 + 1 + 1 + 1 ≠ H.next := by omega
     have c6 : H.next ≠ H.next + 1 + 1 + 1 + 1 + 1 + 1 := by omega
     have e6 : H.next + 1 + 1 + 1 + 1 + 1 + 1 ≠ H.next := by omega
     have c7 : H.next ≠ H.next + 1 + 1 + 1 + 1 + 1 + 1 + 1 := by omega
     have e7 : H.next + 1 + 1 + 1 + 1 + 1 + 1 + 1 ≠ H.next := by omega
     have c8 : H.next ≠ H.next + 1 + 1 + 1 + 1 + 1 + 1 + 1 + 1 := by omega
     have e8 : H.next + 1 + 1 + 1 + 1 + 1 + 1 + 1 + 1 ≠ H.next := by omega
     have c9 : H.next ≠ H.next + 1 + 1 + 1 + 1 + 1 + 1 + 1 + 1 + 1 := by omega
     have e9 : H.next + 1 + 1 + 1 + 1 + 1 + 1 + 1 + 1 + 1 ≠ H.next := by omega
     have c10 : H.next ≠ H.next + 1 + 1 + 1 + 1 + 1 + 1 + 1 + 1 + 1 + 1 := by omega
     have e10 : H.next + 1 + 1 + 1 + 1 + 1 + 1 + 1 + 1 + 1 + 1 ≠ H.next := by omega
     have pp5 : p ≠ H.next + 1 + 1 + 1 + 1 + 1 := by omega
     have qq5 := Ne.symm pp5
     have pp6 : p ≠ H.next + 1 + 1 + 1 + 1 + 1 + 1 := by omega
     have qq6 := Ne.symm pp6
     have pp7 : p ≠ H.next + 1 + 1 + 1 + 1 + 1 + 1 + 1 := by omega
     have qq7 := Ne.symm pp7
     have pp8 : p ≠ H.next + 1 + 1 + 1 + 1 + 1 + 1 + 1 + 1 := by omega
     have qq8 := Ne.symm pp8
     have pp9 : p ≠ H.next + 1 + 1 + 1 + 1 + 1 + 1 + 1 + 1 + 1 := by omega
     have qq9 := Ne.symm pp9
     have pp10 : p ≠ H.next + 1 + 1 + 1 + 1 + 1 + 1 + 1 + 1 + 1 + 1 := by omega
     have qq10 := Ne.symm pp10
     have pp4 : p ≠ H.next + 1 + 1 + 1 + 1 := by omega
     have qq4 := Ne.symm pp4
     refine zaa (zaI hW (W := W) (s := sA) (by unfold PAt; simp [hp1, hp2, hp3, hp4, hq1, hq2, hq3, hq4, c2, e2, c3, e3, c4, e4, c5, e5, c6, e6, c7, e7, c8, e8, c9, e9, c10, e10, pp4, qq4, pp5, qq5, pp6, qq6, pp7, qq7, pp8, qq8, pp9, qq9, pp10, qq10]) hiA [[116, 104, 101, 110]] (H.next + 1 + 1 + 1 + 1 + 1) 1 false (by simp) (by omega) (by simp)) ?_
     rintro _ H2 ⟨rfl, rfl⟩
     have hiT := ze4 hW [[116, 104, 101, 110]] hiA
     obtain ⟨sT, hsT⟩ : ∃ x, x = Syn.want W sA [[116, 104, 101, 110]] := ⟨_, rfl⟩
     rw [<- hsT] at hiT ⊢
     simp [hp1, hp2, hp3, hp4, hq1, hq2, hq3, hq4, c2, e2, c3, e3, c4, e4, c5, e5, c6, e6, c7, e7, c8, e8, c9, e9, c10, e10, pp4, qq4, pp5, qq5, pp6, qq6, pp7, qq7, pp8, qq8, pp9, qq9, pp10, qq10]
     refine zak [(1, 0), (1, 5)] mixedOrders (by kernel_rfl) ?_
     intro es hes
     simp [hp1, hp2, hp3, hp4, hq1, hq2, hq3, hq4, c2, e2, c3, e3, c4, e4, c5, e5, c6, e6, c7, e7, c8, e8, c9, e9, c10, e10, pp4, qq4, pp5, qq5, pp6, qq6, pp7, qq7, pp8, qq8, pp9, qq9, pp10, qq10]
     refine ⟨_, _, hn _ sT (by unfold PAt; simp [hp1, hp2, hp3, hp4, hq1, hq2, hq3, hq4, c2, e2, c3, e3, c4, e4, c5, e5, c6, e6, c7, e7, c8, e8, c9, e9, c10, e10, pp4, qq4, pp5, qq5, pp6, qq6, pp7, qq7, pp8, qq8, pp9, qq9, pp10, qq10]) hiT, by simp, ?_⟩
     have hiB := hk.i sT hiT
     rcases hB : inn sT with ⟨⟨opB, nmB, nB, poB, ksB⟩, sB⟩
     rw [hB] at hiB
     simp only at hiB
     simp [zab, hp1, hp2, hp3, hp4, hq1, hq2, hq3, hq4, c2, e2, c3, e3, c4, e4, c5, e5, c6, e6, c7, e7, c8, e8, c9, e9, c10, e10, pp4, qq4, pp5, qq5, pp6, qq6, pp7, qq7, pp8, qq8, pp9, qq9, pp10, qq10, rds, heapF]
     refine ⟨?_, ?_⟩
     · subst hes
       exact ⟨by kernel_rfl, by kernel_rfl⟩
     refine zaa (zaI hW (W := W) (s := sB) (by unfold PAt; simp [hp1, hp2, hp3, hp4, hq1, hq2, hq3, hq4, c2, e2, c3, e3, c4, e4, c5, e5, c6, e6, c7, e7, c8, e8, c9, e9, c10, e10, pp4, qq4, pp5, qq5, pp6, qq6, pp7, qq7, pp8, qq8, pp9, qq9, pp10, qq10]) hiB [[101, 108, 115, 101]] (H.next + 1 + 1 + 1 + 1 + 1 + 1 + 1 + 1) 1 false (by simp) (by omega) (by simp)) ?_
     rintro _ H2 ⟨rfl, rfl⟩
     have hiE := ze4 hW [[101, 108, 115, 101]] hiB
     obtain ⟨sE, hsE⟩ : ∃ x, x = Syn.want W sB [[101, 108, 115, 101]] := ⟨_, rfl⟩
     rw [<- hsE] at hiE ⊢
     simp [hp1, hp2, hp3, hp4, hq1, hq2, hq3, hq4, c2, e2, c3, e3, c4, e4, c5, e5, c6, e6, c7, e7, c8, e8, c9, e9, c10, e10, pp4, qq4, pp5, qq5, pp6, qq6, pp7, qq7, pp8, qq8, pp9, qq9, pp10, qq10]
     refine zak [(1, 0), (1, 5)] mixedOrders (by kernel_rfl) ?_
     intro es hes
     simp [hp1, hp2, hp3, hp4, hq1, hq2, hq3, hq4, c2, e2, c3, e3, c4, e4, c5, e5, c6, e6, c7, e7, c8, e8, c9, e9, c10, e10, pp4, qq4, pp5, qq5, pp6, qq6, pp7, qq7, pp8, qq8, pp9, qq9, pp10, qq10]
     refine ⟨_, _, hn _ sE (by unfold PAt; simp [hp1, hp2, hp3, hp4, hq1, hq2, hq3, hq4, c2, e2, c3, e3, c4, e4, c5, e5, c6, e6, c7, e7, c8, e8, c9, e9, c10, e10, pp4, qq4, pp5, qq5, pp6, qq6, pp7, qq7, pp8, qq8, pp9, qq9, pp10, qq10]) hiE, by simp, ?_⟩
     have hiC := hk.i sE hiE
     rcases hC : inn sE with ⟨⟨opC, nmC, nC, poC, ksC⟩, sC⟩
     rw [hC] at hiC
     simp only at hiC
     simp [zab, hp1, hp2, hp3, hp4, hq1, hq2, hq3, hq4, c2, e2, c3, e3, c4, e4, c5, e5, c6, e6, c7, e7, c8, e8, c9, e9, c10, e10, pp4, qq4, pp5, qq5, pp6, qq6, pp7, qq7, pp8, qq8, pp9, qq9, pp10, qq10, rds, heapF]
     refine ⟨?_, ?_⟩
     · subst hes
       exact ⟨by kernel_rfl, by kernel_rfl⟩
     have hT1 : Syn.want1 W sA [116, 104, 101, 110] = sT := hsT.symm
     have hE1 : Syn.want1 W sB [101, 108, 115, 101] = sE := hsE.symm
     have hr : Syn.rest W inn mer w s = (.mk w.2.text [] 0 w.1 [.mk opA nmA nA poA ksA, .mk opB nmB nB poB ksB, .mk opC nmC nC poC ksC], sC) := by simp [Syn.rest, k3, tT, tF, k1, tI, hA, hT1, hB, hE1, hC]
     rw [hr]
     refine ⟨?_, by simp [hp1, hp2, hp3, hp4, hq1, hq2, hq3, hq4, c2, e2, c3, e3, c4, e4, c5, e5, c6, e6, c7, e7, c8, e8, c9, e9, c10, e10, pp4, qq4, pp5, qq5, pp6, qq6, pp7, qq7, pp8, qq8, pp9, qq9, pp10, qq10], fun j x hjp hj => ?_⟩
     · rw [zab, tI]
       refine .agg (.cons (.old rfl) (.cons (.old rfl) (.cons (.old rfl) (.cons (.old rfl) (.cons ?_ .nil)))))
       have hkk : kidsV [Syn.Ex.mk opA nmA nA poA ksA, Syn.Ex.mk opB nmB nB poB ksB, Syn.Ex.mk opC nmC nC poC ksC] = .vsl (zae [Syn.Ex.mk opA nmA nA poA ksA, Syn.Ex.mk opB nmB nB poB ksB, Syn.Ex.mk opC nmC nC poC ksC]) 3 := rfl
       rw [hkk]
       refine .sl (cs := zae [Syn.Ex.mk opA nmA nA poA ksA, Syn.Ex.mk opB nmB nB poB ksB, Syn.Ex.mk opC nmC nC poC ksC]) (by omega) ?_ ?_
       · simp [zae, zab, hp1, hp2, hp3, hp4, hq1, hq2, hq3, hq4, c2, e2, c3, e3, c4, e4, c5, e5, c6, e6, c7, e7, c8, e8, c9, e9, c10, e10, pp4, qq4, pp5, qq5, pp6, qq6, pp7, qq7, pp8, qq8, pp9, qq9, pp10, qq10]
       · simp only [zae, zab]
         exact .old (by simp [AV.allLt, AV.idLt, za1])
     · have := old j x hj
       have j0 : j ≠ H.next := by omega
       have j1 : j ≠ H.next + 1 := by omega
       have j2 : j ≠ H.next + 1 + 1 := by omega
       have j3 : j ≠ H.next + 1 + 1 + 1 := by omega
       have j4 : j ≠ H.next + 1 + 1 + 1 + 1 := by omega
       have j5 : j ≠ H.next + 1 + 1 + 1 + 1 + 1 := by omega
       have j6 : j ≠ H.next + 1 + 1 + 1 + 1 + 1 + 1 := by omega
       have j7 : j ≠ H.next + 1 + 1 + 1 + 1 + 1 + 1 + 1 := by omega
       have j8 : j ≠ H.next + 1 + 1 + 1 + 1 + 1 + 1 + 1 + 1 := by omega
       have j9 : j ≠ H.next + 1 + 1 + 1 + 1 + 1 + 1 + 1 + 1 + 1 := by omega
       have j10 : j ≠ H.next + 1 + 1 + 1 + 1 + 1 + 1 + 1 + 1 + 1 + 1 := by omega
       simp [hj, hjp, j0, j1, j2, j3, j4, j5, j6, j7, j8, j9, j10]
   · simp [tI, m1, m2, zd0]
     refine zaa (zek hW (hP0 _ (by simp [hp1, hp2, hp3])) hi) ?_
     rintro _ H2 ⟨rfl, rfl⟩
     have hiN := name_ok hW hi
     rcases hN : Syn.name W s with ⟨nmN, sN⟩
     rw [hN] at hiN
     simp only at hiN
     simp [hp1, hp2, hp3, hq1, hq2, hq3, m1, m2]
     refine zaa (hm _ sN (by unfold PAt; simp [hp3]) hiN) ?_
     rintro _ H2 ⟨rfl, rfl⟩
     have hiA := hkm.i sN hiN
     rcases hA : mer sN with ⟨⟨opA, nmA, nA, poA, ksA⟩, sA⟩
     rw [hA] at hiA
     simp only at hiA
     simp
     refine zaa (hm _ sA (by unfold PAt; simp) hiA) ?_
     rintro _ H2 ⟨rfl, rfl⟩
     rcases hB : mer sA with ⟨⟨opB, nmB, nB, poB, ksB⟩, sB⟩
     simp [zab, m1, m2, m3, m4, m5, m6, hp1, hp2, hp3, hp4, hq1, hq2, hq3, hq4]
     have hr : Syn.rest W inn mer w s = (.mk w.2.text nmN 0 w.1 [.mk opA nmA nA poA ksA, .mk opB nmB nB poB ksB], sB) := by simp [Syn.rest, k3, tT, tF, k1, tI, hN, hA, hB]
     rw [hr]
     refine ⟨?_, by simp [hp1, hp2, hp3, hp4], fun j x hjp hj => ?_⟩
     · rw [zab]
       refine .agg (.cons (.old rfl) (.cons (.old rfl) (.cons (.old rfl) (.cons (.old rfl) (.cons ?_ .nil)))))
       have hkk : kidsV [Syn.Ex.mk opA nmA nA poA ksA, Syn.Ex.mk opB nmB nB poB ksB] = .vsl (zae [Syn.Ex.mk opA nmA nA poA ksA, Syn.Ex.mk opB nmB nB poB ksB]) 2 := rfl
       rw [hkk]
       refine .sl (cs := zae [Syn.Ex.mk opA nmA nA poA ksA, Syn.Ex.mk opB nmB nB poB ksB]) (by omega) ?_ ?_
       · simp [zae, zab, m1, m2, m3, m4, m5, m6, hp4, hq4]
       · simp only [zae, zab]
         exact .old (by simp [AV.allLt, AV.idLt, za1])
     · have := old j x hj
       have k1 : j ≠ H.next := by omega
       have k2 : j ≠ H.next + 1 := by omega
       have k4 : j ≠ H.next + 1 + 1 := by omega
       have k5 : j ≠ H.next + 1 + 1 + 1 := by omega
       simp [hj, hjp, k1, k2, k4, k5]
def Kp (W : Syn.Ws) (s s' : Syn.St) : Prop := s.i < W.length -> s'.i < W.length /\ mu W s' <= mu W s
theorem Kp.refl {W : Syn.Ws} (s : Syn.St) : Kp W s s := fun h => ⟨h, Nat.le_refl _⟩
theorem Kp.trans {W : Syn.Ws} {a b c : Syn.St} (h : Kp W a b) (g : Kp W b c) : Kp W a c := fun hi => by
 obtain ⟨h1, h2⟩ := h hi
 obtain ⟨g1, g2⟩ := g h1
 exact ⟨g1, Nat.le_trans g2 h2⟩
theorem zht {W : Syn.Ws} {e : Nat} (he : e ≠ 0) (s : Syn.St) : Kp W s (Syn.fail W e s) := fun hi => ⟨by rw [zgI]; exact hi, zhm W he s⟩
theorem zaP {W : Syn.Ws} (hW : WsOk W) (s : Syn.St) (t : Bs) : Kp W s (Syn.want1 W s t) := fun hi => ⟨za2 hW hi t, zaU W s t⟩
theorem zfG {W : Syn.Ws} (hW : WsOk W) (s : Syn.St) (t : Bs) : Kp W s (Syn.take W s t).2 := fun hi => ⟨zhb hW hi t, take_mu W s t⟩
theorem zcy {W : Syn.Ws} (hW : WsOk W) (s : Syn.St) : Kp W s (Syn.name W s).2 := fun hi => ⟨name_ok hW hi, name_mu W s⟩
theorem zio {W : Syn.Ws} (b : Bool) (s : Syn.St) : Kp W s (Syn.deeper W b s).2 := fun hi => ⟨by rw [zcS]; exact hi, ziz W b s⟩
theorem zeA {W : Syn.Ws} (hW : WsOk W) {s : Syn.St} (hk : (Syn.at_ W s).2.kind ≠ 0) : Kp W s (Syn.part W s) := fun hi => ⟨zcI hW hi hk, part_mu' s⟩
theorem zcx {W : Syn.Ws} (hW : WsOk W) {s : Syn.St} (hk : (Syn.at_ W s).2.kind ≠ 0) : Kp W s { s with i := s.i + 1 } := fun hi => ⟨zb4 hW hi hk, ze9 W s⟩
theorem Keeps.kp {W : Syn.Ws} {g : Syn.P} (h : Keeps W g) (s : Syn.St) : Kp W s (g s).2 := fun hi => ⟨h.i s hi, h.mu s hi⟩
theorem zbB {W : Syn.Ws} {g : Syn.P} (h : ∀ s, Kp W s (g s).2) : Keeps W g := ⟨fun s hi => (h s hi).1, fun s hi => (h s hi).2⟩
theorem zdO {W : Syn.Ws} (hW : WsOk W) {next below : Syn.P} (t : Bs) (b : Bool) (hn : Keeps W next) (hb : Keeps W below) : Keeps W (Syn.right W next t b below) := zbB fun s => by
 unfold Syn.right
 have h1 := hn.kp s
 rcases hx : next s with ⟨e, s1⟩
 rw [hx] at h1
 simp only at h1 ⊢
 split
 · rename_i ht
   have h2 := zeA hW (is_kind ht).2
   have h3 := zio (W := W) b (Syn.part W s1)
   rcases hd : Syn.deeper W b (Syn.part W s1) with ⟨c, s2⟩
   rw [hd] at h3
   simp only at h3 ⊢
   cases c
   · exact h1.trans (h2.trans h3)
   · exact h1.trans (h2.trans (h3.trans (hb.kp s2)))
 · exact h1
theorem zbD {W : Syn.Ws} (hW : WsOk W) {next : Syn.P} (ts : List Bs) (hn : Keeps W next) : Keeps W (Syn.row W next ts) := zbB fun s => by
 have hL : ∀ (m : Nat) (e : Syn.Ex) (s : Syn.St), Kp W s (Syn.rowL W next ts m e s).2 := by
  intro m
  induction m with
  | zero => intro e s; exact Kp.refl s
  | succ m ih =>
    intro e s
    unfold Syn.rowL
    split
    · rename_i ho
      have h2 := zeA hW (zcq ho).2
      have h3 := hn.kp (Syn.part W s)
      rcases hx : next (Syn.part W s) with ⟨e2, s2⟩
      rw [hx] at h3
      simp only at h3 ⊢
      exact h2.trans (h3.trans (ih _ _))
    · exact Kp.refl s
 unfold Syn.row
 have h1 := hn.kp s
 rcases hx : next s with ⟨e, s1⟩
 rw [hx] at h1
 simp only at h1 ⊢
 exact h1.trans (hL _ _ _)
theorem zi8 {W : Syn.Ws} (hW : WsOk W) {next : Syn.P} (hn : Keeps W next) : Keeps W (Syn.cmp W next) := zbB fun s => by
 unfold Syn.cmp
 have h1 := hn.kp s
 rcases hx : next s with ⟨e, s1⟩
 rw [hx] at h1
 simp only at h1 ⊢
 split
 · rename_i ho
   have h2 := zeA hW (zcq ho).2
   have h3 := hn.kp (Syn.part W s1)
   rcases hy : next (Syn.part W s1) with ⟨e2, s2⟩
   rw [hy] at h3
   simp only at h3 ⊢
   exact h1.trans (h2.trans h3)
 · exact h1
theorem zgu {W : Syn.Ws} (hW : WsOk W) {next : Syn.P} (hn : Keeps W next) : Keeps W (Syn.when_ W next) := zbB fun s => by
 have hL : ∀ (m : Nat) (e : Syn.Ex) (s : Syn.St), Kp W s (Syn.whenL W m e s).2 := by
  intro m
  induction m with
  | zero => intro e s; exact Kp.refl s
  | succ m ih =>
    intro e s
    unfold Syn.whenL
    split
    · rename_i ho
      have h2 := zeA hW (is_kind ho).2
      have h3 := zfG hW (Syn.part W s) [110, 111, 116]
      rcases hx : Syn.take W (Syn.part W s) [110, 111, 116] with ⟨b, s2⟩
      rw [hx] at h3
      have h4 := zcy hW s2
      rcases hy : Syn.name W s2 with ⟨nm, s3⟩
      rw [hy] at h4
      simp only at h3 h4 ⊢
      rw [hy]
      exact h2.trans (h3.trans (h4.trans (ih _ _)))
    · exact Kp.refl s
 unfold Syn.when_
 have h1 := hn.kp s
 rcases hx : next s with ⟨e, s1⟩
 rw [hx] at h1
 simp only at h1 ⊢
 exact h1.trans (hL _ _ _)
theorem un_keeps {W : Syn.Ws} (hW : WsOk W) {prim below : Syn.P} (b : Bool) (hn : Keeps W prim) (hb : Keeps W below) : Keeps W (Syn.un W prim b below) := zbB fun s => by
 unfold Syn.un
 split
 · rename_i ho
   have h2 := zeA hW (zcq ho).2
   have h3 := zio (W := W) b (Syn.part W s)
   rcases hd : Syn.deeper W b (Syn.part W s) with ⟨c, s2⟩
   rw [hd] at h3
   simp only at h3 ⊢
   cases c
   · exact h2.trans h3
   · exact h2.trans (h3.trans (hb.kp s2))
 · exact hn.kp s
theorem rest_keeps {W : Syn.Ws} (hW : WsOk W) {inn mer : Syn.P} (hn : Keeps W inn) (hm : Keeps W mer) (w : Nat × Wd) (s : Syn.St) : Kp W s (Syn.rest W inn mer w s).2 := by
 unfold Syn.rest
 split
 · exact Kp.refl s
 split
 · exact Kp.refl s
 split
 · exact Kp.refl s
 split
 · split
   · rename_i ho
     have h1 := zcx hW (is_kind ho).2
     obtain ⟨g1, g2⟩ := zgc hW hn
     exact h1.trans fun hi => ⟨g1 _ hi, g2 _ hi⟩
   · exact Kp.refl s
 split
 · have h1 := hn.kp s
   rcases hA : inn s with ⟨a, sA⟩
   rw [hA] at h1
   simp only at h1 ⊢
   have h2 := zaP hW sA [116, 104, 101, 110]
   have h3 := hn.kp (Syn.want1 W sA [116, 104, 101, 110])
   rcases hB : inn (Syn.want1 W sA [116, 104, 101, 110]) with ⟨b, sB⟩
   rw [hB] at h3
   simp only at h3 ⊢
   have h4 := zaP hW sB [101, 108, 115, 101]
   have h5 := hn.kp (Syn.want1 W sB [101, 108, 115, 101])
   exact h1.trans (h2.trans (h3.trans (h4.trans h5)))
 · have h1 := zcy hW s
   rcases hN : Syn.name W s with ⟨nm, sN⟩
   rw [hN] at h1
   simp only at h1 ⊢
   have h2 := hm.kp sN
   rcases hA : mer sN with ⟨a, sA⟩
   rw [hA] at h2
   simp only at h2 ⊢
   exact h1.trans (h2.trans (hm.kp sA))
theorem zg0 {W : Syn.Ws} (hW : WsOk W) {inn mer : Syn.P} (hn : Keeps W inn) (hm : Keeps W mer) : Keeps W (Syn.prim W inn mer) := zbB fun s => by
 unfold Syn.prim
 simp only
 split
 · exact Kp.refl s
 split
 · rename_i ho
   have h1 := zcx hW (is_kind ho).2
   have h2 := hn.kp { s with i := s.i + 1 }
   exact h1.trans (h2.trans (zaP hW _ _))
 split
 · rename_i hk
   have hk0 : (Syn.at_ W s).2.kind ≠ 0 := by
    rcases hk with h | h | h
    · omega
    · omega
    · exact (zcq h).2
   exact (zeA hW hk0).trans (rest_keeps hW hn hm _ _)
 · exact zht (by omega) s
theorem p_or {W : Syn.Ws} (hW : WsOk W) {p : Nat} {d : Int} {next : Syn.P} (hn : Reads G W p 137 d next) (hk : Keeps W next) : Reads G W p 102 d (Syn.row W next [[111, 114], [120, 111, 114]]) := by
 intro H s h hi
 refine PRes.deep h ?_
 refine Does.wf Tryz.call102 fun hw _ => ?_
 have old : ∀ j x, H.get j = some x -> j < H.next := fun j x hj => zac hw hj
 refine zaf Tryz.call102 Tryz.func102 rfl (by simp [Tryz.f102]) ?_
 have hpl := old _ _ h
 have hp1 : p ≠ H.next := by omega
 have hp2 : p ≠ H.next + 1 := by omega
 have hq1 := Ne.symm hp1
 have hq2 := Ne.symm hp2
 simp
 refine zaa (p_row hW hn hk _ s (by unfold PAt; simp [hp1, hp2]; exact h) hi [[111, 114], [120, 111, 114]] (H.next + 1) 2 false (by simp) (by omega) (by simp)) ?_
 rintro _ H1 ⟨rfl, rfl⟩
 rcases hx : (Syn.row W next [[111, 114], [120, 111, 114]]) s with ⟨⟨op, nm, n, po, ks⟩, s1⟩
 simp [zab, hp1, hp2, hq1, hq2]
 refine ⟨?_, by simp [hp1, hp2], fun j x hjp hj => ?_⟩
 · simp only
   rw [zab]
   exact .old (by simp [AV.idLt, AV.allLt, za1])
 · have := old j x hj
   have k1 : j ≠ H.next := by omega
   have k2 : j ≠ H.next + 1 := by omega
   simp [hj, hjp, k1, k2]
theorem p_and {W : Syn.Ws} (hW : WsOk W) {p : Nat} {d : Int} {next : Syn.P} (hn : Reads G W p 167 d next) (hk : Keeps W next) : Reads G W p 137 d (Syn.row W next [[97, 110, 100]]) := by
 intro H s h hi
 refine PRes.deep h ?_
 refine Does.wf Tryz.call137 fun hw _ => ?_
 have old : ∀ j x, H.get j = some x -> j < H.next := fun j x hj => zac hw hj
 refine zaf Tryz.call137 Tryz.func137 rfl (by simp [Tryz.f137]) ?_
 have hpl := old _ _ h
 have hp1 : p ≠ H.next := by omega
 have hp2 : p ≠ H.next + 1 := by omega
 have hq1 := Ne.symm hp1
 have hq2 := Ne.symm hp2
 simp
 refine zaa (p_row hW hn hk _ s (by unfold PAt; simp [hp1, hp2]; exact h) hi [[97, 110, 100]] (H.next + 1) 1 false (by simp) (by omega) (by simp)) ?_
 rintro _ H1 ⟨rfl, rfl⟩
 rcases hx : (Syn.row W next [[97, 110, 100]]) s with ⟨⟨op, nm, n, po, ks⟩, s1⟩
 simp [zab, hp1, hp2, hq1, hq2]
 refine ⟨?_, by simp [hp1, hp2], fun j x hjp hj => ?_⟩
 · simp only
   rw [zab]
   exact .old (by simp [AV.idLt, AV.allLt, za1])
 · have := old j x hj
   have k1 : j ≠ H.next := by omega
   have k2 : j ≠ H.next + 1 := by omega
   simp [hj, hjp, k1, k2]
theorem p_add {W : Syn.Ws} (hW : WsOk W) {p : Nat} {d : Int} {next : Syn.P} (hn : Reads G W p 209 d next) (hk : Keeps W next) : Reads G W p 196 d (Syn.row W next [[43], [45]]) := by
 intro H s h hi
 refine PRes.deep h ?_
 refine Does.wf Tryz.call196 fun hw _ => ?_
 have old : ∀ j x, H.get j = some x -> j < H.next := fun j x hj => zac hw hj
 refine zaf Tryz.call196 Tryz.func196 rfl (by simp [Tryz.f196]) ?_
 have hpl := old _ _ h
 have hp1 : p ≠ H.next := by omega
 have hp2 : p ≠ H.next + 1 := by omega
 have hq1 := Ne.symm hp1
 have hq2 := Ne.symm hp2
 simp
 refine zaa (p_row hW hn hk _ s (by unfold PAt; simp [hp1, hp2]; exact h) hi [[43], [45]] (H.next + 1) 2 false (by simp) (by omega) (by simp)) ?_
 rintro _ H1 ⟨rfl, rfl⟩
 rcases hx : (Syn.row W next [[43], [45]]) s with ⟨⟨op, nm, n, po, ks⟩, s1⟩
 simp [zab, hp1, hp2, hq1, hq2]
 refine ⟨?_, by simp [hp1, hp2], fun j x hjp hj => ?_⟩
 · simp only
   rw [zab]
   exact .old (by simp [AV.idLt, AV.allLt, za1])
 · have := old j x hj
   have k1 : j ≠ H.next := by omega
   have k2 : j ≠ H.next + 1 := by omega
   simp [hj, hjp, k1, k2]
theorem p_mul {W : Syn.Ws} (hW : WsOk W) {p : Nat} {d : Int} {next : Syn.P} (hn : Reads G W p 214 d next) (hk : Keeps W next) : Reads G W p 209 d (Syn.row W next [[42], [47], [109, 111, 100]]) := by
 intro H s h hi
 refine PRes.deep h ?_
 refine Does.wf Tryz.call209 fun hw _ => ?_
 have old : ∀ j x, H.get j = some x -> j < H.next := fun j x hj => zac hw hj
 refine zaf Tryz.call209 Tryz.func209 rfl (by simp [Tryz.f209]) ?_
 have hpl := old _ _ h
 have hp1 : p ≠ H.next := by omega
 have hp2 : p ≠ H.next + 1 := by omega
 have hq1 := Ne.symm hp1
 have hq2 := Ne.symm hp2
 simp
 refine zaa (p_row hW hn hk _ s (by unfold PAt; simp [hp1, hp2]; exact h) hi [[42], [47], [109, 111, 100]] (H.next + 1) 3 false (by simp) (by omega) (by simp)) ?_
 rintro _ H1 ⟨rfl, rfl⟩
 rcases hx : (Syn.row W next [[42], [47], [109, 111, 100]]) s with ⟨⟨op, nm, n, po, ks⟩, s1⟩
 simp [zab, hp1, hp2, hq1, hq2]
 refine ⟨?_, by simp [hp1, hp2], fun j x hjp hj => ?_⟩
 · simp only
   rw [zab]
   exact .old (by simp [AV.idLt, AV.allLt, za1])
 · have := old j x hj
   have k1 : j ≠ H.next := by omega
   have k2 : j ≠ H.next + 1 := by omega
   simp [hj, hjp, k1, k2]
theorem p_fby {W : Syn.Ws}  {p : Nat} {d : Int} {next : Syn.P} (hn : zgX G W p 217 [102, 98, 121] d next) : Reads G W p 214 d (next) := by
 intro H s h hi
 refine PRes.deep h ?_
 refine Does.wf Tryz.call214 fun hw _ => ?_
 have old : ∀ j x, H.get j = some x -> j < H.next := fun j x hj => zac hw hj
 refine zaf Tryz.call214 Tryz.func214 rfl (by simp [Tryz.f214]) ?_
 have hpl := old _ _ h
 have hp1 : p ≠ H.next := by omega
 have hp2 : p ≠ H.next + 1 := by omega
 have hq1 := Ne.symm hp1
 have hq2 := Ne.symm hp2
 simp
 refine zaa (hn _ s (by unfold PAt; simp [hp1]; exact h) hi) ?_
 rintro _ H1 ⟨rfl, rfl⟩
 rcases hx : (next) s with ⟨⟨op, nm, n, po, ks⟩, s1⟩
 simp [zab, hp1, hp2, hq1, hq2]
 refine ⟨?_, by simp [hp1, hp2], fun j x hjp hj => ?_⟩
 · simp only
   rw [zab]
   exact .old (by simp [AV.idLt, AV.allLt, za1])
 · have := old j x hj
   have k1 : j ≠ H.next := by omega
   have k2 : j ≠ H.next + 1 := by omega
   simp [hj, hjp, k1, k2]
theorem p_expr {W : Syn.Ws}  {p : Nat} {d : Int} {next : Syn.P} (hn : zgX G W p 102 [45, 62] d next) : Reads G W p 54 d (next) := by
 intro H s h hi
 refine PRes.deep h ?_
 refine Does.wf Tryz.call54 fun hw _ => ?_
 have old : ∀ j x, H.get j = some x -> j < H.next := fun j x hj => zac hw hj
 refine zaf Tryz.call54 Tryz.func54 rfl (by simp [Tryz.f54]) ?_
 have hpl := old _ _ h
 have hp1 : p ≠ H.next := by omega
 have hp2 : p ≠ H.next + 1 := by omega
 have hq1 := Ne.symm hp1
 have hq2 := Ne.symm hp2
 simp
 refine zaa (hn _ s (by unfold PAt; simp [hp1]; exact h) hi) ?_
 rintro _ H1 ⟨rfl, rfl⟩
 rcases hx : (next) s with ⟨⟨op, nm, n, po, ks⟩, s1⟩
 simp [zab, hp1, hp2, hq1, hq2]
 refine ⟨?_, by simp [hp1, hp2], fun j x hjp hj => ?_⟩
 · simp only
   rw [zab]
   exact .old (by simp [AV.idLt, AV.allLt, za1])
 · have := old j x hj
   have k1 : j ≠ H.next := by omega
   have k2 : j ≠ H.next + 1 := by omega
   simp [hj, hjp, k1, k2]
theorem p_prim {W : Syn.Ws} (hW : WsOk W) {p : Nat} {d : Int} {inn mer : Syn.P} (hn : Reads G W p 232 d inn) (hk : Keeps W inn) (hm : Reads G W p 235 d mer) (hkm : Keeps W mer) :
  Reads G W p 229 d (Syn.prim W inn mer) := by
 intro H s h hi
 refine PRes.deep h ?_
 refine Does.wf Tryz.call229 fun hw _ => ?_
 have old : ∀ j x, H.get j = some x -> j < H.next := fun j x hj => zac hw hj
 refine zaf Tryz.call229 Tryz.func229 rfl (by simp [Tryz.f229]) ?_
 have hpl := old _ _ h
 have hp1 : p ≠ H.next := by omega
 have hp2 : p ≠ H.next + 1 := by omega
 have hp3 : p ≠ H.next + 1 + 1 := by omega
 have hp4 : p ≠ H.next + 1 + 1 + 1 := by omega
 have hq1 := Ne.symm hp1
 have hq2 := Ne.symm hp2
 have hq3 := Ne.symm hp3
 have hq4 := Ne.symm hp4
 have m1 : H.next ≠ H.next + 1 + 1 := by omega
 have m2 : H.next + 1 + 1 ≠ H.next := by omega
 have m3 : H.next ≠ H.next + 1 + 1 + 1 := by omega
 have m4 : H.next + 1 + 1 + 1 ≠ H.next := by omega
 have hP0 : ∀ H' : AHeap, H'.get p = H.get p -> PAt H' p W s := fun H' e => e.trans h
 have hkeep : ∀ j x, H.get j = some x -> j ≠ H.next /\ j ≠ H.next + 1 /\ j ≠ H.next + 1 + 1 /\ j ≠ H.next + 1 + 1 + 1 := fun j x hj => by have := old j x hj; omega
 simp
 refine zaa (zbO (hP0 _ (by simp [hp1])) hi) ?_
 rintro _ H1 ⟨rfl, rfl⟩
 simp [zat]
 refine zaa (p_ok (hP0 _ (by simp [hp1, hp2]))) ?_
 rintro _ H1 ⟨rfl, rfl⟩
 by_cases h0 : s.err = 0
 · simp [h0]
   refine zaa (zbF hW (hP0 _ (by simp [hp1, hp2])) hi [40]) ?_
   rintro _ H1 ⟨rfl, rfl⟩
   by_cases ho : Syn.is W s [40] = true
   · have hi2 := zb4 hW hi (is_kind ho).2
     simp [Syn.take, ho]
     refine zaa (hn _ { s with i := s.i + 1 } (PAt.set _) hi2) ?_
     rintro _ H2 ⟨rfl, rfl⟩
     have hi3 := hk.i { s with i := s.i + 1 } hi2
     rcases hy : inn { s with i := s.i + 1 } with ⟨⟨op, nm, n, po, ks⟩, s4⟩
     rw [hy] at hi3
     simp only at hi3
     simp [zab, hp1, hp2, hp3, hq1, hq2, hq3]
     refine zaa (zaI hW (W := W) (s := s4) (by unfold PAt; simp [hp1, hp2, hp3, hp4]) hi3 [[41]] (H.next + 1 + 1 + 1) 1 false (by simp) (by omega) (by simp)) ?_
     rintro _ H2 ⟨rfl, rfl⟩
     have hw1 : Syn.want W s4 [[41]] = Syn.want1 W s4 [41] := rfl
     have hr : Syn.prim W inn mer s = (.mk op nm n po ks, Syn.want1 W s4 [41]) := by
      unfold Syn.prim
      simp only
      rw [if_neg (fun e => e h0), if_pos ho, hy]
     simp [hw1, hp1, hp2, hp3, hp4, hq1, hq2, hq3, hq4, m1, m2, m3, m4]
     rw [hr]
     refine ⟨?_, by simp [hp1, hp2, hp3, hp4], fun j x hjp hj => ?_⟩
     · rw [zab]
       exact .old (by simp [AV.idLt, AV.allLt, za1])
     · obtain ⟨k1, k2, k3, k4⟩ := hkeep j x hj
       simp [hj, hjp, k1, k2, k3, k4]
   · have ho' : Syn.is W s [40] = false := by simpa using ho
     simp [Syn.take, ho', hp1, hp2, hp3, hq1, hq2, hq3]
     have hsame : ∀ H' : AHeap, H'.get p = some (.cells (zaj W s)) -> H'.set p (.cells (zaj W s)) = H' := fun H' e => zej e
     -- what comes behind, told of the word's kind
     have fin : ∀ (r : AV) (H' : AHeap) (x : Syn.Ex × Syn.St), Syn.prim W inn mer s = x -> r = .agg (zas x.1) -> H'.get p = some (.cells (zaj W x.2)) -> (∀ j y, j ≠ p -> H.get j = some y -> H'.get j = some y) -> PRes H p W (Syn.prim W inn mer s) r H' := by
      rintro r H' x hx rfl h1 h2
      rw [hx]
      exact ⟨.old (by simpa [AV.idLt] using zc5 _ _), h1, h2⟩
     have rst : ∀ (hk0 : (Syn.at_ W s).2.kind = 3 \/ (Syn.at_ W s).2.kind = 1 \/ Syn.one W s [[116, 114, 117, 101], [102, 97, 108, 115, 101], [105, 102], [109, 101, 114, 103, 101]] = true), (Syn.at_ W s).2.kind ≠ 0 /\ Syn.prim W inn mer s = Syn.rest W inn mer (Syn.at_ W s) (Syn.part W s) := by
      intro hk0
      refine ⟨?_, by unfold Syn.prim; simp only; rw [if_neg (fun e => e h0), if_neg ho, if_pos hk0]⟩
      rcases hk0 with e | e | e
      · omega
      · omega
      · exact (zcq e).2
     by_cases k3 : (Syn.at_ W s).2.kind = 3
     · have k3' : ((((Syn.at_ W s).2.kind : Nat) : Int) = 3) = True := eq_true (by omega)
       obtain ⟨hk0, hr⟩ := rst (.inl k3)
       simp [k3', hp1, hp2, hp3, hq1, hq2, hq3]
       refine zaa (zeP hW (PAt.set _) hi) ?_
       rintro _ H2 ⟨rfl, rfl⟩
       have hi2 := zcI hW hi hk0
       simp [hp1, hp2, hp3, hq1, hq2, hq3]
       refine zaa (p_rest hW hn hk hm hkm _ (Syn.part W s) (PAt.set _) hi2 (Syn.at_ W s)) ?_
       rintro _ H2 ⟨rfl, rfl⟩
       rcases hy : Syn.rest W inn mer (Syn.at_ W s) (Syn.part W s) with ⟨⟨op, nm, n, po, ks⟩, s4⟩
       simp [zab, hp1, hp2, hp3, hq1, hq2, hq3]
       refine fin _ _ _ (hr.trans hy) (by rw [zab]) (by simp [hp1, hp2, hp3]) fun j x hjp hj => ?_
       obtain ⟨k1, k2, k3, k4⟩ := hkeep j x hj
       simp [hj, hjp, k1, k2, k3, k4]
     · have k3' : ((((Syn.at_ W s).2.kind : Nat) : Int) = 3) = False := eq_false (by omega)
       by_cases k1 : (Syn.at_ W s).2.kind = 1
       · have k1' : ((((Syn.at_ W s).2.kind : Nat) : Int) = 1) = True := eq_true (by omega)
         obtain ⟨hk0, hr⟩ := rst (.inr (.inl k1))
         simp [k3', k1', hp1, hp2, hp3, hq1, hq2, hq3]
         refine zaa (zeP hW (PAt.set _) hi) ?_
         rintro _ H2 ⟨rfl, rfl⟩
         have hi2 := zcI hW hi hk0
         simp [hp1, hp2, hp3, hq1, hq2, hq3]
         refine zaa (p_rest hW hn hk hm hkm _ (Syn.part W s) (PAt.set _) hi2 (Syn.at_ W s)) ?_
         rintro _ H2 ⟨rfl, rfl⟩
         rcases hy : Syn.rest W inn mer (Syn.at_ W s) (Syn.part W s) with ⟨⟨op, nm, n, po, ks⟩, s4⟩
         simp [zab, hp1, hp2, hp3, hq1, hq2, hq3]
         refine fin _ _ _ (hr.trans hy) (by rw [zab]) (by simp [hp1, hp2, hp3]) fun j x hjp hj => ?_
         obtain ⟨k1, k2, k3, k4⟩ := hkeep j x hj
         simp [hj, hjp, k1, k2, k3, k4]
       · have k1' : ((((Syn.at_ W s).2.kind : Nat) : Int) = 1) = False := eq_false (by omega)
         simp [k3', k1', hp1, hp2, hp3, hq1, hq2, hq3]
         refine zaa (p_one (W := W) (s := s) (by unfold PAt; simp [hp1, hp2, hp3]) hi [[116, 114, 117, 101], [102, 97, 108, 115, 101], [105, 102], [109, 101, 114, 103, 101]] (H.next + 1 + 1) 4 false (by simp [hp3, hq3]) (by simp)) ?_
         rintro _ H2 ⟨rfl, rfl⟩
         by_cases h1 : Syn.one W s [[116, 114, 117, 101], [102, 97, 108, 115, 101], [105, 102], [109, 101, 114, 103, 101]] = true
         · obtain ⟨hk0, hr⟩ := rst (.inr (.inr h1))
           simp [h1, hp1, hp2, hp3, hq1, hq2, hq3]
           refine zaa (zeP hW (W := W) (s := s) (by unfold PAt; simp [hp1, hp2, hp3]) hi) ?_
           rintro _ H2 ⟨rfl, rfl⟩
           have hi2 := zcI hW hi hk0
           simp [hp1, hp2, hp3, hq1, hq2, hq3]
           refine zaa (p_rest hW hn hk hm hkm _ (Syn.part W s) (PAt.set _) hi2 (Syn.at_ W s)) ?_
           rintro _ H2 ⟨rfl, rfl⟩
           rcases hy : Syn.rest W inn mer (Syn.at_ W s) (Syn.part W s) with ⟨⟨op, nm, n, po, ks⟩, s4⟩
           simp [zab, hp1, hp2, hp3, hq1, hq2, hq3, m1, m2]
           refine fin _ _ _ (hr.trans hy) (by rw [zab]) (by simp [hp1, hp2, hp3]) fun j x hjp hj => ?_
           obtain ⟨k1, k2, k3, k4⟩ := hkeep j x hj
           simp [hj, hjp, k1, k2, k3, k4]
         · have h1' : Syn.one W s [[116, 114, 117, 101], [102, 97, 108, 115, 101], [105, 102], [109, 101, 114, 103, 101]] = false := by simpa using h1
           simp [h1', hp1, hp2, hp3, hq1, hq2, hq3]
           refine zaa (zeQ (W := W) (s := s) (by unfold PAt; simp [hp1, hp2, hp3]) hi 7) ?_
           rintro _ H2 ⟨rfl, rfl⟩
           have hr : Syn.prim W inn mer s = (.zero, Syn.fail W 7 s) := by
            unfold Syn.prim
            simp only
            rw [if_neg (fun e => e h0), if_neg ho, if_neg (fun e => e.elim k3 fun e => e.elim k1 h1)]
           simp [hp1, hp2, hp3, hq1, hq2, hq3, m1, m2]
           refine fin _ _ _ hr rfl (by simp [hp1, hp2, hp3]) fun j x hjp hj => ?_
           obtain ⟨k1, k2, k3, k4⟩ := hkeep j x hj
           simp [hj, hjp, k1, k2, k3, k4]
 · simp [h0]
   have hr : Syn.prim W inn mer s = (.zero, s) := by
    unfold Syn.prim
    simp only
    rw [if_pos h0]
   rw [hr]
   refine ⟨.old rfl, by simp [hp1, hp2]; exact h, fun j x hjp hj => ?_⟩
   obtain ⟨k1, k2, k3, k4⟩ := hkeep j x hj
   simp [hj, hjp, k1, k2, k3, k4]
structure LvC (G : Nat -> Option AV) (W : Syn.Ws) (p : Nat) (D : Int) (L : Syn.Lv) : Prop where
 prim : Reads G W p 229 D L.prim
 un : Reads G W p 223 D L.un
 fby : zgX G W p 217 [102, 98, 121] D L.fby
 expr : zgX G W p 102 [45, 62] D L.expr
structure LvK (W : Syn.Ws) (L : Syn.Lv) : Prop where
 prim : Keeps W L.prim
 un : Keeps W L.un
 fby : Keeps W L.fby
 expr : Keeps W L.expr
theorem lvOf_k {W : Syn.Ws} (hW : WsOk W) (b : Bool) {L : Syn.Lv} (k : LvK W L) : LvK W (Syn.lvOf W b L) := by
 have kp := zg0 hW (zb6 (b := b) k.expr) (zb6 (b := b) k.prim)
 have ku := un_keeps hW b kp k.un
 have kw := zgu hW ku
 have kf := zdO hW [102, 98, 121] b kw k.fby
 have km := zbD hW [[42], [47], [109, 111, 100]] kf
 have ka := zbD hW [[43], [45]] km
 have kc := zi8 hW ka
 have kn := zbD hW [[97, 110, 100]] kc
 have ko := zbD hW [[111, 114], [120, 111, 114]] kn
 have ke := zdO hW [45, 62] b ko k.expr
 generalize hp : Syn.prim W (Syn.inner W b L.expr) (Syn.inner W b L.prim) = gp at *
 generalize hu : Syn.un W gp b L.un = gu at *
 generalize hf : Syn.right W (Syn.when_ W gu) [102, 98, 121] b L.fby = gf at *
 generalize he : Syn.right W (Syn.row W (Syn.row W (Syn.cmp W (Syn.row W (Syn.row W gf [[42], [47], [109, 111, 100]]) [[43], [45]])) [[97, 110, 100]]) [[111, 114], [120, 111, 114]]) [45, 62] b L.expr = ge at *
 have e : Syn.lvOf W b L = ⟨ge, gf, gu, gp⟩ := by
  unfold Syn.lvOf
  simp only [hp, hu, hf, he]
 rw [e]
 exact ⟨kp, ku, kf, ke⟩
theorem lvOf_c {W : Syn.Ws} (hW : WsOk W) {p : Nat} {D : Int} (hd1 : 1 <= D) (hd2 : D <= 30) {L : Syn.Lv} (k : LvK W L) (hb : D ≠ 30 -> LvC G W p (D + 1) L) : LvC G W p D (Syn.lvOf W (decide (D = 30)) L) := by
 have hin := p_inner hd1 hd2 (fun e => p_expr (hb e).expr)
 have hmer := p_merged hd1 hd2 (fun e => (hb e).prim)
 have hprim := p_prim hW hin (zb6 k.expr) hmer (zb6 k.prim)
 have kp := zg0 hW (zb6 (b := decide (D = 30)) k.expr) (zb6 (b := decide (D = 30)) k.prim)
 have hun := p_un hW hd1 hd2 hprim (fun e => (hb e).un)
 have ku := un_keeps hW (decide (D = 30)) kp k.un
 have hwhen := p_when hW hun ku
 have kw := zgu hW ku
 have hfbyR := p_right hW hd1 hd2 hwhen kw (fun e => (hb e).fby)
 have kf := zdO hW [102, 98, 121] (decide (D = 30)) kw k.fby
 have hmul := p_mul hW (p_fby hfbyR) kf
 have km := zbD hW [[42], [47], [109, 111, 100]] kf
 have hadd := p_add hW hmul km
 have ka := zbD hW [[43], [45]] km
 have hcmp := p_cmp hW hadd ka
 have kc := zi8 hW ka
 have hand := p_and hW hcmp kc
 have kn := zbD hW [[97, 110, 100]] kc
 have hor := p_or hW hand kn
 have ko := zbD hW [[111, 114], [120, 111, 114]] kn
 have hex := p_right hW hd1 hd2 hor ko (fun e => (hb e).expr)
 generalize hp : Syn.prim W (Syn.inner W (decide (D = 30)) L.expr) (Syn.inner W (decide (D = 30)) L.prim) = gp at *
 generalize hu : Syn.un W gp (decide (D = 30)) L.un = gu at *
 generalize hf : Syn.right W (Syn.when_ W gu) [102, 98, 121] (decide (D = 30)) L.fby = gf at *
 generalize he : Syn.right W (Syn.row W (Syn.row W (Syn.cmp W (Syn.row W (Syn.row W gf [[42], [47], [109, 111, 100]]) [[43], [45]])) [[97, 110, 100]]) [[111, 114], [120, 111, 114]]) [45, 62] (decide (D = 30)) L.expr = ge at *
 have e : Syn.lvOf W (decide (D = 30)) L = ⟨ge, gf, gu, gp⟩ := by
  unfold Syn.lvOf
  simp only [hp, hu, hf, he]
 rw [e]
 exact ⟨hprim, hun, hfbyR, hex⟩
theorem zero_k (W : Syn.Ws) : LvK W ⟨fun s => (.zero, s), fun s => (.zero, s), fun s => (.zero, s), fun s => (.zero, s)⟩ :=
 ⟨zbB fun s => Kp.refl s, zbB fun s => Kp.refl s, zbB fun s => Kp.refl s, zbB fun s => Kp.refl s⟩
theorem lv_k {W : Syn.Ws} (hW : WsOk W) : ∀ d, LvK W (Syn.lv W d)
 | 0 => lvOf_k hW true (zero_k W)
 | d + 1 => lvOf_k hW false (lv_k hW d)
theorem lv_c {W : Syn.Ws} (hW : WsOk W) (p : Nat) : ∀ d : Nat, d <= 29 -> LvC G W p (30 - d) (Syn.lv W d)
 | 0, _ => by
   have h := lvOf_c (G := G) hW (p := p) (D := 30) (by omega) (by omega) (zero_k W) (fun e => absurd rfl e)
   exact h
 | d + 1, hd => by
   have ih := lv_c hW p d (by omega)
   have e : (30 : Int) - ((d + 1 : Nat) : Int) + 1 = 30 - d := by omega
   have h := lvOf_c (G := G) hW (p := p) (D := 30 - ((d + 1 : Nat) : Int)) (by omega) (by omega) (lv_k hW d) (fun _ => by rw [e]; exact ih)
   have e2 : decide ((30 : Int) - ((d + 1 : Nat) : Int) = 30) = false := by
    rw [decide_eq_false_iff_not]; omega
   rw [e2] at h
   exact h
theorem p_top {W : Syn.Ws} (hW : WsOk W) (p : Nat) : Reads G W p 54 1 (Syn.lv W 29).expr := p_expr (lv_c hW p 29 (by omega)).expr
theorem zdf {W : Syn.Ws} (hW : WsOk W) : Keeps W (Syn.lv W 29).expr := (lv_k hW 29).expr
def zar (v : Syn.Va) : List AV := [.str v.name, .int .i64 v.kind, .str v.on, .bool v.neg, .int .i64 v.pos]
def zad : List Syn.Va -> List AV
 | [] => []
 | v :: l => zar v ++ zad l
theorem zam : ∀ l : List Syn.Va, (zad l).length = l.length * 5
 | [] => rfl
 | v :: l => by rw [zad, List.length_append, zam l]; simp [zar]; omega
theorem zau : ∀ a b : List Syn.Va, zad (a ++ b) = zad a ++ zad b
 | [], b => rfl
 | v :: a, b => by rw [List.cons_append, zad, zad, zau a b, List.append_assoc]
theorem zca (n : Nat) : ∀ l : List Syn.Va, AV.allLt n (zad l) = true
 | [] => rfl
 | v :: l => by rw [zad, zbh, zca n l]; simp [zar, AV.allLt, AV.idLt]
theorem zaW : ∀ l : List Syn.Va, ∀ x ∈ zad l, x.scalar = true
 | [], x, h => by simp [zad] at h
 | v :: l, x, h => by
   simp only [zad, zar, List.cons_append, List.nil_append, List.mem_cons] at h
   rcases h with rfl | rfl | rfl | rfl | rfl | h
   · rfl
   · rfl
   · rfl
   · rfl
   · rfl
   · exact zaW l x h
theorem zcf {W : Syn.Ws} (hW : WsOk W) (s : Syn.St) : Kp W s (Syn.declared W s).2 := by
 have h1 : ∀ s' : Syn.St, s'.i = s.i -> s'.err = s.err -> Kp W s s' := fun s' e1 e2 hi => ⟨by omega, by unfold mu; rw [e1, e2]; exact Nat.le_refl _⟩
 unfold Syn.declared
 simp only
 refine Kp.trans ?_ (zcy hW _)
 split
 · split
   · exact (h1 { s with names := Syn.wrap (s.names + 1) } rfl rfl).trans (zht (by omega) _)
   · exact h1 _ rfl rfl
 · exact Kp.refl s
theorem zg1 {W : Syn.Ws} (hW : WsOk W) {s : Syn.St} {p : Nat} {H : AHeap} (h : PAt H p W s) (hi : s.i < W.length) : Does Tryz.prog G 133 [.ptr p 0] H fun r H' => r = .agg (zar (Syn.declared W s).1) /\ H' = H.set p (.cells (zaj W (Syn.declared W s).2)) := by
 refine Does.deep (R := fun r H' => r = .agg (zar (Syn.declared W s).1) /\ H'.get p = some (.cells (zaj W (Syn.declared W s).2)) /\ ∀ j x, j ≠ p -> H.get j = some x -> H'.get j = some x) ?_ ?_
 · refine Does.wf Tryz.call133 fun hw _ => ?_
   have old : ∀ j x, H.get j = some x -> j ≠ H.next /\ j ≠ H.next + 1 := fun j x hj => by have := zac hw hj; omega
   refine zaf Tryz.call133 Tryz.func133 rfl (by simp [Tryz.f133]) ?_
   obtain ⟨hp1, hp2⟩ := old _ _ h
   have hq1 := Ne.symm hp1
   have hq2 := Ne.symm hp2
   have hw2 : IntKind.i64.wrap (s.names + 1) = Syn.wrap (s.names + 1) := wrap_eq _
   simp
   refine zaa (zbO (W := W) (s := s) (by unfold PAt; simp [hp1]; exact h) hi) ?_
   rintro _ H1 ⟨rfl, rfl⟩
   have h' := h
   unfold PAt zaj at h'
   simp [zat]
   by_cases hk : (Syn.at_ W s).2.kind = 1
   · have hk' : ((((Syn.at_ W s).2.kind : Nat) : Int) = 1) = True := eq_true (by omega)
     by_cases hc : 64 < Syn.wrap (s.names + 1)
     · simp [hk', h', hp1, hp2, hw2, hc]
       refine zaa (zeQ (W := W) (s := { s with names := Syn.wrap (s.names + 1) }) (by unfold PAt zaj; simp) hi 2) ?_
       rintro _ H2 ⟨rfl, rfl⟩
       have hi2 : (Syn.fail W 2 { s with names := Syn.wrap (s.names + 1) }).i < W.length := by rw [zgI]; exact hi
       obtain ⟨s1, hs1⟩ : ∃ s1, s1 = Syn.fail W 2 { s with names := Syn.wrap (s.names + 1) } := ⟨_, rfl⟩
       have hd : Syn.declared W s = (⟨(Syn.name W s1).1, 0, [], false, (Syn.at_ W s).1⟩, (Syn.name W s1).2) := by
        unfold Syn.declared
        simp only [hk, if_true, hc, <- hs1]
       rw [<- hs1] at hi2 ⊢
       rcases hn : Syn.name W s1 with ⟨nm, s2⟩
       rw [hn] at hd
       simp [hp1, hp2, hq1, hq2]
       refine zak [(3, 0), (3, 2)] mixedOrders (by kernel_rfl) ?_
       intro es hes
       simp
       refine ⟨_, _, zek hW (PAt.set _) hi2, by simp, ?_⟩
       simp [hn, hp1, hp2, hq1, hq2, rds, heapF]
       refine ⟨?_, ?_⟩
       · subst hes
         exact ⟨by kernel_rfl, by kernel_rfl⟩
       rw [hd]
       simp [zar, hp1, hp2]
       intro j x hjp hj
       obtain ⟨k1, k2⟩ := old j x hj
       simp [hj, hjp, k1, k2]
     · simp [hk', h', hp1, hp2, hw2, hc]
       obtain ⟨s1, hs1⟩ : ∃ s1 : Syn.St, s1 = { s with names := Syn.wrap (s.names + 1) } := ⟨_, rfl⟩
       have hd : Syn.declared W s = (⟨(Syn.name W s1).1, 0, [], false, (Syn.at_ W s).1⟩, (Syn.name W s1).2) := by
        unfold Syn.declared
        simp only [hk, if_true, hc, if_false, <- hs1]
       have hi2 : s1.i < W.length := by rw [hs1]; exact hi
       rcases hn : Syn.name W s1 with ⟨nm, s2⟩
       rw [hn] at hd
       refine zak [(3, 0), (3, 2)] mixedOrders (by kernel_rfl) ?_
       intro es hes
       simp
       refine ⟨_, _, zek hW (W := W) (s := s1) (by unfold PAt; rw [hs1]; simp [zaj]) hi2, by simp, ?_⟩
       simp [hn, hp1, hp2, hq1, hq2, rds, heapF]
       refine ⟨?_, ?_⟩
       · subst hes
         exact ⟨by kernel_rfl, by kernel_rfl⟩
       rw [hd]
       simp [zar, hp1, hp2]
       intro j x hjp hj
       obtain ⟨k1, k2⟩ := old j x hj
       simp [hj, hjp, k1, k2]
   · have hk' : ((((Syn.at_ W s).2.kind : Nat) : Int) = 1) = False := eq_false (by omega)
     have hd : Syn.declared W s = (⟨(Syn.name W s).1, 0, [], false, (Syn.at_ W s).1⟩, (Syn.name W s).2) := by
      unfold Syn.declared
      simp only [hk, if_false]
     rcases hn : Syn.name W s with ⟨nm, s2⟩
     rw [hn] at hd
     simp [hk', h', hp1, hp2]
     refine zak [(3, 0), (3, 2)] mixedOrders (by kernel_rfl) ?_
     intro es hes
     simp
     refine ⟨_, _, zek hW (W := W) (s := s) (by unfold PAt zaj; simp [hp1, hp2, h']) hi, by simp, ?_⟩
     simp [hn, hp1, hp2, hq1, hq2, rds, heapF]
     refine ⟨?_, ?_⟩
     · subst hes
       exact ⟨by kernel_rfl, by kernel_rfl⟩
     rw [hd]
     simp [zar, hp1, hp2]
     intro j x hjp hj
     obtain ⟨k1, k2⟩ := old j x hj
     simp [hj, hjp, k1, k2]
 · rintro hw ha r H1 ⟨rfl, h1, h2⟩
   exact ⟨_, H.set p (.cells (zaj W (Syn.declared W s).2)), .old (by simp [AV.idLt, AV.allLt, zar]), rfl, zcp hw h h1 h2, rfl, rfl⟩
def setK (k : Nat) (v : Syn.Va) : Syn.Va := { v with kind := k }
def DeclR (H : AHeap) (p : Nat) (W : Syn.Ws) (x : List Syn.Va × Syn.St) (r : AV) (H' : AHeap) : Prop :=
 (∃ b op, r = .sl b 0 5 x.1.length x.1.length op /\ H.next <= b /\ H'.get b = some (.cells (zad x.1))) /\ H'.get p = some (.cells (zaj W x.2)) /\ ∀ j y, j ≠ p -> H.get j = some y -> H'.get j = some y
theorem zjb (a c : List Syn.Va) (v : Syn.Va) (k : Nat) : List.take (a.length * 5 + 1) (zad (a ++ v :: c)) ++ .int .i64 k :: List.drop (a.length * 5 + 1 + 1) (zad (a ++ v :: c)) = zad ((a ++ [setK k v]) ++ c) := by
 rw [zau, zau, zau]
 have h1 : (zad a).length = a.length * 5 := zam a
 rw [List.take_append, List.drop_append, h1]
 have e1 : List.take (a.length * 5 + 1) (zad a) = zad a := by rw [List.take_of_length_le]; omega
 have e2 : List.drop (a.length * 5 + 1 + 1) (zad a) = [] := by rw [List.drop_of_length_le]; omega
 have e3 : a.length * 5 + 1 - a.length * 5 = 1 := by omega
 have e4 : a.length * 5 + 1 + 1 - a.length * 5 = 2 := by omega
 rw [e1, e2, e3, e4]
 simp [zad, zar, setK]
theorem zh3 {W : Syn.Ws} (hW : WsOk W) : ∀ (m : Nat) (l : List Syn.Va) (s : Syn.St), Kp W s (Syn.declL W m l s).2
 | 0, l, s => Kp.refl s
 | m + 1, l, s => by
   unfold Syn.declL
   split
   · rename_i ho
     have h1 := zcx hW (is_kind ho).2
     have h2 := zcf hW { s with i := s.i + 1 }
     rcases hx : Syn.declared W { s with i := s.i + 1 } with ⟨v, s2⟩
     rw [hx] at h2
     simp only at h2 ⊢
     exact h1.trans (h2.trans (zh3 hW m _ _))
   · exact Kp.refl s
theorem zdP {W : Syn.Ws} (hW : WsOk W) (s : Syn.St) : Kp W s (Syn.decl W s).2 := by
 unfold Syn.decl
 have h1 := zcf hW s
 rcases hx : Syn.declared W s with ⟨v, s1⟩
 rw [hx] at h1
 simp only at h1 ⊢
 have h2 := zh3 hW (W.length + 1) [v] s1
 rcases hy : Syn.declL W (W.length + 1) [v] s1 with ⟨l, s2⟩
 rw [hy] at h2
 simp only at h2 ⊢
 have h3 := zaP hW s2 [58]
 split
 · rename_i ho
   exact h1.trans (h2.trans (h3.trans (zcx hW (is_kind ho).2)))
 split
 · rename_i ho
   exact h1.trans (h2.trans (h3.trans (zcx hW (is_kind ho).2)))
 · exact h1.trans (h2.trans (h3.trans (zht (by omega) _)))
theorem p_decl {W : Syn.Ws} (hW : WsOk W) {s : Syn.St} {p : Nat} {H : AHeap} (h : PAt H p W s) (hi : s.i < W.length) : Does Tryz.prog G 98 [.ptr p 0] H (DeclR H p W (Syn.decl W s)) := by
 refine Does.wf Tryz.call98 fun hw _ => ?_
 have old : ∀ j x, H.get j = some x -> j < H.next := fun j x hj => zac hw hj
 refine zaf Tryz.call98 Tryz.func98 rfl (by simp [Tryz.f98]) ?_
 have hpl := old _ _ h
 have hp1 : p ≠ H.next := by omega
 have hq1 := Ne.symm hp1
 simp
 refine zaa (zg1 hW h hi) ?_
 rintro _ H1 ⟨rfl, rfl⟩
 have hi1 := (zcf hW s hi).1
 rcases hx : Syn.declared W s with ⟨v0, s1⟩
 rw [hx] at hi1
 simp only at hi1
 simp [zar, hp1, hq1]
 have hsm := hW.small
 refine zai (fun m T' H' => ∃ l s' b opn, Syn.declL W m l s' = Syn.declL W (W.length + 1) [v0] s1 /\ mu W s' < m /\ s'.i < W.length /\ l.length + m <= W.length + 2 /\
  T' 0 = .ptr p 0 /\ T' 3 = .sl b 0 5 l.length l.length opn /\ H'.get b = some (.cells (zad l)) /\ H.next <= b /\ PAt H' p W s' /\ (∀ x y, x ≠ p -> H.get x = some y -> H'.get x = some y)) (W.length + 1) ?_ ?_
 · refine ⟨_, _, H.next, false, rfl, ?_, hi1, by simp; omega, by simp, by simp, by simp [zad, zar], by omega, by unfold PAt; simp [hp1], fun x y hxp hxy => ?_⟩
   · unfold mu; split <;> omega
   · have := old x y hxy
     have k1 : x ≠ H.next := by omega
     simp [hxy, hxp, k1]
 rintro m T H1 ⟨l, s', b, opn, hargs, hmu, hi', hlm, t0, t3, hb, hbn, hP, hkeep⟩ hw1 _
 have hN := zac hw1 hb
 have hp2 : p ≠ H1.next := by omega
 have hp3 : p ≠ H1.next + 1 := by omega
 have hq2 := Ne.symm hp2
 have hq3 := Ne.symm hp3
 have hpb : p ≠ b := by omega
 have hqb := Ne.symm hpb
 have n1 : b ≠ H1.next := by omega
 have n2 : b ≠ H1.next + 1 := by omega
 have n3 := Ne.symm n1
 have n4 := Ne.symm n2
 obtain ⟨k, rfl⟩ : ∃ k, m = k + 1 := ⟨m - 1, by omega⟩
 simp [t0, t3]
 refine zaa (zbF hW hP hi' [44]) ?_
 rintro _ H2 ⟨rfl, rfl⟩
 by_cases ho : Syn.is W s' [44] = true
 · have hi2 := zb4 hW hi' (is_kind ho).2
   have hm2 : mu W { s' with i := s'.i + 1 } < mu W s' := by
    have h0 := (is_kind ho).1
    unfold mu
    simp only [h0, if_true]
    omega
   simp [Syn.take, ho, t0, t3]
   refine zaa (zg1 hW (W := W) (s := { s' with i := s'.i + 1 }) (PAt.set _) hi2) ?_
   rintro _ H3 ⟨rfl, rfl⟩
   obtain ⟨hi4, hm4⟩ := zcf hW { s' with i := s'.i + 1 } hi2
   rcases hy : Syn.declared W { s' with i := s'.i + 1 } with ⟨v, s4⟩
   rw [hy] at hi4 hm4
   simp only at hi4 hm4
   have hgrow : ¬ (l.length + 1 <= l.length) := by omega
   have g1 : (l.length + 1) * 56 <= 140737488355328 := by omega
   have g2 : l.length <= 4611686018427387903 := by omega
   have g3 : List.take (l.length * 5) (zad l) = zad l := by rw [List.take_of_length_le]; rw [zam]; omega
   have g4 : l.length * 5 <= (zad l).length := by rw [zam]; omega
   cases opn <;> simp [zar, t0, t3, hb, hpb, hqb, hp2, hp3, hq2, hq3, n1, n2, n3, n4, hgrow, g1, g2, g3, g4]
   all_goals
    refine ⟨k, by omega, l ++ [v], s4, by rw [<- hargs]; simp [Syn.declL, ho, hy], by omega, hi4, by simp; omega, H1.next + 1, ⟨rfl, by simp⟩, by simp [zau, zad, zar], by omega, ?_, ?_⟩
    · unfold PAt
      simp [hp2, hp3, hpb]
    · intro x y hxp hxy
      have := old x y hxy
      have k1 : x ≠ H1.next := by omega
      have k2 : x ≠ H1.next + 1 := by omega
      have k3 : x ≠ b := by omega
      simp [hxp, k1, k2, k3, hkeep x y hxp hxy]
 · have ho' : Syn.is W s' [44] = false := by simpa using ho
   simp [Syn.take, ho', t0, t3]
   refine zaa (zaI hW (W := W) (s := s') (by unfold PAt; simp [hp2]) hi' [[58]] H1.next 1 false (by simp) hq2 (by simp)) ?_
   rintro _ H2 ⟨rfl, rfl⟩
   have hw1' : Syn.want W s' [[58]] = Syn.want1 W s' [58] := rfl
   rw [hw1']
   obtain ⟨s3, hs3⟩ : ∃ s3, s3 = Syn.want1 W s' [58] := ⟨_, rfl⟩
   have hi3 : s3.i < W.length := by rw [hs3]; exact za2 hW hi' _
   have hdec : Syn.decl W s = (if Syn.is W s3 [98, 111, 111, 108] then (l.map (setK 1), { s3 with i := s3.i + 1 }) else if Syn.is W s3 [105, 110, 116] then (l.map (setK 2), { s3 with i := s3.i + 1 }) else (l.map (setK 0), Syn.fail W 7 s3)) := by
    simp only [Syn.decl, hx]
    rw [<- hargs]
    simp only [Syn.declL, ho', Bool.false_eq_true, if_false, <- hs3]
    rfl
   rw [<- hs3]
   simp [t0, t3, hp2, hq2]
   refine zaa (zbF hW (W := W) (s := s3) (by unfold PAt; simp [hp2]) hi3 [98, 111, 111, 108]) ?_
   rintro _ H2 ⟨rfl, rfl⟩
   by_cases hB : Syn.is W s3 [98, 111, 111, 108] = true
   · have hdec' : Syn.decl W s = (l.map (setK 1), { s3 with i := s3.i + 1 }) := by rw [hdec, if_pos hB]
     simp [Syn.take, hB, t0, t3]
     refine zai (fun m T' H' => ∃ a c, l = a ++ c /\ m = c.length /\ T' 0 = .ptr p 0 /\ T' 3 = .sl b 0 5 l.length l.length opn /\ T' 4 = .int .i64 1 /\ T' 28 = .int .i64 l.length /\ T' 29 = .int .i64 a.length /\
      H'.get b = some (.cells (zad (a.map (setK 1) ++ c))) /\ H'.get p = some (.cells (zaj W ({ s3 with i := s3.i + 1 }))) /\ (∀ x y, x ≠ p -> H.get x = some y -> H'.get x = some y)) l.length ⟨[], l, rfl, rfl, by simp [t0], by simp [t3], by simp, by simp, by simp, by simp [hb, hpb, hqb, n1, n3], by simp [hp2], fun x y hxp hxy => ?_⟩ ?_
     · have := old x y hxy
       have k1 : x ≠ H1.next := by omega
       simp [hxp, k1, hkeep x y hxp hxy]
     clear t0 t3
     rintro m T H2 ⟨a, c, hac, rfl, t0, t3, t4, t28, t29, hb2, hP2, hkeep2⟩ hw2 _
     have hlen : a.length + c.length = l.length := by rw [hac]; simp
     cases c with
     | nil =>
       have ha : a.length = l.length := by simpa using hlen
       rw [List.append_nil] at hac
       subst hac
       simp [t0, t3, t4, t28, t29]
       rw [hdec']
       refine ⟨⟨b, opn, by simp, hbn, by simpa using hb2⟩, hP2, hkeep2⟩
     | cons v c =>
       simp only [List.length_cons] at hlen
       have hlt : (a.length : Int) < l.length := by omega
       have hlt2 : a.length < l.length := by omega
       have hlt3 : a.length <= l.length := by omega
       have hwa : IntKind.i64.wrap ((a.length : Int) + 1) = a.length + 1 := IntWalk.i64_in _ (by omega)
       have hcl : (zad (a.map (setK 1) ++ v :: c)).length = l.length * 5 := by rw [zam]; simp; omega
       have hb3 : a.length * 5 + 1 + 1 <= l.length * 5 := by omega
       have hput := zjb (a.map (setK 1)) c v 1
       rw [List.length_map] at hput
       simp [t0, t3, t4, t28, t29, hlt, hlt2, hlt3, hb2, hcl, hb3, hpb, hqb, hwa]
       refine ⟨c.length, by omega, a ++ [v], c, by rw [hac]; simp, rfl, by simp, by simpa using hput, hP2, fun x y hxp hxy => ?_⟩
       have := old x y hxy
       have k1 : x ≠ b := by omega
       simp [k1, hkeep2 x y hxp hxy]
   · have hB' : Syn.is W s3 [98, 111, 111, 108] = false := by simpa using hB
     simp [Syn.take, hB', t0, t3]
     refine zaa (zbF hW (W := W) (s := s3) (by unfold PAt; simp [hp2]) hi3 [105, 110, 116]) ?_
     rintro _ H2 ⟨rfl, rfl⟩
     by_cases hI : Syn.is W s3 [105, 110, 116] = true
     · have hdec' : Syn.decl W s = (l.map (setK 2), { s3 with i := s3.i + 1 }) := by rw [hdec, if_neg hB, if_pos hI]
       simp [Syn.take, hI, t0, t3]
       refine zai (fun m T' H' => ∃ a c, l = a ++ c /\ m = c.length /\ T' 0 = .ptr p 0 /\ T' 3 = .sl b 0 5 l.length l.length opn /\ T' 4 = .int .i64 2 /\ T' 28 = .int .i64 l.length /\ T' 29 = .int .i64 a.length /\
        H'.get b = some (.cells (zad (a.map (setK 2) ++ c))) /\ H'.get p = some (.cells (zaj W ({ s3 with i := s3.i + 1 }))) /\ (∀ x y, x ≠ p -> H.get x = some y -> H'.get x = some y)) l.length ⟨[], l, rfl, rfl, by simp [t0], by simp [t3], by simp, by simp, by simp, by simp [hb, hpb, hqb, n1, n3], by simp [hp2], fun x y hxp hxy => ?_⟩ ?_
       · have := old x y hxy
         have k1 : x ≠ H1.next := by omega
         simp [hxp, k1, hkeep x y hxp hxy]
       clear t0 t3
       rintro m T H2 ⟨a, c, hac, rfl, t0, t3, t4, t28, t29, hb2, hP2, hkeep2⟩ hw2 _
       have hlen : a.length + c.length = l.length := by rw [hac]; simp
       cases c with
       | nil =>
         have ha : a.length = l.length := by simpa using hlen
         rw [List.append_nil] at hac
         subst hac
         simp [t0, t3, t4, t28, t29]
         rw [hdec']
         refine ⟨⟨b, opn, by simp, hbn, by simpa using hb2⟩, hP2, hkeep2⟩
       | cons v c =>
         simp only [List.length_cons] at hlen
         have hlt : (a.length : Int) < l.length := by omega
         have hlt2 : a.length < l.length := by omega
         have hlt3 : a.length <= l.length := by omega
         have hwa : IntKind.i64.wrap ((a.length : Int) + 1) = a.length + 1 := IntWalk.i64_in _ (by omega)
         have hcl : (zad (a.map (setK 2) ++ v :: c)).length = l.length * 5 := by rw [zam]; simp; omega
         have hb3 : a.length * 5 + 1 + 1 <= l.length * 5 := by omega
         have hput := zjb (a.map (setK 2)) c v 2
         rw [List.length_map] at hput
         simp [t0, t3, t4, t28, t29, hlt, hlt2, hlt3, hb2, hcl, hb3, hpb, hqb, hwa]
         refine ⟨c.length, by omega, a ++ [v], c, by rw [hac]; simp, rfl, by simp, by simpa using hput, hP2, fun x y hxp hxy => ?_⟩
         have := old x y hxy
         have k1 : x ≠ b := by omega
         simp [k1, hkeep2 x y hxp hxy]
     · have hI' : Syn.is W s3 [105, 110, 116] = false := by simpa using hI
       have hdec' : Syn.decl W s = (l.map (setK 0), Syn.fail W 7 s3) := by rw [hdec, if_neg hB, if_neg hI]
       simp [Syn.take, hI', t0, t3]
       refine zaa (zeQ (W := W) (s := s3) (by unfold PAt; simp [hp2]) hi3 7) ?_
       rintro _ H2 ⟨rfl, rfl⟩
       simp [t0, t3]
       refine zai (fun m T' H' => ∃ a c, l = a ++ c /\ m = c.length /\ T' 0 = .ptr p 0 /\ T' 3 = .sl b 0 5 l.length l.length opn /\ T' 4 = .int .i64 0 /\ T' 28 = .int .i64 l.length /\ T' 29 = .int .i64 a.length /\
        H'.get b = some (.cells (zad (a.map (setK 0) ++ c))) /\ H'.get p = some (.cells (zaj W (Syn.fail W 7 s3))) /\ (∀ x y, x ≠ p -> H.get x = some y -> H'.get x = some y)) l.length ⟨[], l, rfl, rfl, by simp [t0], by simp [t3], by simp, by simp, by simp, by simp [hb, hpb, hqb, n1, n3], by simp [hp2], fun x y hxp hxy => ?_⟩ ?_
       · have := old x y hxy
         have k1 : x ≠ H1.next := by omega
         simp [hxp, k1, hkeep x y hxp hxy]
       clear t0 t3
       rintro m T H2 ⟨a, c, hac, rfl, t0, t3, t4, t28, t29, hb2, hP2, hkeep2⟩ hw2 _
       have hlen : a.length + c.length = l.length := by rw [hac]; simp
       cases c with
       | nil =>
         have ha : a.length = l.length := by simpa using hlen
         rw [List.append_nil] at hac
         subst hac
         simp [t0, t3, t4, t28, t29]
         rw [hdec']
         refine ⟨⟨b, opn, by simp, hbn, by simpa using hb2⟩, hP2, hkeep2⟩
       | cons v c =>
         simp only [List.length_cons] at hlen
         have hlt : (a.length : Int) < l.length := by omega
         have hlt2 : a.length < l.length := by omega
         have hlt3 : a.length <= l.length := by omega
         have hwa : IntKind.i64.wrap ((a.length : Int) + 1) = a.length + 1 := IntWalk.i64_in _ (by omega)
         have hcl : (zad (a.map (setK 0) ++ v :: c)).length = l.length * 5 := by rw [zam]; simp; omega
         have hb3 : a.length * 5 + 1 + 1 <= l.length * 5 := by omega
         have hput := zjb (a.map (setK 0)) c v 0
         rw [List.length_map] at hput
         simp [t0, t3, t4, t28, t29, hlt, hlt2, hlt3, hb2, hcl, hb3, hpb, hqb, hwa]
         refine ⟨c.length, by omega, a ++ [v], c, by rw [hac]; simp, rfl, by simp, by simpa using hput, hP2, fun x y hxp hxy => ?_⟩
         have := old x y hxy
         have k1 : x ≠ b := by omega
         simp [k1, hkeep2 x y hxp hxy]
theorem zhO (l : List Syn.Va) : (zad l).all AV.scalar = true := by
 rw [List.all_eq_true]; exact zaW l
theorem declL_ne {W : Syn.Ws} : ∀ (m : Nat) (l : List Syn.Va) (s : Syn.St), l ≠ [] -> (Syn.declL W m l s).1 ≠ [] /\ (Syn.declL W m l s).1.length <= l.length + m
 | 0, l, s, h => ⟨h, by simp [Syn.declL]⟩
 | m + 1, l, s, h => by
   unfold Syn.declL
   split
   · rcases hx : Syn.declared W { s with i := s.i + 1 } with ⟨v, s2⟩
     simp only
     obtain ⟨h1, h2⟩ := declL_ne m (l ++ [v]) s2 (by simp)
     refine ⟨h1, ?_⟩
     simp at h2
     omega
   · exact ⟨h, by simp only; omega⟩
theorem zh2 (W : Syn.Ws) (s : Syn.St) : (Syn.decl W s).1 ≠ [] /\ (Syn.decl W s).1.length <= W.length + 2 := by
 unfold Syn.decl
 rcases hx : Syn.declared W s with ⟨v, s1⟩
 simp only
 obtain ⟨h1, h2⟩ := declL_ne (W := W) (W.length + 1) [v] s1 (by simp)
 rcases hy : Syn.declL W (W.length + 1) [v] s1 with ⟨l, s2⟩
 rw [hy] at h1 h2
 simp only at h1 h2 ⊢
 simp at h2
 split
 · exact ⟨by simpa using h1, by simp; omega⟩
 split
 · exact ⟨by simpa using h1, by simp; omega⟩
 · exact ⟨by simpa using h1, by simp; omega⟩
def VsR (n : Nat) (H' : AHeap) (r : AV) (l : List Syn.Va) : Prop := (l = [] /\ r = .nilsl) \/ l ≠ [] /\ ∃ b op, r = .sl b 0 5 l.length l.length op /\ n <= b /\ H'.get b = some (.cells (zad l))
def DeclsR (H : AHeap) (p : Nat) (W : Syn.Ws) (x : List Syn.Va × Syn.St) (r : AV) (H' : AHeap) : Prop :=
 VsR H.next H' r x.1 /\ H'.get p = some (.cells (zaj W x.2)) /\ ∀ j y, j ≠ p -> H.get j = some y -> H'.get j = some y
theorem zi3 {W : Syn.Ws} (hW : WsOk W) : ∀ (m : Nat) (l : List Syn.Va) (s : Syn.St), Kp W s (Syn.declsL W m l s).2
 | 0, l, s => Kp.refl s
 | m + 1, l, s => by
   unfold Syn.declsL
   split
   · rename_i ho
     have h1 := zcx hW (is_kind ho).2
     have h2 := zdP hW { s with i := s.i + 1 }
     rcases hx : Syn.decl W { s with i := s.i + 1 } with ⟨v, s2⟩
     rw [hx] at h2
     simp only at h2 ⊢
     exact h1.trans (h2.trans (zi3 hW m _ _))
   · exact Kp.refl s
theorem zfm {W : Syn.Ws} (hW : WsOk W) (s : Syn.St) : Kp W s (Syn.decls W s).2 := by
 unfold Syn.decls
 split
 · exact Kp.refl s
 · have h1 := zdP hW s
   rcases hx : Syn.decl W s with ⟨l, s1⟩
   rw [hx] at h1
   simp only at h1 ⊢
   exact h1.trans (zi3 hW _ _ _)
theorem p_decls {W : Syn.Ws} (hW : WsOk W) {s : Syn.St} {p : Nat} {H : AHeap} (h : PAt H p W s) (hi : s.i < W.length) : Does Tryz.prog G 51 [.ptr p 0] H (DeclsR H p W (Syn.decls W s)) := by
 refine Does.wf Tryz.call51 fun hw _ => ?_
 have old : ∀ j x, H.get j = some x -> j < H.next := fun j x hj => zac hw hj
 refine zaf Tryz.call51 Tryz.func51 rfl (by simp [Tryz.f51]) ?_
 have hpl := old _ _ h
 simp
 refine zaa (zbO h hi) ?_
 rintro _ H1 ⟨rfl, rfl⟩
 by_cases hk : (Syn.at_ W s).2.kind = 1
 · have hk' : ((((Syn.at_ W s).2.kind : Nat) : Int) != 1) = false := by simp; omega
   simp [zat, hk']
   refine zav (p_decl hW h hi) ?_
   rintro r H2 ⟨⟨b0, op0, hr, hb0, hg0⟩, hP2, hk2⟩ hw2 _
   have hi2 := (zdP hW s hi).1
   obtain ⟨hne, hlen0⟩ := zh2 W s
   rcases hx : Syn.decl W s with ⟨l0, s1⟩
   rw [hx] at hr hg0 hP2 hi2 hne hlen0
   simp only at hr hg0 hP2 hi2 hne hlen0
   subst hr
   simp
   have hsm := hW.small
   obtain ⟨K, hK⟩ : ∃ K, K = W.length + 2 := ⟨_, rfl⟩
   have hK2 : K <= 20002 := by omega
   refine zai (fun m T' H' => ∃ l s' b opn, l ≠ [] /\ Syn.declsL W m l s' = Syn.declsL W (W.length + 1) l0 s1 /\ mu W s' < m /\ s'.i < W.length /\ l.length + m * K <= K + (W.length + 1) * K /\
    T' 0 = .ptr p 0 /\ T' 3 = .sl b 0 5 l.length l.length opn /\ H'.get b = some (.cells (zad l)) /\ H1.next <= b /\ PAt H' p W s' /\ (∀ x y, x ≠ p -> H1.get x = some y -> H'.get x = some y)) (W.length + 1) ?_ ?_
   · refine ⟨_, _, b0, op0, hne, rfl, ?_, hi2, by omega, by simp, by simp, hg0, hb0, hP2, hk2⟩
     unfold mu; split <;> omega
   rintro m T H3 ⟨l, s', b, opn, hln, hargs, hmu, hi', hlm, t0, t3, hb, hbn, hP, hkeep⟩ hw1 _
   have hN := zac hw1 hb
   have hpb : p ≠ b := by omega
   have hqb := Ne.symm hpb
   obtain ⟨k, rfl⟩ : ∃ k, m = k + 1 := ⟨m - 1, by omega⟩
   simp [t0, t3]
   refine zaa (zbF hW hP hi' [59]) ?_
   rintro _ H4 ⟨rfl, rfl⟩
   by_cases ho : Syn.is W s' [59] = true
   · have hi4 := zb4 hW hi' (is_kind ho).2
     have hm4 : mu W { s' with i := s'.i + 1 } < mu W s' := by
      have h0 := (is_kind ho).1
      unfold mu
      simp only [h0, if_true]
      omega
     simp [Syn.take, ho, t0, t3]
     refine zav (p_decl hW (W := W) (s := { s' with i := s'.i + 1 }) (PAt.set _) hi4) ?_
     rintro r H5 ⟨⟨b2, op2, hr, hb2, hg2⟩, hP5, hk5⟩ hw5 _
     obtain ⟨hi5, hm5⟩ := zdP hW { s' with i := s'.i + 1 } hi4
     obtain ⟨hne2, hlen2⟩ := zh2 W { s' with i := s'.i + 1 }
     rcases hy : Syn.decl W { s' with i := s'.i + 1 } with ⟨l2, s4⟩
     rw [hy] at hr hg2 hP5 hi5 hm5 hne2 hlen2
     simp only at hr hg2 hP5 hi5 hm5 hne2 hlen2
     subst hr
     have hb5 : H5.get b = some (.cells (zad l)) := hk5 b _ hqb (by simp [hqb, hb])
     have hN5 := zac hw5 hb5
     have hN6 := zac hw5 hg2
     have hP6 := zac hw5 hP5
     simp at hb2
     have q1 : b ≠ H5.next := by omega
     have q2 : b2 ≠ H5.next := by omega
     have q3 : p ≠ H5.next := by omega
     have q4 : b ≠ b2 := by omega
     have hl2 : l2.length ≠ 0 := by simpa using hne2
     have hgrow : ¬ (l.length + l2.length <= l.length) := by omega
     have hmulm : (k + 1) * K = k * K + K := Nat.succ_mul k K
     have hbig : (W.length + 1) * K <= 20002 * 20002 := Nat.mul_le_mul (by omega) hK2
     have g1 : (l.length + l2.length) * 56 <= 140737488355328 := by omega
     have g2 : l.length + l2.length <= 4611686018427387904 := by omega
     have g3 : List.take (l.length * 5) (zad l) = zad l := by rw [List.take_of_length_le]; rw [zam]; omega
     have g4 : List.take (l2.length * 5) (zad l2) = zad l2 := by rw [List.take_of_length_le]; rw [zam]; omega
     have g5 : (zad l).length = l.length * 5 := zam l
     have g6 : (zad l2).length = l2.length * 5 := zam l2
     have g7 := zaW l2
     cases opn <;> simp [t0, t3, hb5, hg2, hgrow, g1, g2, g3, g4, g5, g6, if_pos g7, hl2]
     all_goals
      refine ⟨k, by omega, l ++ l2, by simp [hln], s4, by rw [<- hargs]; simp [Syn.declsL, ho, hy], by omega, hi5, by simp; omega, H5.next, ⟨rfl, by simp⟩, by simp [zau], by omega, ?_, ?_⟩
      · unfold PAt
        simp [q3, hpb, hP5]
      · intro x y hxp hxy
        have := old x y hxy
        have k1 : x ≠ H5.next := by omega
        have k2 : x ≠ b := by omega
        simp [k1, k2, hk5 x y hxp (by simp [hxp, hkeep x y hxp hxy])]
   · have ho' : Syn.is W s' [59] = false := by simpa using ho
     have hdec : Syn.decls W s = (l, s') := by
      simp only [Syn.decls, Syn.kind, hk, hx, ne_eq, not_true_eq_false, if_false]
      rw [<- hargs]
      simp [Syn.declsL, ho']
     simp [Syn.take, ho', t0, t3]
     rw [hdec]
     refine ⟨.inr ⟨hln, b, opn, by simp, hbn, by simp [hqb, hb]⟩, by simp, fun x y hxp hxy => ?_⟩
     simp [hxp, hkeep x y hxp hxy]
 · have hk' : ((((Syn.at_ W s).2.kind : Nat) : Int) != 1) = true := by simp; omega
   have hdec : Syn.decls W s = ([], s) := by simp [Syn.decls, Syn.kind, hk]
   simp [zat, hk']
   rw [hdec]
   exact ⟨.inl ⟨rfl, rfl⟩, h, fun _ _ _ h => h⟩
def vsV (l : List Syn.Va) : AV := if l.isEmpty then .nilsl else .vsl (zad l) l.length
@[simp] theorem vsV_scalar (l : List Syn.Va) : (vsV l).scalar = true := by unfold vsV; split <;> rfl
@[simp] theorem vsV_cells (l : List Syn.Va) : (vsV l).cells = [vsV l] := by unfold vsV; split <;> rfl
theorem zeM (n : Nat) (l : List Syn.Va) : (vsV l).idLt n = true := by
 unfold vsV
 split
 · rfl
 · simpa [AV.idLt] using zca n l
theorem VsR.res {n : Nat} {H' : AHeap} {r : AV} {l : List Syn.Va} (h : VsR n H' r l) : ResV H'.get n r (vsV l) := by
 rcases h with ⟨rfl, rfl⟩ | ⟨hl, b, op, rfl, hb, hg⟩
 · exact .old rfl
 · have : vsV l = .vsl (zad l) l.length := by unfold vsV; rw [if_neg (by simpa using hl)]
   rw [this]
   refine .sl hb hg ?_
   rw [List.drop_zero, List.take_of_length_le (by rw [zam]; omega)]
   exact ResL.old (zca _ _)
theorem p_decls' {W : Syn.Ws} (hW : WsOk W) {s : Syn.St} {p : Nat} {H : AHeap} (h : PAt H p W s) (hi : s.i < W.length) : Does Tryz.prog G 51 [.ptr p 0] H fun r H' => r = vsV (Syn.decls W s).1 /\ H' = H.set p (.cells (zaj W (Syn.decls W s).2)) := by
 refine Does.deep (p_decls hW h hi) ?_
 rintro hw ha r H1 ⟨h1, h2, h3⟩
 exact ⟨_, H.set p (.cells (zaj W (Syn.decls W s).2)), h1.res, rfl, zcp hw h h2 h3, rfl, rfl⟩
def setOn (nm : Bs) (b : Bool) (v : Syn.Va) : Syn.Va := { v with on := nm, neg := b }
theorem zeo {W : Syn.Ws} (hW : WsOk W) (s : Syn.St) : Kp W s (Syn.local_ W s).2 := by
 unfold Syn.local_
 have h1 := zdP hW s
 rcases hx : Syn.decl W s with ⟨l, s1⟩
 rw [hx] at h1
 simp only at h1 ⊢
 split
 · rename_i ho
   have h2 := zcx hW (is_kind ho).2
   have h3 := zfG hW { s1 with i := s1.i + 1 } [110, 111, 116]
   rcases hy : Syn.take W { s1 with i := s1.i + 1 } [110, 111, 116] with ⟨b, s2⟩
   rw [hy] at h3
   simp only at h3 ⊢
   have h4 := zcy hW s2
   rcases hz : Syn.name W s2 with ⟨nm, s3⟩
   rw [hz] at h4
   simp only at h4 ⊢
   exact h1.trans (h2.trans (h3.trans h4))
 · exact h1
theorem zhp (W : Syn.Ws) (s : Syn.St) : (Syn.local_ W s).1 ≠ [] /\ (Syn.local_ W s).1.length <= W.length + 2 := by
 unfold Syn.local_
 have h1 := zh2 W s
 rcases hx : Syn.decl W s with ⟨l, s1⟩
 rw [hx] at h1
 simp only at h1 ⊢
 split
 · rcases hy : Syn.take W { s1 with i := s1.i + 1 } [110, 111, 116] with ⟨b, s2⟩
   simp only
   rcases hz : Syn.name W s2 with ⟨nm, s3⟩
   simp only
   exact ⟨by simpa using h1.1, by simpa using h1.2⟩
 · exact h1
theorem put_at (P R : List AV) (x0 x1 x2 x3 y z : AV) (m : Nat) (hm : P.length = m) :
  List.take (m + 3) (List.take (m + 2) (P ++ x0 :: x1 :: x2 :: x3 :: R) ++ y :: List.drop (m + 2 + 1) (P ++ x0 :: x1 :: x2 :: x3 :: R)) ++ z :: List.drop (m + 3 + 1) (List.take (m + 2) (P ++ x0 :: x1 :: x2 :: x3 :: R) ++ y :: List.drop (m + 2 + 1) (P ++ x0 :: x1 :: x2 :: x3 :: R)) = P ++ x0 :: x1 :: y :: z :: R := by
 subst hm
 have e1 : List.take (P.length + 2) (P ++ x0 :: x1 :: x2 :: x3 :: R) = P ++ [x0, x1] := by rw [List.take_append, List.take_of_length_le (by omega)]; simp
 have e2 : List.drop (P.length + 2 + 1) (P ++ x0 :: x1 :: x2 :: x3 :: R) = x3 :: R := by rw [List.drop_append, List.drop_of_length_le (by omega)]; simp [show P.length + 2 + 1 - P.length = 3 by omega]
 rw [e1, e2]
 have e3 : P ++ [x0, x1] ++ y :: x3 :: R = P ++ x0 :: x1 :: y :: x3 :: R := by simp
 rw [e3]
 have e4 : List.take (P.length + 3) (P ++ x0 :: x1 :: y :: x3 :: R) = P ++ [x0, x1, y] := by rw [List.take_append, List.take_of_length_le (by omega)]; simp
 have e5 : List.drop (P.length + 3 + 1) (P ++ x0 :: x1 :: y :: x3 :: R) = R := by rw [List.drop_append, List.drop_of_length_le (by omega)]; simp [show P.length + 3 + 1 - P.length = 4 by omega]
 rw [e4, e5]
 simp
theorem vas_put2 (a c : List Syn.Va) (v : Syn.Va) (nm : Bs) (b : Bool) (n : Nat) (hn : n = a.length) :
  List.take (n * 5 + 3) (List.take (n * 5 + 2) (zad (a ++ v :: c)) ++ .str nm :: List.drop (n * 5 + 2 + 1) (zad (a ++ v :: c))) ++ .bool b :: List.drop (n * 5 + 3 + 1) (List.take (n * 5 + 2) (zad (a ++ v :: c)) ++ .str nm :: List.drop (n * 5 + 2 + 1) (zad (a ++ v :: c))) = zad ((a ++ [setOn nm b v]) ++ c) := by
 have h0 : zad (a ++ v :: c) = zad a ++ .str v.name :: .int .i64 v.kind :: .str v.on :: .bool v.neg :: (.int .i64 v.pos :: zad c) := by
  rw [zau]; simp [zad, zar]
 have h1 := put_at (zad a) (.int .i64 v.pos :: zad c) (.str v.name) (.int .i64 v.kind) (.str v.on) (.bool v.neg) (.str nm) (.bool b) (n * 5) (by rw [zam, hn])
 rw [h0, h1]
 simp [zau, zad, zar, setOn]
theorem zjm {W : Syn.Ws} (hW : WsOk W) {s : Syn.St} {p : Nat} {H : AHeap} (h : PAt H p W s) (hi : s.i < W.length) : Does Tryz.prog G 100 [.ptr p 0] H (DeclR H p W (Syn.local_ W s)) := by
 refine Does.wf Tryz.call100 fun hw _ => ?_
 have old : ∀ j x, H.get j = some x -> j < H.next := fun j x hj => zac hw hj
 refine zaf Tryz.call100 Tryz.func100 rfl (by simp [Tryz.f100]) ?_
 have hpl := old _ _ h
 have hsm := hW.small
 simp
 refine zav (p_decl hW h hi) ?_
 rintro r H2 ⟨⟨b, opn, hr, hbn, hb⟩, hP2, hkeep⟩ hw2 _
 have hi2 := (zdP hW s hi).1
 obtain ⟨hne, hlen0⟩ := zh2 W s
 rcases hx : Syn.decl W s with ⟨l, s1⟩
 rw [hx] at hr hb hP2 hi2 hne hlen0
 simp only at hr hb hP2 hi2 hne hlen0
 subst hr
 have hpb : p ≠ b := by omega
 have hqb := Ne.symm hpb
 simp
 refine zaa (zbF hW hP2 hi2 [119, 104, 101, 110]) ?_
 rintro _ H3 ⟨rfl, rfl⟩
 by_cases ho : Syn.is W s1 [119, 104, 101, 110] = true
 · have hi3 : s1.i + 1 < W.length := zb4 hW hi2 (is_kind ho).2
   simp [Syn.take, ho]
   refine zaa (zbF hW (W := W) (s := { s1 with i := s1.i + 1 }) (PAt.set _) hi3 [110, 111, 116]) ?_
   rintro _ H4 ⟨rfl, rfl⟩
   have hi4 := zhb hW (W := W) (s := { s1 with i := s1.i + 1 }) hi3 [110, 111, 116]
   rcases hy : Syn.take W { s1 with i := s1.i + 1 } [110, 111, 116] with ⟨bn, s2⟩
   rw [hy] at hi4
   simp only at hi4
   simp
   refine zaa (zek hW (W := W) (s := s2) (PAt.set _) hi4) ?_
   rintro _ H5 ⟨rfl, rfl⟩
   rcases hz : Syn.name W s2 with ⟨nm, s3⟩
   have hloc : Syn.local_ W s = (l.map (setOn nm bn), s3) := by
    simp only [Syn.local_, hx, ho, if_true, hy, hz]
    rfl
   simp
   refine zai (fun m T' H' => ∃ a c, l = a ++ c /\ m = c.length /\ T' 0 = .ptr p 0 /\ T' 3 = .sl b 0 5 l.length l.length opn /\ T' 4 = .bool bn /\ T' 5 = .str nm /\ T' 18 = .int .i64 l.length /\ T' 19 = .int .i64 a.length /\
    H'.get b = some (.cells (zad (a.map (setOn nm bn) ++ c))) /\ H'.get p = some (.cells (zaj W s3)) /\ (∀ x y, x ≠ p -> H.get x = some y -> H'.get x = some y)) l.length ⟨[], l, rfl, rfl, by simp, by simp, by simp, by simp, by simp, by simp, by simp [hb, hqb], by simp, fun x y hxp hxy => ?_⟩ ?_
   · simp [hxp, hkeep x y hxp hxy]
   rintro m T H2 ⟨a, c, hac, rfl, t0, t3, t4, t5, t18, t19, hb2, hP3, hkeep2⟩ hw3 _
   have hlen : a.length + c.length = l.length := by rw [hac]; simp
   cases c with
   | nil =>
     have ha : a.length = l.length := by simpa using hlen
     rw [List.append_nil] at hac
     subst hac
     simp [t0, t3, t18, t19]
     rw [hloc]
     refine ⟨⟨b, opn, by simp, hbn, by simpa using hb2⟩, hP3, hkeep2⟩
   | cons v c =>
     simp only [List.length_cons] at hlen
     have hlt : (a.length : Int) < l.length := by omega
     have hlt2 : a.length < l.length := by omega
     have hlt3 : a.length <= l.length := by omega
     have hwa : IntKind.i64.wrap ((a.length : Int) + 1) = a.length + 1 := IntWalk.i64_in _ (by omega)
     have hcl : (zad (a.map (setOn nm bn) ++ v :: c)).length = l.length * 5 := by rw [zam]; simp; omega
     have hb3 : a.length * 5 + 2 + 1 <= l.length * 5 := by omega
     have hb4 : a.length * 5 + 3 + 1 <= l.length * 5 := by omega
     have hb5 : a.length * 5 + 3 + 1 <= min (a.length * 5 + 2) (l.length * 5) + (l.length * 5 - (a.length * 5 + 2 + 1) + 1) := by omega
     have hput := vas_put2 (a.map (setOn nm bn)) c v nm bn a.length (by simp)
     simp [t0, t3, t4, t5, t18, t19, hlt, hlt2, hlt3, hb2, hcl, hb3, hb4, hb5, hpb, hqb, hwa]
     refine ⟨c.length, by omega, a ++ [v], c, by rw [hac]; simp, rfl, by simp, by simpa using hput, hP3, fun x y hxp hxy => ?_⟩
     have := old x y hxy
     have k1 : x ≠ b := by omega
     simp [k1, hkeep2 x y hxp hxy]
 · have ho' : Syn.is W s1 [119, 104, 101, 110] = false := by simpa using ho
   have hloc : Syn.local_ W s = (l, s1) := by simp only [Syn.local_, hx, ho', Bool.false_eq_true, if_false]
   simp [Syn.take, ho']
   rw [hloc]
   exact ⟨⟨b, opn, by simp, hbn, by simp [hqb, hb]⟩, by simp, fun x y hxp hxy => by simp [hxp, hkeep x y hxp hxy]⟩
theorem zg8 {W : Syn.Ws} (hW : WsOk W) : ∀ (m : Nat) (l : List Syn.Va) (s : Syn.St), Kp W s (Syn.localsL W m l s).2
 | 0, l, s => Kp.refl s
 | m + 1, l, s => by
   unfold Syn.localsL
   split
   · have h2 := zeo hW s
     rcases hx : Syn.local_ W s with ⟨v, s2⟩
     rw [hx] at h2
     simp only at h2 ⊢
     exact h2.trans ((zaP hW s2 [59]).trans (zg8 hW m _ _))
   · exact Kp.refl s
theorem zin {W : Syn.Ws} (hW : WsOk W) (s : Syn.St) : Kp W s (Syn.locals_ W s).2 := by
 unfold Syn.locals_
 have key : ∀ (l : List Syn.Va) (s1 : Syn.St), Kp W s s1 -> Kp W s (Syn.localsL W (W.length + 1) l (Syn.want1 W s1 [59])).2 := fun l s1 h => h.trans ((zaP hW s1 [59]).trans (zg8 hW _ _ _))
 by_cases hk : Syn.kind W s = 1
 · rw [if_pos hk]
   have h1 := zeo hW s
   rcases hx : Syn.local_ W s with ⟨l, s1⟩
   rw [hx] at h1
   exact key l s1 h1
 · rw [if_neg hk]
   exact key [] s (Kp.refl s)
theorem zj4 {W : Syn.Ws} {s : Syn.St} (he : s.err = 0) (hk : (Syn.at_ W s).2.kind = 1) (hi : s.i < W.length) : mu W (Syn.declared W s).2 < mu W s := by
 have h0 : mu W s = W.length - s.i := by unfold mu; rw [if_pos he]
 unfold Syn.declared
 simp only [hk, if_true]
 split
 · have : (Syn.fail W 2 { s with names := Syn.wrap (s.names + 1) }).err = 2 := by unfold Syn.fail; simp [he]
   have hk2 : Syn.kind W (Syn.fail W 2 { s with names := Syn.wrap (s.names + 1) }) = 1 := by
    unfold Syn.fail
    simp only [he, if_true]
    exact hk
   unfold Syn.name
   rw [if_pos hk2]
   simp only [this, show (2 : Nat) ≠ 0 by omega, if_false]
   unfold mu
   rw [if_neg (by rw [this]; omega), if_pos he]
   omega
 · have hk2 : Syn.kind W { s with names := Syn.wrap (s.names + 1) } = 1 := hk
   unfold Syn.name
   rw [if_pos hk2]
   simp only [he, if_true]
   unfold mu
   simp only [he, if_true]
   omega
theorem decl_lt {W : Syn.Ws} (hW : WsOk W) {s : Syn.St} (he : s.err = 0) (hk : (Syn.at_ W s).2.kind = 1) (hi : s.i < W.length) : mu W (Syn.decl W s).2 < mu W s := by
 have h0 := zj4 he hk hi
 have hi1 := (zcf hW s hi).1
 unfold Syn.decl
 rcases hx : Syn.declared W s with ⟨v, s1⟩
 rw [hx] at h0 hi1
 simp only at h0 hi1 ⊢
 have h2 := zh3 hW (W.length + 1) [v] s1
 rcases hy : Syn.declL W (W.length + 1) [v] s1 with ⟨l, s2⟩
 rw [hy] at h2
 simp only at h2 ⊢
 have h3 := zaP hW s2 [58]
 split
 · rename_i ho
   have := (h2.trans (h3.trans (zcx hW (is_kind ho).2)) hi1).2
   exact Nat.lt_of_le_of_lt this h0
 split
 · rename_i ho
   have := (h2.trans (h3.trans (zcx hW (is_kind ho).2)) hi1).2
   exact Nat.lt_of_le_of_lt this h0
 · have := (h2.trans (h3.trans (zht (e := 7) (by omega) _)) hi1).2
   exact Nat.lt_of_le_of_lt this h0
theorem local_lt {W : Syn.Ws} (hW : WsOk W) {s : Syn.St} (he : s.err = 0) (hk : (Syn.at_ W s).2.kind = 1) (hi : s.i < W.length) : mu W (Syn.local_ W s).2 < mu W s := by
 have h0 := decl_lt hW he hk hi
 have hi1 := (zdP hW s hi).1
 unfold Syn.local_
 rcases hx : Syn.decl W s with ⟨l, s1⟩
 rw [hx] at h0 hi1
 simp only at h0 hi1 ⊢
 split
 · rename_i ho
   have h2 := zcx hW (is_kind ho).2
   have h3 := zfG hW { s1 with i := s1.i + 1 } [110, 111, 116]
   rcases hy : Syn.take W { s1 with i := s1.i + 1 } [110, 111, 116] with ⟨b, s2⟩
   rw [hy] at h3
   simp only at h3 ⊢
   have h4 := zcy hW s2
   rcases hz : Syn.name W s2 with ⟨nm, s3⟩
   rw [hz] at h4
   simp only at h4 ⊢
   exact Nat.lt_of_le_of_lt ((h2.trans (h3.trans h4)) hi1).2 h0
 · exact h0
theorem p_locals {W : Syn.Ws} (hW : WsOk W) {s : Syn.St} {p : Nat} {H : AHeap} (h : PAt H p W s) (hi : s.i < W.length) : Does Tryz.prog G 53 [.ptr p 0] H (DeclsR H p W (Syn.locals_ W s)) := by
 refine Does.wf Tryz.call53 fun hw _ => ?_
 have old : ∀ j x, H.get j = some x -> j < H.next := fun j x hj => zac hw hj
 refine zaf Tryz.call53 Tryz.func53 rfl (by simp [Tryz.f53]) ?_
 have hpl := old _ _ h
 have hsm := hW.small
 obtain ⟨K, hK⟩ : ∃ K, K = W.length + 2 := ⟨_, rfl⟩
 have hK2 : K <= 20002 := by omega
 have hbig : (W.length + 1) * K <= 20002 * 20002 := Nat.mul_le_mul (by omega) hK2
 simp
 refine zaa (zbO h hi) ?_
 rintro _ H1 ⟨rfl, rfl⟩
 by_cases hk : (Syn.at_ W s).2.kind = 1
 · have hk' : ((((Syn.at_ W s).2.kind : Nat) : Int) = 1) = True := eq_true (by omega)
   simp [zat, hk']
   refine zav (zjm hW h hi) ?_
   rintro r H2 ⟨⟨b0, op0, hr, hb0, hg0⟩, hP2, hk2⟩ hw2 _
   have hi2 := (zeo hW s hi).1
   obtain ⟨hne, hlen0⟩ := zhp W s
   have hsp : Syn.locals_ W s = Syn.localsL W (W.length + 1) (Syn.local_ W s).1 (Syn.want1 W (Syn.local_ W s).2 [59]) := by
    have hkk : Syn.kind W s = 1 := hk
    unfold Syn.locals_
    rw [if_pos hkk]
   rcases hx : Syn.local_ W s with ⟨l0, s1⟩
   rw [hx] at hr hg0 hP2 hi2 hne hlen0 hsp
   simp only at hr hg0 hP2 hi2 hne hlen0 hsp
   subst hr
   have hN2 := zac hw2 hg0
   have hpN := zac hw2 hP2
   have hb0p : b0 ≠ p := by omega
   simp
   have hsp1 : (H2.push (.cells [.str [59]])).get p = some (.cells (zaj W s1)) := by
    have e : p ≠ H2.next := by omega
    simp [e]; exact hP2
   refine zaa (zaI hW (W := W) (s := s1) hsp1 hi2 [[59]] H2.next 1 false (by simp) (by omega) (by simp)) ?_
   rintro _ H3 ⟨rfl, rfl⟩
   have hw1' : Syn.want W s1 [[59]] = Syn.want1 W s1 [59] := rfl
   rw [hw1']
   simp
   have hi3 := za2 hW hi2 [59]
   refine zai (fun m T' H' => ∃ l s', Syn.localsL W m l s' = Syn.localsL W (W.length + 1) l0 (Syn.want1 W s1 [59]) /\ mu W s' < m /\ s'.i < W.length /\ l.length + m * K <= K + (W.length + 1) * K /\
    T' 0 = .ptr p 0 /\ VsR H1.next H' (T' 3) l /\ PAt H' p W s' /\ H1.next <= H'.next /\ (∀ x y, x ≠ p -> H1.get x = some y -> H'.get x = some y)) (W.length + 1) ?_ ?_
   · refine ⟨l0, _, rfl, ?_, hi3, by omega, by simp, ?_, by unfold PAt; simp, by simp; try omega, fun x y hxp hxy => ?_⟩
     · unfold mu; split <;> omega
     · exact .inr ⟨hne, b0, op0, by simp, hb0, by simp [Nat.ne_of_lt hN2, hb0p, hg0]⟩
     · have := old x y hxy
       have e : x ≠ H2.next := by omega
       simp [hxp, e, hk2 x y hxp hxy]
   rintro m T H4 ⟨l, s', hargs, hmu, hi', hlm, t0, hvs, hP, hnx, hkeep⟩ hw4 _
   obtain ⟨k, rfl⟩ : ∃ k, m = k + 1 := ⟨m - 1, by omega⟩
   have hmulm : (k + 1) * K = k * K + K := Nat.succ_mul k K
   have stop : ¬ (s'.err = 0 /\ Syn.kind W s' = 1) -> DeclsR H1 p W (Syn.locals_ W s) (T 3) H4 := fun hs => by
    have e : Syn.locals_ W s = (l, s') := by rw [hsp, <- hargs, Syn.localsL, if_neg hs]
    rw [e]
    exact ⟨hvs, hP, hkeep⟩
   simp [t0]
   refine zaa (p_ok hP) ?_
   rintro _ _ ⟨rfl, rfl⟩
   by_cases he : s'.err = 0
   · simp [he, t0]
     refine zaa (zbO hP hi') ?_
     rintro _ _ ⟨rfl, rfl⟩
     by_cases hk : (Syn.at_ W s').2.kind = 1
     · have hk' : ((((Syn.at_ W s').2.kind : Nat) : Int) = 1) = True := eq_true (by omega)
       simp [zat, hk', t0]
       refine zav (zjm hW hP hi') ?_
       rintro r H5 ⟨⟨b2, op2, hr, hb2, hg2⟩, hP5, hk5⟩ hw5 _
       have hi5 := (zeo hW s' hi').1
       have hm5 := local_lt hW he hk hi'
       obtain ⟨hne2, hlen2⟩ := zhp W s'
       rcases hy : Syn.local_ W s' with ⟨l2, s4⟩
       rw [hy] at hr hg2 hP5 hi5 hm5 hne2 hlen2
       simp only at hr hg2 hP5 hi5 hm5 hne2 hlen2
       subst hr
       have hN6 := zac hw5 hg2
       have hP6 := zac hw5 hP5
       have q3 : p ≠ H5.next := by omega
       have q5 : p ≠ H5.next + 1 := by omega
       have q6 : True := trivial
       have q3' := Ne.symm q3
       have q5' := Ne.symm q5
       have hl2 : l2.length ≠ 0 := by simpa using hne2
       have g4 : List.take (l2.length * 5) (zad l2) = zad l2 := by rw [List.take_of_length_le]; rw [zam]; omega
       have g6 : (zad l2).length = l2.length * 5 := zam l2
       have g7 := zaW l2
       rcases hvs with ⟨rfl, t3⟩ | ⟨hln, b, opn, t3, hbn, hb⟩
       · have g1 : l2.length * 56 <= 140737488355328 := by omega
         have g2 : l2.length <= 4611686018427387904 := by omega
         simp [t0, t3, hg2, g1, g2, g4, g6, if_pos g7, hl2]
         have hp5 : ((H5.push (.cells (zad l2))).push (.cells [.str [59]])).get p = some (.cells (zaj W s4)) := by simp [q3, q5, q6, hP5]
         refine zaa (zaI hW (W := W) (s := s4) hp5 hi5 [[59]] (H5.next + 1) 1 false (by simp) (by omega) (by simp)) ?_
         rintro _ H6 ⟨rfl, rfl⟩
         have hw2' : Syn.want W s4 [[59]] = Syn.want1 W s4 [59] := rfl
         rw [hw2']
         have hi6 := za2 hW hi5 [59]
         have hmu6 := zaU W s4 [59]
         simp [t0]
         refine ⟨k, by omega, l2, Syn.want1 W s4 [59], by rw [<- hargs]; simp [Syn.localsL, he, hk, Syn.kind, hy], by omega, hi6, by simp only [List.length_nil, List.length_append] at hlm ⊢; omega, .inr ⟨by simp [hne2], H5.next, true, by simp, by omega, by simp [q3', zau]⟩, by unfold PAt; simp, by (try simp); omega, fun x y hxp hxy => ?_⟩
         have := old x y hxy
         have k1 : x ≠ H5.next := by omega
         have k2 : x ≠ H5.next + 1 := by omega
         simp [k1, k2, hxp, hk5 x y hxp (hkeep x y hxp hxy)]
       · have hpb : p ≠ b := by
          intro e
          subst e
          have := hP.symm.trans hb
          have hwl : l.length ≠ 0 := by simpa using hln
          have h2 := congrArg (fun x => match x with | some (AObj.cells cs) => cs.length | _ => 0) this
          simp [zaj, zam] at h2
          omega
         have hqb := Ne.symm hpb
         have hb5 : H5.get b = some (.cells (zad l)) := hk5 b _ hqb hb
         have hN5 := zac hw5 hb5
         have q1 : b ≠ H5.next := by omega
         have q2 : b2 ≠ H5.next := by omega
         have hbN := zac hw4 hb
         have q4 : b ≠ b2 := by omega
         have q6 : p ≠ b := hpb
         have hgrow : ¬ (l.length + l2.length <= l.length) := by omega
         have g1 : (l.length + l2.length) * 56 <= 140737488355328 := by omega
         have g2 : l.length + l2.length <= 4611686018427387904 := by omega
         have g3 : List.take (l.length * 5) (zad l) = zad l := by rw [List.take_of_length_le]; rw [zam]; omega
         have g5 : (zad l).length = l.length * 5 := zam l
         cases opn
         · simp [t0, t3, hb5, hg2, hgrow, g1, g2, g3, g4, g5, g6, if_pos g7, hl2]
           have hp5 : ((H5.push (.cells (zad l ++ zad l2))).push (.cells [.str [59]])).get p = some (.cells (zaj W s4)) := by simp [q3, q5, q6, hP5]
           refine zaa (zaI hW (W := W) (s := s4) hp5 hi5 [[59]] (H5.next + 1) 1 false (by simp) (by omega) (by simp)) ?_
           rintro _ H6 ⟨rfl, rfl⟩
           have hw2' : Syn.want W s4 [[59]] = Syn.want1 W s4 [59] := rfl
           rw [hw2']
           have hi6 := za2 hW hi5 [59]
           have hmu6 := zaU W s4 [59]
           simp [t0]
           refine ⟨k, by omega, l ++ l2, Syn.want1 W s4 [59], by rw [<- hargs]; simp [Syn.localsL, he, hk, Syn.kind, hy], by omega, hi6, by simp only [List.length_nil, List.length_append] at hlm ⊢; omega, .inr ⟨by simp [hne2], H5.next, true, by simp, by omega, by simp [q3', zau]⟩, by unfold PAt; simp, by (try simp); omega, fun x y hxp hxy => ?_⟩
           have := old x y hxy
           have k1 : x ≠ H5.next := by omega
           have k2 : x ≠ H5.next + 1 := by omega
           have k3 : x ≠ b := by omega
           simp [k1, k2, hxp, k3, hk5 x y hxp (hkeep x y hxp hxy)]
         · simp [t0, t3, hb5, hg2, hgrow, g1, g2, g3, g4, g5, g6, if_pos g7, hl2]
           have hp5 : (((H5.kill b).push (.cells (zad l ++ zad l2))).push (.cells [.str [59]])).get p = some (.cells (zaj W s4)) := by simp [q3, q5, q6, hP5]
           refine zaa (zaI hW (W := W) (s := s4) hp5 hi5 [[59]] (H5.next + 1) 1 false (by simp) (by omega) (by simp)) ?_
           rintro _ H6 ⟨rfl, rfl⟩
           have hw2' : Syn.want W s4 [[59]] = Syn.want1 W s4 [59] := rfl
           rw [hw2']
           have hi6 := za2 hW hi5 [59]
           have hmu6 := zaU W s4 [59]
           simp [t0]
           refine ⟨k, by omega, l ++ l2, Syn.want1 W s4 [59], by rw [<- hargs]; simp [Syn.localsL, he, hk, Syn.kind, hy], by omega, hi6, by simp only [List.length_nil, List.length_append] at hlm ⊢; omega, .inr ⟨by simp [hne2], H5.next, true, by simp, by omega, by simp [q3', zau]⟩, by unfold PAt; simp, by (try simp); omega, fun x y hxp hxy => ?_⟩
           have := old x y hxy
           have k1 : x ≠ H5.next := by omega
           have k2 : x ≠ H5.next + 1 := by omega
           have k3 : x ≠ b := by omega
           simp [k1, k2, hxp, k3, hk5 x y hxp (hkeep x y hxp hxy)]
     · have hk' : ((((Syn.at_ W s').2.kind : Nat) : Int) = 1) = False := eq_false (by omega)
       simp [zat, hk', t0]
       exact stop fun h => hk h.2
   · simp [he, t0]
     exact stop fun h => he h.1
 · have hk' : ((((Syn.at_ W s).2.kind : Nat) : Int) = 1) = False := eq_false (by omega)
   simp [zat, hk']
   obtain ⟨s1, hs1⟩ : ∃ s1, s1 = s := ⟨_, rfl⟩
   obtain ⟨l0, hl0⟩ : ∃ l0 : List Syn.Va, l0 = [] := ⟨_, rfl⟩
   have hP2 : H1.get p = some (.cells (zaj W s1)) := by rw [hs1]; exact h
   have hi2 : s1.i < W.length := by rw [hs1]; exact hi
   have hk2 : ∀ j y, j ≠ p -> H1.get j = some y -> H1.get j = some y := fun _ _ _ h => h
   have hlen0 : l0.length <= W.length + 2 := by rw [hl0]; simp
   have hsp : Syn.locals_ W s = Syn.localsL W (W.length + 1) l0 (Syn.want1 W s1 [59]) := by
    have hkk : ¬ Syn.kind W s = 1 := hk
    unfold Syn.locals_
    rw [if_neg hkk, hs1, hl0]
   have hw2 := hw
   have hpN := zac hw2 hP2
   have hsp1 : (H1.push (.cells [.str [59]])).get p = some (.cells (zaj W s1)) := by
    have e : p ≠ H1.next := by omega
    simp [e]; exact hP2
   refine zaa (zaI hW (W := W) (s := s1) hsp1 hi2 [[59]] H1.next 1 false (by simp) (by omega) (by simp)) ?_
   rintro _ H3 ⟨rfl, rfl⟩
   have hw1' : Syn.want W s1 [[59]] = Syn.want1 W s1 [59] := rfl
   rw [hw1']
   simp
   have hi3 := za2 hW hi2 [59]
   refine zai (fun m T' H' => ∃ l s', Syn.localsL W m l s' = Syn.localsL W (W.length + 1) l0 (Syn.want1 W s1 [59]) /\ mu W s' < m /\ s'.i < W.length /\ l.length + m * K <= K + (W.length + 1) * K /\
    T' 0 = .ptr p 0 /\ VsR H1.next H' (T' 3) l /\ PAt H' p W s' /\ H1.next <= H'.next /\ (∀ x y, x ≠ p -> H1.get x = some y -> H'.get x = some y)) (W.length + 1) ?_ ?_
   · refine ⟨l0, _, rfl, ?_, hi3, by omega, by simp, ?_, by unfold PAt; simp, by simp; try omega, fun x y hxp hxy => ?_⟩
     · unfold mu; split <;> omega
     · exact .inl ⟨hl0, by simp⟩
     · have := old x y hxy
       have e : x ≠ H1.next := by omega
       simp [hxp, e, hk2 x y hxp hxy]
   rintro m T H4 ⟨l, s', hargs, hmu, hi', hlm, t0, hvs, hP, hnx, hkeep⟩ hw4 _
   obtain ⟨k, rfl⟩ : ∃ k, m = k + 1 := ⟨m - 1, by omega⟩
   have hmulm : (k + 1) * K = k * K + K := Nat.succ_mul k K
   have stop : ¬ (s'.err = 0 /\ Syn.kind W s' = 1) -> DeclsR H1 p W (Syn.locals_ W s) (T 3) H4 := fun hs => by
    have e : Syn.locals_ W s = (l, s') := by rw [hsp, <- hargs, Syn.localsL, if_neg hs]
    rw [e]
    exact ⟨hvs, hP, hkeep⟩
   simp [t0]
   refine zaa (p_ok hP) ?_
   rintro _ _ ⟨rfl, rfl⟩
   by_cases he : s'.err = 0
   · simp [he, t0]
     refine zaa (zbO hP hi') ?_
     rintro _ _ ⟨rfl, rfl⟩
     by_cases hk : (Syn.at_ W s').2.kind = 1
     · have hk' : ((((Syn.at_ W s').2.kind : Nat) : Int) = 1) = True := eq_true (by omega)
       simp [zat, hk', t0]
       refine zav (zjm hW hP hi') ?_
       rintro r H5 ⟨⟨b2, op2, hr, hb2, hg2⟩, hP5, hk5⟩ hw5 _
       have hi5 := (zeo hW s' hi').1
       have hm5 := local_lt hW he hk hi'
       obtain ⟨hne2, hlen2⟩ := zhp W s'
       rcases hy : Syn.local_ W s' with ⟨l2, s4⟩
       rw [hy] at hr hg2 hP5 hi5 hm5 hne2 hlen2
       simp only at hr hg2 hP5 hi5 hm5 hne2 hlen2
       subst hr
       have hN6 := zac hw5 hg2
       have hP6 := zac hw5 hP5
       have q3 : p ≠ H5.next := by omega
       have q5 : p ≠ H5.next + 1 := by omega
       have q6 : True := trivial
       have q3' := Ne.symm q3
       have q5' := Ne.symm q5
       have hl2 : l2.length ≠ 0 := by simpa using hne2
       have g4 : List.take (l2.length * 5) (zad l2) = zad l2 := by rw [List.take_of_length_le]; rw [zam]; omega
       have g6 : (zad l2).length = l2.length * 5 := zam l2
       have g7 := zaW l2
       rcases hvs with ⟨rfl, t3⟩ | ⟨hln, b, opn, t3, hbn, hb⟩
       · have g1 : l2.length * 56 <= 140737488355328 := by omega
         have g2 : l2.length <= 4611686018427387904 := by omega
         simp [t0, t3, hg2, g1, g2, g4, g6, if_pos g7, hl2]
         have hp5 : ((H5.push (.cells (zad l2))).push (.cells [.str [59]])).get p = some (.cells (zaj W s4)) := by simp [q3, q5, q6, hP5]
         refine zaa (zaI hW (W := W) (s := s4) hp5 hi5 [[59]] (H5.next + 1) 1 false (by simp) (by omega) (by simp)) ?_
         rintro _ H6 ⟨rfl, rfl⟩
         have hw2' : Syn.want W s4 [[59]] = Syn.want1 W s4 [59] := rfl
         rw [hw2']
         have hi6 := za2 hW hi5 [59]
         have hmu6 := zaU W s4 [59]
         simp [t0]
         refine ⟨k, by omega, l2, Syn.want1 W s4 [59], by rw [<- hargs]; simp [Syn.localsL, he, hk, Syn.kind, hy], by omega, hi6, by simp only [List.length_nil, List.length_append] at hlm ⊢; omega, .inr ⟨by simp [hne2], H5.next, true, by simp, by omega, by simp [q3', zau]⟩, by unfold PAt; simp, by (try simp); omega, fun x y hxp hxy => ?_⟩
         have := old x y hxy
         have k1 : x ≠ H5.next := by omega
         have k2 : x ≠ H5.next + 1 := by omega
         simp [k1, k2, hxp, hk5 x y hxp (hkeep x y hxp hxy)]
       · have hpb : p ≠ b := by
          intro e
          subst e
          have := hP.symm.trans hb
          have hwl : l.length ≠ 0 := by simpa using hln
          have h2 := congrArg (fun x => match x with | some (AObj.cells cs) => cs.length | _ => 0) this
          simp [zaj, zam] at h2
          omega
         have hqb := Ne.symm hpb
         have hb5 : H5.get b = some (.cells (zad l)) := hk5 b _ hqb hb
         have hN5 := zac hw5 hb5
         have q1 : b ≠ H5.next := by omega
         have q2 : b2 ≠ H5.next := by omega
         have hbN := zac hw4 hb
         have q4 : b ≠ b2 := by omega
         have q6 : p ≠ b := hpb
         have hgrow : ¬ (l.length + l2.length <= l.length) := by omega
         have g1 : (l.length + l2.length) * 56 <= 140737488355328 := by omega
         have g2 : l.length + l2.length <= 4611686018427387904 := by omega
         have g3 : List.take (l.length * 5) (zad l) = zad l := by rw [List.take_of_length_le]; rw [zam]; omega
         have g5 : (zad l).length = l.length * 5 := zam l
         cases opn
         · simp [t0, t3, hb5, hg2, hgrow, g1, g2, g3, g4, g5, g6, if_pos g7, hl2]
           have hp5 : ((H5.push (.cells (zad l ++ zad l2))).push (.cells [.str [59]])).get p = some (.cells (zaj W s4)) := by simp [q3, q5, q6, hP5]
           refine zaa (zaI hW (W := W) (s := s4) hp5 hi5 [[59]] (H5.next + 1) 1 false (by simp) (by omega) (by simp)) ?_
           rintro _ H6 ⟨rfl, rfl⟩
           have hw2' : Syn.want W s4 [[59]] = Syn.want1 W s4 [59] := rfl
           rw [hw2']
           have hi6 := za2 hW hi5 [59]
           have hmu6 := zaU W s4 [59]
           simp [t0]
           refine ⟨k, by omega, l ++ l2, Syn.want1 W s4 [59], by rw [<- hargs]; simp [Syn.localsL, he, hk, Syn.kind, hy], by omega, hi6, by simp only [List.length_nil, List.length_append] at hlm ⊢; omega, .inr ⟨by simp [hne2], H5.next, true, by simp, by omega, by simp [q3', zau]⟩, by unfold PAt; simp, by (try simp); omega, fun x y hxp hxy => ?_⟩
           have := old x y hxy
           have k1 : x ≠ H5.next := by omega
           have k2 : x ≠ H5.next + 1 := by omega
           have k3 : x ≠ b := by omega
           simp [k1, k2, hxp, k3, hk5 x y hxp (hkeep x y hxp hxy)]
         · simp [t0, t3, hb5, hg2, hgrow, g1, g2, g3, g4, g5, g6, if_pos g7, hl2]
           have hp5 : (((H5.kill b).push (.cells (zad l ++ zad l2))).push (.cells [.str [59]])).get p = some (.cells (zaj W s4)) := by simp [q3, q5, q6, hP5]
           refine zaa (zaI hW (W := W) (s := s4) hp5 hi5 [[59]] (H5.next + 1) 1 false (by simp) (by omega) (by simp)) ?_
           rintro _ H6 ⟨rfl, rfl⟩
           have hw2' : Syn.want W s4 [[59]] = Syn.want1 W s4 [59] := rfl
           rw [hw2']
           have hi6 := za2 hW hi5 [59]
           have hmu6 := zaU W s4 [59]
           simp [t0]
           refine ⟨k, by omega, l ++ l2, Syn.want1 W s4 [59], by rw [<- hargs]; simp [Syn.localsL, he, hk, Syn.kind, hy], by omega, hi6, by simp only [List.length_nil, List.length_append] at hlm ⊢; omega, .inr ⟨by simp [hne2], H5.next, true, by simp, by omega, by simp [q3', zau]⟩, by unfold PAt; simp, by (try simp); omega, fun x y hxp hxy => ?_⟩
           have := old x y hxy
           have k1 : x ≠ H5.next := by omega
           have k2 : x ≠ H5.next + 1 := by omega
           have k3 : x ≠ b := by omega
           simp [k1, k2, hxp, k3, hk5 x y hxp (hkeep x y hxp hxy)]
     · have hk' : ((((Syn.at_ W s').2.kind : Nat) : Int) = 1) = False := eq_false (by omega)
       simp [zat, hk', t0]
       exact stop fun h => hk h.2
   · simp [he, t0]
     exact stop fun h => he h.1
theorem p_locals' {W : Syn.Ws} (hW : WsOk W) {s : Syn.St} {p : Nat} {H : AHeap} (h : PAt H p W s) (hi : s.i < W.length) : Does Tryz.prog G 53 [.ptr p 0] H fun r H' => r = vsV (Syn.locals_ W s).1 /\ H' = H.set p (.cells (zaj W (Syn.locals_ W s).2)) := by
 refine Does.deep (p_locals hW h hi) ?_
 rintro hw ha r H1 ⟨h1, h2, h3⟩
 exact ⟨_, H.set p (.cells (zaj W (Syn.locals_ W s).2)), h1.res, rfl, zcp hw h h2 h3, rfl, rfl⟩
def zao (q : Syn.Eqn) : List AV := .str q.name :: (zas q.e ++ [.int .i64 q.pos])
def zag : List Syn.Eqn -> List AV
 | [] => []
 | q :: l => zao q ++ zag l
theorem zaZ (q : Syn.Eqn) : (zao q).length = 7 := by simp [zao, zci]
theorem zaq : ∀ l : List Syn.Eqn, (zag l).length = l.length * 7
 | [] => rfl
 | q :: l => by rw [zag, List.length_append, zaq l, zaZ]; simp; omega
theorem za4 : ∀ a b : List Syn.Eqn, zag (a ++ b) = zag a ++ zag b
 | [], b => rfl
 | q :: a, b => by rw [List.cons_append, zag, zag, za4 a b, List.append_assoc]
theorem zcR (n : Nat) : ∀ l : List Syn.Eqn, AV.allLt n (zag l) = true
 | [] => rfl
 | q :: l => by
   rw [zag, zbh, zcR n l]
   simp [zao, AV.allLt, AV.idLt, zbh, zc5]
def eqsV (l : List Syn.Eqn) : AV := if l.isEmpty then .nilsl else .vsl (zag l) l.length
def EqsR (n : Nat) (H' : AHeap) (r : AV) (l : List Syn.Eqn) : Prop := (l = [] /\ r = .nilsl) \/ l ≠ [] /\ ∃ b op, r = .sl b 0 7 l.length l.length op /\ n <= b /\ H'.get b = some (.cells (zag l))
theorem EqsR.res {n : Nat} {H' : AHeap} {r : AV} {l : List Syn.Eqn} (h : EqsR n H' r l) : ResV H'.get n r (eqsV l) := by
 rcases h with ⟨rfl, rfl⟩ | ⟨hl, b, op, rfl, hb, hg⟩
 · exact .old rfl
 · have : eqsV l = .vsl (zag l) l.length := by unfold eqsV; rw [if_neg (by simpa using hl)]
   rw [this]
   refine .sl hb hg ?_
   rw [List.drop_zero, List.take_of_length_le (by rw [zaq]; omega)]
   exact ResL.old (zcR _ _)
def zah (n : Syn.Nd) : List AV := [.str n.name, vsV n.ins, vsV n.outs, vsV n.locals, eqsV n.eqs, .int .i64 n.pos]
def EqsB (n m : Nat) (H' : AHeap) (r : AV) (l : List Syn.Eqn) : Prop := (l = [] /\ r = .nilsl) \/ l ≠ [] /\ ∃ b op, r = .sl b 0 7 l.length l.length op /\ n <= b /\ b < m /\ H'.get b = some (.cells (zag l))
theorem EqsB.to {n m : Nat} {H' H2 : AHeap} {r : AV} {l : List Syn.Eqn} (h : EqsB n m H' r l) (hk : ∀ b, n <= b -> b < m -> H2.get b = H'.get b) : EqsB n m H2 r l := by
 rcases h with h | ⟨hl, b, op, h1, h2, h3, h4⟩
 · exact .inl h
 · exact .inr ⟨hl, b, op, h1, h2, h3, by rw [hk b h2 h3]; exact h4⟩
theorem name_lt {W : Syn.Ws} {s : Syn.St} (he : s.err = 0) (hk : (Syn.at_ W s).2.kind = 1) (hi : s.i < W.length) : mu W (Syn.name W s).2 < mu W s := by
 have hk2 : Syn.kind W s = 1 := hk
 unfold Syn.name
 rw [if_pos hk2]
 simp only [he, if_true]
 unfold mu
 simp only [he, if_true]
 omega
theorem zjv {W : Syn.Ws} (hW : WsOk W) : ∀ (ts : List Bs) (s : Syn.St), Kp W s (Syn.want W s ts)
 | [], s => Kp.refl s
 | t :: ts, s => (zaP hW s t).trans (zjv hW ts _)
def z6 : List AV := [.str [], .nilsl, .nilsl, .nilsl, .nilsl, .int .i64 0]
structure NI (W : Syn.Ws) (H : AHeap) (p : Nat) (H1 : AHeap) (s : Syn.St) (c : List AV) : Prop where
 P : H1.get p = some (.cells (zaj W s))
 g : H1.get (H.next + 1) = some (.cells c)
 z : H1.get H.next = some (.cells z6)
 l : p < H.next
 n : H.next + 1 < H1.next
 k : ∀ x y, x < H.next -> x ≠ p -> H.get x = some y -> H1.get x = some y
section
variable {W : Syn.Ws} {H H1 : AHeap} {p : Nat} {s : Syn.St} {c : List AV}
theorem NI.push (h : NI W H p H1 s c) (x : AObj) : NI W H p (H1.push x) s c := by
 have hp := h.l
 have hn := h.n
 have e1 : p ≠ H1.next := by omega
 have e2 : H.next + 1 ≠ H1.next := by omega
 have e3 : H.next ≠ H1.next := by omega
 refine ⟨by simp [e1, h.P], by simp [e2, h.g], by simp [e3, h.z], hp, by simp; omega, fun j y j1 j2 j3 => ?_⟩
 have e4 : j ≠ H1.next := by omega
 simp [e4, h.k j y j1 j2 j3]
theorem NI.setp (h : NI W H p H1 s c) (s' : Syn.St) : NI W H p (H1.set p (.cells (zaj W s'))) s' c := by
 have hp := h.l
 have hn := h.n
 have e2 : H.next + 1 ≠ p := by omega
 have e3 : H.next ≠ p := by omega
 exact ⟨by simp, by simp [e2, h.g], by simp [e3, h.z], hp, by simpa using hn, fun j y j1 j2 j3 => by simp [j2, h.k j y j1 j2 j3]⟩
theorem NI.setn (h : NI W H p H1 s c) (c' : List AV) : NI W H p (H1.set (H.next + 1) (.cells c')) s c' := by
 have hp := h.l
 have hn := h.n
 have e1 : p ≠ H.next + 1 := by omega
 refine ⟨by simp [e1, h.P], by simp, by simp [h.z], hp, by simpa using hn, fun j y j1 j2 j3 => ?_⟩
 have e4 : j ≠ H.next + 1 := by omega
 simp [e4, h.k j y j1 j2 j3]
theorem NI.sete (h : NI W H p H1 s c) (b : Nat) (x : AObj) (hb : H.next + 1 < b) : NI W H p (H1.set b x) s c := by
 have hp := h.l
 have e1 : p ≠ b := by omega
 have e2 : H.next + 1 ≠ b := by omega
 have e3 : H.next ≠ b := by omega
 refine ⟨by simp [e1, h.P], by simp [e2, h.g], by simp [e3, h.z], hp, by simpa using h.n, fun j y j1 j2 j3 => ?_⟩
 have e4 : j ≠ b := by omega
 simp [e4, h.k j y j1 j2 j3]
theorem NI.kill (h : NI W H p H1 s c) (b : Nat) (hb : H.next + 1 < b) : NI W H p (H1.kill b) s c := by
 have hp := h.l
 have e1 : p ≠ b := by omega
 have e2 : H.next + 1 ≠ b := by omega
 have e3 : H.next ≠ b := by omega
 refine ⟨by simp [e1, h.P], by simp [e2, h.g], by simp [e3, h.z], hp, by simpa using h.n, fun j y j1 j2 j3 => ?_⟩
 have e4 : j ≠ b := by omega
 simp [e4, h.k j y j1 j2 j3]
theorem NI.np (h : NI W H p H1 s c) : H1.next ≠ p := by have := h.l; have := h.n; omega
theorem NI.nn (h : NI W H p H1 s c) : H.next + 1 ≠ H1.next := by have := h.n; omega
end
theorem p_node {W : Syn.Ws} (hW : WsOk W) {s : Syn.St} {p : Nat} {H : AHeap} (h : PAt H p W s) (hi : s.i < W.length) : Does Tryz.prog G 27 [.ptr p 0] H fun r H' => ∃ E, r = .agg [.str (Syn.node W s).1.name, vsV (Syn.node W s).1.ins, vsV (Syn.node W s).1.outs, vsV (Syn.node W s).1.locals, E, .int .i64 (Syn.node W s).1.pos] /\ EqsR H.next H' E (Syn.node W s).1.eqs /\
  H'.get p = some (.cells (zaj W (Syn.node W s).2)) /\ ∀ j y, j ≠ p -> H.get j = some y -> H'.get j = some y := by
 refine Does.wf Tryz.call27 fun hw _ => ?_
 have old : ∀ j x, H.get j = some x -> j < H.next := fun j x hj => zac hw hj
 refine zaf Tryz.call27 Tryz.func27 rfl (by simp [Tryz.f27]) ?_
 have hpl := old _ _ h
 have hsm := hW.small
 have hp1 : p ≠ H.next := by omega
 have hp2 : p ≠ H.next + 1 := by omega
 have h' := h
 unfold PAt at h'
 simp
 refine zaa (zbO (W := W) (s := s) (by unfold PAt; simp [hp1, h']) hi) ?_
 rintro _ _ ⟨rfl, rfl⟩
 obtain ⟨s0, hs0⟩ : ∃ s0 : Syn.St, s0 = { s with names := 0 } := ⟨_, rfl⟩
 have hi0 : s0.i < W.length := by rw [hs0]; exact hi
 have st0 : zaj W s0 = [.vsl (flatW W) W.length, .int .i64 s.i, .int .i64 0, .int .i64 s.parts, .int .i64 s.err, .int .i64 s.pos] := by rw [hs0]; rfl
 unfold zaj at h'
 simp [zat, h', hp1, hp2]
 rw [<- st0]
 have b0 : NI W H p ((H.push (.cells z6)).push (.cells z6)) s z6 := by
  have e1 : H.next ≠ H.next + 1 := by omega
  refine ⟨by simp [hp1, hp2]; exact h, by simp, by simp [e1], hpl, by simp, fun x y j1 j2 j3 => ?_⟩
  have e2 : x ≠ H.next := by omega
  have e3 : x ≠ H.next + 1 := by omega
  simp [e2, e3, j3]
 obtain ⟨pos, hpos⟩ : ∃ pos, pos = (Syn.at_ W s).1 := ⟨_, rfl⟩
 rw [<- hpos]
 have i0 := (b0.setn [.str [], .nilsl, .nilsl, .nilsl, .nilsl, .int .i64 pos]).setp s0
 generalize hH0 : ((((H.push (.cells z6)).push (.cells z6)).set (H.next + 1) (.cells [.str [], .nilsl, .nilsl, .nilsl, .nilsl, .int .i64 pos])).set p (.cells (zaj W s0))) = H0 at i0
 unfold z6 at hH0
 rw [hH0]
 have n0 : H.next + 1 + 1 = H0.next := by rw [<- hH0]; rfl
 rw [n0]
 clear hH0 n0
 refine zaa (zaI hW (W := W) (s := s0) (i0.push _).P hi0 [[110, 111, 100, 101]] _ 1 false (by simp) i0.np (by simp)) ?_
 rintro _ H1 ⟨rfl, hH1⟩
 obtain ⟨s1, hs1⟩ : ∃ x, x = Syn.want1 W s0 [110, 111, 100, 101] := ⟨_, rfl⟩
 have hi1 : s1.i < W.length := by rw [hs1]; exact za2 hW hi0 _
 have i1 : NI W H p H1 s1 [.str [], .nilsl, .nilsl, .nilsl, .nilsl, .int .i64 pos] := by
  rw [hH1, hs1]; exact (i0.push _).setp _
 clear hH1
 simp
 refine zaa (zek hW i1.P hi1) ?_
 rintro _ H2 ⟨rfl, hH2⟩
 have hi2 := (zcy hW s1 hi1).1
 rcases hx2 : Syn.name W s1 with ⟨nm, s2⟩
 rw [hx2] at hH2 hi2
 simp only at hH2 hi2
 have i2 : NI W H p H2 s2 [.str [], .nilsl, .nilsl, .nilsl, .nilsl, .int .i64 pos] := by
  rw [hH2]; exact i1.setp _
 clear hH2
 simp [i2.g]
 have j2 := i2.setn [.str nm, .nilsl, .nilsl, .nilsl, .nilsl, .int .i64 pos]
 refine zaa (zaI hW (W := W) (s := s2) (j2.push _).P hi2 [[40]] _ 1 false (by simp) j2.np (by simp)) ?_
 rintro _ H3 ⟨rfl, hH3⟩
 obtain ⟨s3, hs3⟩ : ∃ x, x = Syn.want1 W s2 [40] := ⟨_, rfl⟩
 have hi3 : s3.i < W.length := by rw [hs3]; exact za2 hW hi2 _
 have i3 : NI W H p H3 s3 [.str nm, .nilsl, .nilsl, .nilsl, .nilsl, .int .i64 pos] := by
  rw [hH3, hs3]; exact (j2.push _).setp _
 clear hH3
 simp
 refine zaa (p_decls' hW i3.P hi3) ?_
 rintro _ H4 ⟨rfl, hH4⟩
 have hi4 := (zfm hW s3 hi3).1
 rcases hx4 : Syn.decls W s3 with ⟨ins, s4⟩
 rw [hx4] at hH4 hi4
 simp only at hH4 hi4
 have i4 : NI W H p H4 s4 [.str nm, .nilsl, .nilsl, .nilsl, .nilsl, .int .i64 pos] := by
  rw [hH4]; exact i3.setp _
 clear hH4
 simp [i4.g]
 have j4 := i4.setn [.str nm, vsV ins, .nilsl, .nilsl, .nilsl, .int .i64 pos]
 refine zaa (zaI hW (W := W) (s := s4) (j4.push _).P hi4 [[41], [114, 101, 116, 117, 114, 110, 115], [40]] _ 3 false (by simp) j4.np (by simp)) ?_
 rintro _ H5 ⟨rfl, hH5⟩
 obtain ⟨s5, hs5⟩ : ∃ x, x = Syn.want W s4 [[41], [114, 101, 116, 117, 114, 110, 115], [40]] := ⟨_, rfl⟩
 have hi5 : s5.i < W.length := by rw [hs5]; exact ze4 hW _ hi4
 have i5 : NI W H p H5 s5 [.str nm, vsV ins, .nilsl, .nilsl, .nilsl, .int .i64 pos] := by
  rw [hH5, hs5]; exact (j4.push _).setp _
 clear hH5
 simp
 refine zaa (p_decls' hW i5.P hi5) ?_
 rintro _ H6 ⟨rfl, hH6⟩
 have hi6 := (zfm hW s5 hi5).1
 rcases hx6 : Syn.decls W s5 with ⟨outs, s6⟩
 rw [hx6] at hH6 hi6
 simp only at hH6 hi6
 have i6 : NI W H p H6 s6 [.str nm, vsV ins, .nilsl, .nilsl, .nilsl, .int .i64 pos] := by
  rw [hH6]; exact i5.setp _
 clear hH6
 simp [i6.g]
 have j6 := i6.setn [.str nm, vsV ins, vsV outs, .nilsl, .nilsl, .int .i64 pos]
 refine zaa (zaI hW (W := W) (s := s6) (j6.push _).P hi6 [[41], [59]] _ 2 false (by simp) j6.np (by simp)) ?_
 rintro _ H7 ⟨rfl, hH7⟩
 obtain ⟨s7, hs7⟩ : ∃ x, x = Syn.want W s6 [[41], [59]] := ⟨_, rfl⟩
 have hi7 : s7.i < W.length := by rw [hs7]; exact ze4 hW _ hi6
 have i7 : NI W H p H7 s7 [.str nm, vsV ins, vsV outs, .nilsl, .nilsl, .int .i64 pos] := by
  rw [hH7, hs7]; exact (j6.push _).setp _
 clear hH7
 simp
 refine zaa (zbF hW i7.P hi7 [118, 97, 114]) ?_
 rintro _ H8 ⟨rfl, hH8⟩
 have hi8 := zhb hW hi7 [118, 97, 114]
 rcases hx8 : Syn.take W s7 [118, 97, 114] with ⟨bv, s8⟩
 rw [hx8] at hH8 hi8
 simp only at hH8 hi8
 have i8 : NI W H p H8 s8 [.str nm, vsV ins, vsV outs, .nilsl, .nilsl, .int .i64 pos] := by
  rw [hH8]; exact i7.setp _
 clear hH8
 cases bv
 · simp
   obtain ⟨locs, hlocs⟩ : ∃ l : List Syn.Va, l = [] := ⟨_, rfl⟩
   have i9 : NI W H p H8 s8 [.str nm, vsV ins, vsV outs, vsV locs, .nilsl, .int .i64 pos] := by
    rw [hlocs]; exact i8
   have hi9 := hi8
   obtain ⟨s9, hs9⟩ : ∃ x, x = s8 := ⟨_, rfl⟩
   rw [<- hs9] at i9 hi9
   refine zaa (zaI hW (W := W) (s := s9) (i9.push _).P hi9 [[108, 101, 116]] _ 1 false (by simp) i9.np (by simp)) ?_
   rintro _ HA ⟨rfl, hHA⟩
   obtain ⟨sA, hsA⟩ : ∃ x, x = Syn.want1 W s9 [108, 101, 116] := ⟨_, rfl⟩
   have hiA : sA.i < W.length := by rw [hsA]; exact za2 hW hi9 _
   have iA : NI W H p HA sA [.str nm, vsV ins, vsV outs, vsV locs, .nilsl, .int .i64 pos] := by
    rw [hHA, hsA]; exact (i9.push _).setp _
   clear hHA
   simp
   refine zai (fun m T' H' => ∃ l s' E, Syn.eqsL W m l s' = Syn.eqsL W (W.length + 1) [] sA /\ mu W s' < m /\ s'.i < W.length /\ l.length + m <= W.length + 1 /\
    T' 0 = .ptr p 0 /\ T' 2 = .ptr H.next 0 /\ T' 3 = .ptr (H.next + 1) 0 /\ NI W H p H' s' [.str nm, vsV ins, vsV outs, vsV locs, E, .int .i64 pos] /\ EqsR (H.next + 2) H' E l) (W.length + 1)
    ⟨[], sA, .nilsl, rfl, by unfold mu; split <;> omega, hiA, by simp, by simp, by simp, by simp, iA, .inl ⟨rfl, rfl⟩⟩ ?_
   rintro m T H1 ⟨l, s', E, hargs, hmu, hi', hlm, t0, t2, t3, iI, hE0⟩ hw1 _
   have hE : EqsB (H.next + 2) H1.next H1 E l := by
    rcases hE0 with h | ⟨hln, b, opn, h1, h2, h3⟩
    · exact .inl h
    · exact .inr ⟨hln, b, opn, h1, h2, zac hw1 h3, h3⟩
   obtain ⟨k, rfl⟩ : ∃ k, m = k + 1 := ⟨m - 1, by omega⟩
   simp [t0]
   refine zaa (p_ok iI.P) ?_
   rintro _ HX ⟨rfl, hHX⟩
   rw [hHX]
   clear hHX HX
   by_cases he : s'.err = 0
   rotate_left
   · have hend : Syn.eqsL W (k + 1) l s' = (l, s') := by rw [Syn.eqsL, if_neg (fun h => he h.1)]
     rw [hend] at hargs
     simp [he, t0, t2, t3]
     refine zaa (zaI hW (W := W) (s := s') (iI.push _).P hi' [[116, 101, 108]] _ 1 false (by simp) iI.np (by simp)) ?_
     rintro _ HY ⟨rfl, hHY⟩
     obtain ⟨sY, hsY⟩ : ∃ x, x = Syn.want1 W s' [116, 101, 108] := ⟨_, rfl⟩
     have hiY : sY.i < W.length := by rw [hsY]; exact za2 hW hi' _
     have iY : NI W H p HY sY [.str nm, vsV ins, vsV outs, vsV locs, E, .int .i64 pos] := by
      rw [hHY, hsY]; exact (iI.push _).setp _
     have hEY : EqsB (H.next + 2) H1.next HY E l := hE.to fun b b1 b2 => by
      have e : b ≠ p := by have := iI.l; omega
      have e3 : b ≠ H1.next := by omega
      rw [hHY]; simp [e, e3]
     clear hHY
     simp [t0]
     refine zaa (zbF hW iY.P hiY [59]) ?_
     rintro _ HZ ⟨rfl, hHZ⟩
     rcases hxZ : Syn.take W sY [59] with ⟨bz, sZ⟩
     rw [hxZ] at hHZ
     simp only at hHZ
     have iZ : NI W H p HZ sZ [.str nm, vsV ins, vsV outs, vsV locs, E, .int .i64 pos] := by
      rw [hHZ]; exact iY.setp _
     have hEZ : EqsB (H.next + 2) H1.next HZ E l := hEY.to fun b b1 b2 => by
      have e : b ≠ p := by have := iI.l; omega
      rw [hHZ]; simp [e]
     clear hHZ
     have iZz := iZ.z
     unfold z6 at iZz
     have hnode : Syn.node W s = (⟨nm, ins, outs, locs, l, pos⟩, sZ) := by
      simp only [Syn.node, <- hs0, <- hs1, hx2, <- hs3, hx4, <- hs5, hx6, <- hs7, hx8, Bool.false_eq_true, if_false, <- hs9, <- hlocs, <- hsA, <- hargs, <- hsY, hxZ, <- hpos]
      try rfl
     rw [hnode]
     have hEsc : E.scalar = true /\ E.cells = [E] := by
      rcases hE with ⟨_, rfl⟩ | ⟨_, b, opn, rfl, _⟩ <;> exact ⟨rfl, rfl⟩
     simp [t2, t3, iZ.g, iZz, hEsc.1, hEsc.2]
     refine ⟨?_, by simp [hp1, iZ.P], fun j y j1 j2 => ?_⟩
     · rcases hEZ with h | ⟨hln, b, opn, h1, h2, _, h3⟩
       · exact .inl h
       · have e : b ≠ H.next := by omega
         exact .inr ⟨hln, b, opn, h1, by omega, by simp [e, h3]⟩
     · have := old j y j2
       have e : j ≠ H.next := by omega
       simp [e, iZ.k j y this j1 j2]
   simp [he, t0]
   refine zaa (zbO iI.P hi') ?_
   rintro _ HX ⟨rfl, hHX⟩
   rw [hHX]
   clear hHX HX
   by_cases hk : (Syn.at_ W s').2.kind = 1
   rotate_left
   · have hend : Syn.eqsL W (k + 1) l s' = (l, s') := by rw [Syn.eqsL, if_neg (fun h => hk h.2)]
     have hk' : ((((Syn.at_ W s').2.kind : Nat) : Int) = 1) = False := eq_false (by omega)
     rw [hend] at hargs
     simp [zat, hk', t0, t2, t3]
     refine zaa (zaI hW (W := W) (s := s') (iI.push _).P hi' [[116, 101, 108]] _ 1 false (by simp) iI.np (by simp)) ?_
     rintro _ HY ⟨rfl, hHY⟩
     obtain ⟨sY, hsY⟩ : ∃ x, x = Syn.want1 W s' [116, 101, 108] := ⟨_, rfl⟩
     have hiY : sY.i < W.length := by rw [hsY]; exact za2 hW hi' _
     have iY : NI W H p HY sY [.str nm, vsV ins, vsV outs, vsV locs, E, .int .i64 pos] := by
      rw [hHY, hsY]; exact (iI.push _).setp _
     have hEY : EqsB (H.next + 2) H1.next HY E l := hE.to fun b b1 b2 => by
      have e : b ≠ p := by have := iI.l; omega
      have e3 : b ≠ H1.next := by omega
      rw [hHY]; simp [e, e3]
     clear hHY
     simp [t0]
     refine zaa (zbF hW iY.P hiY [59]) ?_
     rintro _ HZ ⟨rfl, hHZ⟩
     rcases hxZ : Syn.take W sY [59] with ⟨bz, sZ⟩
     rw [hxZ] at hHZ
     simp only at hHZ
     have iZ : NI W H p HZ sZ [.str nm, vsV ins, vsV outs, vsV locs, E, .int .i64 pos] := by
      rw [hHZ]; exact iY.setp _
     have hEZ : EqsB (H.next + 2) H1.next HZ E l := hEY.to fun b b1 b2 => by
      have e : b ≠ p := by have := iI.l; omega
      rw [hHZ]; simp [e]
     clear hHZ
     have iZz := iZ.z
     unfold z6 at iZz
     have hnode : Syn.node W s = (⟨nm, ins, outs, locs, l, pos⟩, sZ) := by
      simp only [Syn.node, <- hs0, <- hs1, hx2, <- hs3, hx4, <- hs5, hx6, <- hs7, hx8, Bool.false_eq_true, if_false, <- hs9, <- hlocs, <- hsA, <- hargs, <- hsY, hxZ, <- hpos]
      try rfl
     rw [hnode]
     have hEsc : E.scalar = true /\ E.cells = [E] := by
      rcases hE with ⟨_, rfl⟩ | ⟨_, b, opn, rfl, _⟩ <;> exact ⟨rfl, rfl⟩
     simp [t2, t3, iZ.g, iZz, hEsc.1, hEsc.2]
     refine ⟨?_, by simp [hp1, iZ.P], fun j y j1 j2 => ?_⟩
     · rcases hEZ with h | ⟨hln, b, opn, h1, h2, _, h3⟩
       · exact .inl h
       · have e : b ≠ H.next := by omega
         exact .inr ⟨hln, b, opn, h1, by omega, by simp [e, h3]⟩
     · have := old j y j2
       have e : j ≠ H.next := by omega
       simp [e, iZ.k j y this j1 j2]
   have hk' : ((((Syn.at_ W s').2.kind : Nat) : Int) = 1) = True := eq_true (by omega)
   simp [zat, hk', t0]
   refine zaa (zbO iI.P hi') ?_
   rintro _ HX ⟨rfl, hHX⟩
   rw [hHX]
   clear hHX HX
   simp [zat, t0]
   refine zav (zek hW iI.P hi') ?_
   rintro _ HB ⟨rfl, hHB⟩ hwB _
   have hiB := (zcy hW s' hi').1
   have hmB := name_lt he hk hi'
   rcases hxB : Syn.name W s' with ⟨nmq, sB⟩
   rw [hxB] at hHB hiB hmB
   simp only at hHB hiB hmB
   have iB : NI W H p HB sB [.str nm, vsV ins, vsV outs, vsV locs, E, .int .i64 pos] := by
    rw [hHB]; exact iI.setp _
   have hE' : EqsB (H.next + 2) HB.next HB E l := by
    rcases hE with h | ⟨hln, b, opn, h1, h2, _, h3⟩
    · exact .inl h
    · have e : b ≠ p := by have := iI.l; omega
      have h4 : HB.get b = some (.cells (zag l)) := by rw [hHB]; simp [e, h3]
      exact .inr ⟨hln, b, opn, h1, h2, zac hwB h4, h4⟩
   clear hE hHB
   obtain ⟨posq, hposq⟩ : ∃ x, x = (Syn.at_ W s').1 := ⟨_, rfl⟩
   rw [<- hposq]
   simp [t0]
   have iB2 := iB.push (.cells [.str nmq, .str [], .str [], .int .i64 0, .int .i64 0, .nilsl, .int .i64 posq])
   refine zaa (zaI hW (W := W) (s := sB) (iB2.push _).P hiB [[61]] _ 1 false (by simp) (by have := iB2.np; simpa using this) (by simp)) ?_
   rintro _ HC ⟨rfl, hHC⟩
   obtain ⟨sC, hsC⟩ : ∃ x, x = Syn.want1 W sB [61] := ⟨_, rfl⟩
   have hiC : sC.i < W.length := by rw [hsC]; exact za2 hW hiB _
   have hmC : mu W sC <= mu W sB := by rw [hsC]; exact zaU W sB _
   have iC : NI W H p HC sC [.str nm, vsV ins, vsV outs, vsV locs, E, .int .i64 pos] := by
    rw [hHC, hsC]; exact (iB2.push _).setp _
   have tbp := iB.np
   have nBC : HB.next < HC.next := by rw [hHC]; simp; omega
   have tC : HC.get HB.next = some (.cells [.str nmq, .str [], .str [], .int .i64 0, .int .i64 0, .nilsl, .int .i64 posq]) := by
    rw [hHC]; simp [tbp]
   have hEC : EqsB (H.next + 2) HB.next HC E l := hE'.to fun b b1 b2 => by
    have e : b ≠ p := by have := iI.l; omega
    have e3 : b ≠ HB.next := by omega
    have e4 : b ≠ HB.next + 1 := by omega
    rw [hHC]; simp [e, e3, e4]
   clear hE' hHC
   obtain ⟨sD, hsD⟩ : ∃ x : Syn.St, x = { sC with parts := 0 } := ⟨_, rfl⟩
   have hiD : sD.i < W.length := by rw [hsD]; exact hiC
   have hmD : mu W sD <= mu W sC := by rw [hsD]; exact Nat.le_refl _
   have stD : zaj W sD = [.vsl (flatW W) W.length, .int .i64 sC.i, .int .i64 sC.names, .int .i64 0, .int .i64 sC.err, .int .i64 sC.pos] := by rw [hsD]; rfl
   have hPC := iC.P
   unfold zaj at hPC
   simp [hPC, t0]
   rw [<- stD]
   have iD := iC.setp sD
   obtain ⟨HE0, hHE0⟩ : ∃ x, x = HC.set p (.cells (zaj W sD)) := ⟨_, rfl⟩
   rw [<- hHE0] at iD ⊢
   have hED : EqsB (H.next + 2) HB.next HE0 E l := hEC.to fun b b1 b2 => by
    have e : b ≠ p := by have := iI.l; omega
    rw [hHE0]; simp [e]
   have tD : HE0.get HB.next = some (.cells [.str nmq, .str [], .str [], .int .i64 0, .int .i64 0, .nilsl, .int .i64 posq]) := by rw [hHE0]; simp [tbp, tC]
   have nBD : HB.next < HE0.next := by rw [hHE0]; simpa using nBC
   clear hHE0 hEC tC
   refine zaa (p_ok iD.P) ?_
   rintro _ HX ⟨rfl, hHX⟩
   rw [hHX]
   clear hHX HX
   by_cases heD : sD.err = 0
   · have heC : sC.err = 0 := by rw [hsD] at heD; exact heD
     simp [heD, t0]
     refine zaa (p_top hW p _ sD iD.P hiD) ?_
     rintro _ HE ⟨rfl, hHE⟩
     have hiE := (zdf hW).i sD hiD
     have hmE := (zdf hW).mu sD hiD
     rcases hxe0 : (Syn.lv W 29).expr sD with ⟨⟨eop, enm, en, epos, eks⟩, sE⟩
     rw [hxe0] at hHE hiE hmE
     simp only at hHE hiE hmE
     have iE : NI W H p HE sE [.str nm, vsV ins, vsV outs, vsV locs, E, .int .i64 pos] := by
      rw [hHE]; exact iD.setp _
     have tE : HE.get HB.next = some (.cells [.str nmq, .str [], .str [], .int .i64 0, .int .i64 0, .nilsl, .int .i64 posq]) := by rw [hHE]; simp [tbp, tD]
     have hEE : EqsB (H.next + 2) HB.next HE E l := hED.to fun b b1 b2 => by
      have e : b ≠ p := by have := iI.l; omega
      rw [hHE]; simp [e]
     have nBE : HB.next < HE.next := by rw [hHE]; simpa using nBD
     clear hHE
     have iE2 := iE.sete HB.next (.cells [.str nmq, .str eop, .str enm, .int .i64 en, .int .i64 epos, kidsV eks, .int .i64 posq]) (by have := iB.n; omega)
     have tE2 : True := trivial
     simp [zab, tE, t0]
     refine zaa (zaI hW (W := W) (s := sE) (iE2.push _).P hiE [[59]] _ 1 false (by simp) (by have := iE2.np; simpa using this) (by simp)) ?_
     rintro _ HF ⟨rfl, hHF⟩
     obtain ⟨sF, hsF⟩ : ∃ x, x = Syn.want1 W sE [59] := ⟨_, rfl⟩
     have hiF : sF.i < W.length := by rw [hsF]; exact za2 hW hiE _
     have hmF : mu W sF <= mu W sE := by rw [hsF]; exact zaU W sE _
     have iF : NI W H p HF sF [.str nm, vsV ins, vsV outs, vsV locs, E, .int .i64 pos] := by
      rw [hHF, hsF]; exact (iE2.push _).setp _
     have nBF : HB.next < HF.next := by rw [hHF]; simp; omega
     have tF : HF.get HB.next = some (.cells (zao ⟨nmq, .mk eop enm en epos eks, posq⟩)) := by
      rw [hHF]; simp [tbp, Nat.ne_of_lt nBE, tE2, zao, zab, kidsV, Syn.Ex.zero]
     have hEF : EqsB (H.next + 2) HB.next HF E l := hEE.to fun b b1 b2 => by
      have e : b ≠ p := by have := iI.l; omega
      have e3 : b ≠ HB.next := by omega
      have e4 : b ≠ HE.next := by omega
      rw [hHF]; simp [e, e3, e4]
     clear hHF
     have hql := zaZ ⟨nmq, .mk eop enm en epos eks, posq⟩
     have hqs : ∀ x ∈ zao ⟨nmq, .mk eop enm en epos eks, posq⟩, x.scalar = true := by simp [zao, zab, Syn.Ex.zero]
     have hqq : zag [⟨nmq, .mk eop enm en epos eks, posq⟩] = zao ⟨nmq, .mk eop enm en epos eks, posq⟩ := by simp [zag]
     have hstep : Syn.eqsL W (k + 1) l s' = Syn.eqsL W k (l ++ [⟨nmq, .mk eop enm en epos eks, posq⟩]) sF := by
      rw [Syn.eqsL, if_pos ⟨he, hk⟩]
      simp only [hxB, <- hsC, <- hsD, hxe0, <- hposq]
      simp only [if_pos heC, <- hsF]
     rw [hstep] at hargs
     obtain ⟨q, hq⟩ : ∃ q : Syn.Eqn, q = ⟨nmq, .mk eop enm en epos eks, posq⟩ := ⟨_, rfl⟩
     rw [<- hq] at tF hql hqs hqq hargs
     obtain ⟨qc, hqc⟩ : ∃ qc, qc = zao q := ⟨_, rfl⟩
     rw [<- hqc] at tF hql hqs hqq
     have g7 : List.take 7 qc = qc := List.take_of_length_le (by omega)
     have hqs' : (∀ x : AV, x ∈ qc -> x.scalar = true) = True := eq_true hqs
     have iFn := iF.n
     have iFg := iF.g
     have tbF : HB.next ≠ HF.next := by omega
     have n1F : H.next + 1 ≠ HF.next := by omega
     have n2F : H.next + 1 ≠ HF.next + 1 := by omega
     have n3F : H.next ≠ HF.next := by omega
     rcases hEF with ⟨rfl, rfl⟩ | ⟨hln, b, opn, rfl, hbn, hbB, hb⟩
     · simp [iFg, tF, n1F, n2F, n3F, tbF, t0, t2, t3, hql, g7, hqs']
       exact ⟨k, by omega, [q], sF, by simpa using hargs, by omega, hiF, by simp only [List.length_nil, List.length_cons] at hlm ⊢; omega, _, ((iF.push _).push _).setn _, .inr ⟨by simp, HF.next + 1, true, by simp, by omega, by simp [Ne.symm n3F, hqq]⟩⟩
     · have bF : b ≠ HF.next := by omega
       have g1 : List.take (l.length * 7) (zag l) = zag l := by rw [List.take_of_length_le]; rw [zaq]; omega
       have g2 : (zag l).length = l.length * 7 := zaq l
       have hgrow : ¬ (l.length + 1 <= l.length) := by omega
       have g3 : (l.length + 1) * 96 <= 140737488355328 := by omega
       have g4 : l.length <= 4611686018427387903 := by omega
       have nb : H.next + 1 ≠ b := by omega
       have nbF : HF.next + 1 ≠ b := by omega
       cases opn
       · simp [iFg, tF, n1F, n2F, n3F, tbF, t0, t2, t3, hql, g7, hqs', hb, bF, g1, g2, g3, g4, hgrow]
         exact ⟨k, by omega, l ++ [q], sF, hargs, by omega, hiF, by simp; omega, _, ((iF.push _).push _).setn _, .inr ⟨by simp, HF.next + 1, true, by simp, by omega, by simp [Ne.symm n3F, hqq, za4]⟩⟩
       · simp [iFg, tF, n1F, n2F, n3F, tbF, t0, t2, t3, hql, g7, hqs', hb, bF, g1, g2, g3, g4, hgrow, nb]
         exact ⟨k, by omega, l ++ [q], sF, hargs, by omega, hiF, by simp; omega, _, (((iF.push _).kill b (by omega)).push _).setn _, .inr ⟨by simp, HF.next + 1, true, by simp, by omega, by simp [Ne.symm n3F, hqq, za4]⟩⟩
   · have heC : ¬ sC.err = 0 := by rw [hsD] at heD; exact heD
     simp [heD, t0]
     have hxe0 : True := trivial
     have hiE := hiD
     obtain ⟨HE, hHE⟩ : ∃ x, x = HE0 := ⟨_, rfl⟩
     rw [<- hHE]
     rw [<- hHE] at iD tD hED nBD
     have hEE := hED
     have nBE := nBD
     have tE2 := tD
     refine zaa (zaI hW (W := W) (s := sD) (iD.push _).P hiD [[59]] _ 1 false (by simp) (by have := iD.np; simpa using this) (by simp)) ?_
     rintro _ HF ⟨rfl, hHF⟩
     obtain ⟨sF, hsF⟩ : ∃ x, x = Syn.want1 W sD [59] := ⟨_, rfl⟩
     have hiF : sF.i < W.length := by rw [hsF]; exact za2 hW hiD _
     have hmF : mu W sF <= mu W sD := by rw [hsF]; exact zaU W sD _
     have iF : NI W H p HF sF [.str nm, vsV ins, vsV outs, vsV locs, E, .int .i64 pos] := by
      rw [hHF, hsF]; exact (iD.push _).setp _
     have nBF : HB.next < HF.next := by rw [hHF]; simp; omega
     have tF : HF.get HB.next = some (.cells (zao ⟨nmq, .zero, posq⟩)) := by
      rw [hHF]; simp [tbp, Nat.ne_of_lt nBE, tE2, zao, zab, kidsV, Syn.Ex.zero]
     have hEF : EqsB (H.next + 2) HB.next HF E l := hEE.to fun b b1 b2 => by
      have e : b ≠ p := by have := iI.l; omega
      have e3 : b ≠ HB.next := by omega
      have e4 : b ≠ HE.next := by omega
      rw [hHF]; simp [e, e3, e4]
     clear hHF
     have hql := zaZ ⟨nmq, .zero, posq⟩
     have hqs : ∀ x ∈ zao ⟨nmq, .zero, posq⟩, x.scalar = true := by simp [zao, zab, Syn.Ex.zero]
     have hqq : zag [⟨nmq, .zero, posq⟩] = zao ⟨nmq, .zero, posq⟩ := by simp [zag]
     have hstep : Syn.eqsL W (k + 1) l s' = Syn.eqsL W k (l ++ [⟨nmq, .zero, posq⟩]) sF := by
      rw [Syn.eqsL, if_pos ⟨he, hk⟩]
      simp only [hxB, <- hsC, <- hsD, hxe0, <- hposq]
      simp only [if_neg heC, <- hsF]
     rw [hstep] at hargs
     obtain ⟨q, hq⟩ : ∃ q : Syn.Eqn, q = ⟨nmq, .zero, posq⟩ := ⟨_, rfl⟩
     rw [<- hq] at tF hql hqs hqq hargs
     obtain ⟨qc, hqc⟩ : ∃ qc, qc = zao q := ⟨_, rfl⟩
     rw [<- hqc] at tF hql hqs hqq
     have g7 : List.take 7 qc = qc := List.take_of_length_le (by omega)
     have hqs' : (∀ x : AV, x ∈ qc -> x.scalar = true) = True := eq_true hqs
     have iFn := iF.n
     have iFg := iF.g
     have tbF : HB.next ≠ HF.next := by omega
     have n1F : H.next + 1 ≠ HF.next := by omega
     have n2F : H.next + 1 ≠ HF.next + 1 := by omega
     have n3F : H.next ≠ HF.next := by omega
     rcases hEF with ⟨rfl, rfl⟩ | ⟨hln, b, opn, rfl, hbn, hbB, hb⟩
     · simp [iFg, tF, n1F, n2F, n3F, tbF, t0, t2, t3, hql, g7, hqs']
       exact ⟨k, by omega, [q], sF, by simpa using hargs, by omega, hiF, by simp only [List.length_nil, List.length_cons] at hlm ⊢; omega, _, ((iF.push _).push _).setn _, .inr ⟨by simp, HF.next + 1, true, by simp, by omega, by simp [Ne.symm n3F, hqq]⟩⟩
     · have bF : b ≠ HF.next := by omega
       have g1 : List.take (l.length * 7) (zag l) = zag l := by rw [List.take_of_length_le]; rw [zaq]; omega
       have g2 : (zag l).length = l.length * 7 := zaq l
       have hgrow : ¬ (l.length + 1 <= l.length) := by omega
       have g3 : (l.length + 1) * 96 <= 140737488355328 := by omega
       have g4 : l.length <= 4611686018427387903 := by omega
       have nb : H.next + 1 ≠ b := by omega
       have nbF : HF.next + 1 ≠ b := by omega
       cases opn
       · simp [iFg, tF, n1F, n2F, n3F, tbF, t0, t2, t3, hql, g7, hqs', hb, bF, g1, g2, g3, g4, hgrow]
         exact ⟨k, by omega, l ++ [q], sF, hargs, by omega, hiF, by simp; omega, _, ((iF.push _).push _).setn _, .inr ⟨by simp, HF.next + 1, true, by simp, by omega, by simp [Ne.symm n3F, hqq, za4]⟩⟩
       · simp [iFg, tF, n1F, n2F, n3F, tbF, t0, t2, t3, hql, g7, hqs', hb, bF, g1, g2, g3, g4, hgrow, nb]
         exact ⟨k, by omega, l ++ [q], sF, hargs, by omega, hiF, by simp; omega, _, (((iF.push _).kill b (by omega)).push _).setn _, .inr ⟨by simp, HF.next + 1, true, by simp, by omega, by simp [Ne.symm n3F, hqq, za4]⟩⟩
 · simp
   refine zaa (p_locals' hW i8.P hi8) ?_
   rintro _ H9 ⟨rfl, hH9⟩
   have hi9 := (zin hW s8 hi8).1
   rcases hx9 : Syn.locals_ W s8 with ⟨locs, s9⟩
   rw [hx9] at hH9 hi9
   simp only at hH9 hi9
   have i9 : NI W H p H9 s9 [.str nm, vsV ins, vsV outs, .nilsl, .nilsl, .int .i64 pos] := by
    rw [hH9]; exact i8.setp _
   clear hH9
   simp [i9.g]
   have j9 := i9.setn [.str nm, vsV ins, vsV outs, vsV locs, .nilsl, .int .i64 pos]
   refine zaa (zaI hW (W := W) (s := s9) (j9.push _).P hi9 [[108, 101, 116]] _ 1 false (by simp) j9.np (by simp)) ?_
   rintro _ HA ⟨rfl, hHA⟩
   obtain ⟨sA, hsA⟩ : ∃ x, x = Syn.want1 W s9 [108, 101, 116] := ⟨_, rfl⟩
   have hiA : sA.i < W.length := by rw [hsA]; exact za2 hW hi9 _
   have iA : NI W H p HA sA [.str nm, vsV ins, vsV outs, vsV locs, .nilsl, .int .i64 pos] := by
    rw [hHA, hsA]; exact (j9.push _).setp _
   clear hHA
   simp
   refine zai (fun m T' H' => ∃ l s' E, Syn.eqsL W m l s' = Syn.eqsL W (W.length + 1) [] sA /\ mu W s' < m /\ s'.i < W.length /\ l.length + m <= W.length + 1 /\
    T' 0 = .ptr p 0 /\ T' 2 = .ptr H.next 0 /\ T' 3 = .ptr (H.next + 1) 0 /\ NI W H p H' s' [.str nm, vsV ins, vsV outs, vsV locs, E, .int .i64 pos] /\ EqsR (H.next + 2) H' E l) (W.length + 1)
    ⟨[], sA, .nilsl, rfl, by unfold mu; split <;> omega, hiA, by simp, by simp, by simp, by simp, iA, .inl ⟨rfl, rfl⟩⟩ ?_
   rintro m T H1 ⟨l, s', E, hargs, hmu, hi', hlm, t0, t2, t3, iI, hE0⟩ hw1 _
   have hE : EqsB (H.next + 2) H1.next H1 E l := by
    rcases hE0 with h | ⟨hln, b, opn, h1, h2, h3⟩
    · exact .inl h
    · exact .inr ⟨hln, b, opn, h1, h2, zac hw1 h3, h3⟩
   obtain ⟨k, rfl⟩ : ∃ k, m = k + 1 := ⟨m - 1, by omega⟩
   simp [t0]
   refine zaa (p_ok iI.P) ?_
   rintro _ HX ⟨rfl, hHX⟩
   rw [hHX]
   clear hHX HX
   by_cases he : s'.err = 0
   rotate_left
   · have hend : Syn.eqsL W (k + 1) l s' = (l, s') := by rw [Syn.eqsL, if_neg (fun h => he h.1)]
     rw [hend] at hargs
     simp [he, t0, t2, t3]
     refine zaa (zaI hW (W := W) (s := s') (iI.push _).P hi' [[116, 101, 108]] _ 1 false (by simp) iI.np (by simp)) ?_
     rintro _ HY ⟨rfl, hHY⟩
     obtain ⟨sY, hsY⟩ : ∃ x, x = Syn.want1 W s' [116, 101, 108] := ⟨_, rfl⟩
     have hiY : sY.i < W.length := by rw [hsY]; exact za2 hW hi' _
     have iY : NI W H p HY sY [.str nm, vsV ins, vsV outs, vsV locs, E, .int .i64 pos] := by
      rw [hHY, hsY]; exact (iI.push _).setp _
     have hEY : EqsB (H.next + 2) H1.next HY E l := hE.to fun b b1 b2 => by
      have e : b ≠ p := by have := iI.l; omega
      have e3 : b ≠ H1.next := by omega
      rw [hHY]; simp [e, e3]
     clear hHY
     simp [t0]
     refine zaa (zbF hW iY.P hiY [59]) ?_
     rintro _ HZ ⟨rfl, hHZ⟩
     rcases hxZ : Syn.take W sY [59] with ⟨bz, sZ⟩
     rw [hxZ] at hHZ
     simp only at hHZ
     have iZ : NI W H p HZ sZ [.str nm, vsV ins, vsV outs, vsV locs, E, .int .i64 pos] := by
      rw [hHZ]; exact iY.setp _
     have hEZ : EqsB (H.next + 2) H1.next HZ E l := hEY.to fun b b1 b2 => by
      have e : b ≠ p := by have := iI.l; omega
      rw [hHZ]; simp [e]
     clear hHZ
     have iZz := iZ.z
     unfold z6 at iZz
     have hnode : Syn.node W s = (⟨nm, ins, outs, locs, l, pos⟩, sZ) := by
      simp only [Syn.node, <- hs0, <- hs1, hx2, <- hs3, hx4, <- hs5, hx6, <- hs7, hx8, if_true, hx9, <- hsA, <- hargs, <- hsY, hxZ, <- hpos]
      try rfl
     rw [hnode]
     have hEsc : E.scalar = true /\ E.cells = [E] := by
      rcases hE with ⟨_, rfl⟩ | ⟨_, b, opn, rfl, _⟩ <;> exact ⟨rfl, rfl⟩
     simp [t2, t3, iZ.g, iZz, hEsc.1, hEsc.2]
     refine ⟨?_, by simp [hp1, iZ.P], fun j y j1 j2 => ?_⟩
     · rcases hEZ with h | ⟨hln, b, opn, h1, h2, _, h3⟩
       · exact .inl h
       · have e : b ≠ H.next := by omega
         exact .inr ⟨hln, b, opn, h1, by omega, by simp [e, h3]⟩
     · have := old j y j2
       have e : j ≠ H.next := by omega
       simp [e, iZ.k j y this j1 j2]
   simp [he, t0]
   refine zaa (zbO iI.P hi') ?_
   rintro _ HX ⟨rfl, hHX⟩
   rw [hHX]
   clear hHX HX
   by_cases hk : (Syn.at_ W s').2.kind = 1
   rotate_left
   · have hend : Syn.eqsL W (k + 1) l s' = (l, s') := by rw [Syn.eqsL, if_neg (fun h => hk h.2)]
     have hk' : ((((Syn.at_ W s').2.kind : Nat) : Int) = 1) = False := eq_false (by omega)
     rw [hend] at hargs
     simp [zat, hk', t0, t2, t3]
     refine zaa (zaI hW (W := W) (s := s') (iI.push _).P hi' [[116, 101, 108]] _ 1 false (by simp) iI.np (by simp)) ?_
     rintro _ HY ⟨rfl, hHY⟩
     obtain ⟨sY, hsY⟩ : ∃ x, x = Syn.want1 W s' [116, 101, 108] := ⟨_, rfl⟩
     have hiY : sY.i < W.length := by rw [hsY]; exact za2 hW hi' _
     have iY : NI W H p HY sY [.str nm, vsV ins, vsV outs, vsV locs, E, .int .i64 pos] := by
      rw [hHY, hsY]; exact (iI.push _).setp _
     have hEY : EqsB (H.next + 2) H1.next HY E l := hE.to fun b b1 b2 => by
      have e : b ≠ p := by have := iI.l; omega
      have e3 : b ≠ H1.next := by omega
      rw [hHY]; simp [e, e3]
     clear hHY
     simp [t0]
     refine zaa (zbF hW iY.P hiY [59]) ?_
     rintro _ HZ ⟨rfl, hHZ⟩
     rcases hxZ : Syn.take W sY [59] with ⟨bz, sZ⟩
     rw [hxZ] at hHZ
     simp only at hHZ
     have iZ : NI W H p HZ sZ [.str nm, vsV ins, vsV outs, vsV locs, E, .int .i64 pos] := by
      rw [hHZ]; exact iY.setp _
     have hEZ : EqsB (H.next + 2) H1.next HZ E l := hEY.to fun b b1 b2 => by
      have e : b ≠ p := by have := iI.l; omega
      rw [hHZ]; simp [e]
     clear hHZ
     have iZz := iZ.z
     unfold z6 at iZz
     have hnode : Syn.node W s = (⟨nm, ins, outs, locs, l, pos⟩, sZ) := by
      simp only [Syn.node, <- hs0, <- hs1, hx2, <- hs3, hx4, <- hs5, hx6, <- hs7, hx8, if_true, hx9, <- hsA, <- hargs, <- hsY, hxZ, <- hpos]
      try rfl
     rw [hnode]
     have hEsc : E.scalar = true /\ E.cells = [E] := by
      rcases hE with ⟨_, rfl⟩ | ⟨_, b, opn, rfl, _⟩ <;> exact ⟨rfl, rfl⟩
     simp [t2, t3, iZ.g, iZz, hEsc.1, hEsc.2]
     refine ⟨?_, by simp [hp1, iZ.P], fun j y j1 j2 => ?_⟩
     · rcases hEZ with h | ⟨hln, b, opn, h1, h2, _, h3⟩
       · exact .inl h
       · have e : b ≠ H.next := by omega
         exact .inr ⟨hln, b, opn, h1, by omega, by simp [e, h3]⟩
     · have := old j y j2
       have e : j ≠ H.next := by omega
       simp [e, iZ.k j y this j1 j2]
   have hk' : ((((Syn.at_ W s').2.kind : Nat) : Int) = 1) = True := eq_true (by omega)
   simp [zat, hk', t0]
   refine zaa (zbO iI.P hi') ?_
   rintro _ HX ⟨rfl, hHX⟩
   rw [hHX]
   clear hHX HX
   simp [zat, t0]
   refine zav (zek hW iI.P hi') ?_
   rintro _ HB ⟨rfl, hHB⟩ hwB _
   have hiB := (zcy hW s' hi').1
   have hmB := name_lt he hk hi'
   rcases hxB : Syn.name W s' with ⟨nmq, sB⟩
   rw [hxB] at hHB hiB hmB
   simp only at hHB hiB hmB
   have iB : NI W H p HB sB [.str nm, vsV ins, vsV outs, vsV locs, E, .int .i64 pos] := by
    rw [hHB]; exact iI.setp _
   have hE' : EqsB (H.next + 2) HB.next HB E l := by
    rcases hE with h | ⟨hln, b, opn, h1, h2, _, h3⟩
    · exact .inl h
    · have e : b ≠ p := by have := iI.l; omega
      have h4 : HB.get b = some (.cells (zag l)) := by rw [hHB]; simp [e, h3]
      exact .inr ⟨hln, b, opn, h1, h2, zac hwB h4, h4⟩
   clear hE hHB
   obtain ⟨posq, hposq⟩ : ∃ x, x = (Syn.at_ W s').1 := ⟨_, rfl⟩
   rw [<- hposq]
   simp [t0]
   have iB2 := iB.push (.cells [.str nmq, .str [], .str [], .int .i64 0, .int .i64 0, .nilsl, .int .i64 posq])
   refine zaa (zaI hW (W := W) (s := sB) (iB2.push _).P hiB [[61]] _ 1 false (by simp) (by have := iB2.np; simpa using this) (by simp)) ?_
   rintro _ HC ⟨rfl, hHC⟩
   obtain ⟨sC, hsC⟩ : ∃ x, x = Syn.want1 W sB [61] := ⟨_, rfl⟩
   have hiC : sC.i < W.length := by rw [hsC]; exact za2 hW hiB _
   have hmC : mu W sC <= mu W sB := by rw [hsC]; exact zaU W sB _
   have iC : NI W H p HC sC [.str nm, vsV ins, vsV outs, vsV locs, E, .int .i64 pos] := by
    rw [hHC, hsC]; exact (iB2.push _).setp _
   have tbp := iB.np
   have nBC : HB.next < HC.next := by rw [hHC]; simp; omega
   have tC : HC.get HB.next = some (.cells [.str nmq, .str [], .str [], .int .i64 0, .int .i64 0, .nilsl, .int .i64 posq]) := by
    rw [hHC]; simp [tbp]
   have hEC : EqsB (H.next + 2) HB.next HC E l := hE'.to fun b b1 b2 => by
    have e : b ≠ p := by have := iI.l; omega
    have e3 : b ≠ HB.next := by omega
    have e4 : b ≠ HB.next + 1 := by omega
    rw [hHC]; simp [e, e3, e4]
   clear hE' hHC
   obtain ⟨sD, hsD⟩ : ∃ x : Syn.St, x = { sC with parts := 0 } := ⟨_, rfl⟩
   have hiD : sD.i < W.length := by rw [hsD]; exact hiC
   have hmD : mu W sD <= mu W sC := by rw [hsD]; exact Nat.le_refl _
   have stD : zaj W sD = [.vsl (flatW W) W.length, .int .i64 sC.i, .int .i64 sC.names, .int .i64 0, .int .i64 sC.err, .int .i64 sC.pos] := by rw [hsD]; rfl
   have hPC := iC.P
   unfold zaj at hPC
   simp [hPC, t0]
   rw [<- stD]
   have iD := iC.setp sD
   obtain ⟨HE0, hHE0⟩ : ∃ x, x = HC.set p (.cells (zaj W sD)) := ⟨_, rfl⟩
   rw [<- hHE0] at iD ⊢
   have hED : EqsB (H.next + 2) HB.next HE0 E l := hEC.to fun b b1 b2 => by
    have e : b ≠ p := by have := iI.l; omega
    rw [hHE0]; simp [e]
   have tD : HE0.get HB.next = some (.cells [.str nmq, .str [], .str [], .int .i64 0, .int .i64 0, .nilsl, .int .i64 posq]) := by rw [hHE0]; simp [tbp, tC]
   have nBD : HB.next < HE0.next := by rw [hHE0]; simpa using nBC
   clear hHE0 hEC tC
   refine zaa (p_ok iD.P) ?_
   rintro _ HX ⟨rfl, hHX⟩
   rw [hHX]
   clear hHX HX
   by_cases heD : sD.err = 0
   · have heC : sC.err = 0 := by rw [hsD] at heD; exact heD
     simp [heD, t0]
     refine zaa (p_top hW p _ sD iD.P hiD) ?_
     rintro _ HE ⟨rfl, hHE⟩
     have hiE := (zdf hW).i sD hiD
     have hmE := (zdf hW).mu sD hiD
     rcases hxe0 : (Syn.lv W 29).expr sD with ⟨⟨eop, enm, en, epos, eks⟩, sE⟩
     rw [hxe0] at hHE hiE hmE
     simp only at hHE hiE hmE
     have iE : NI W H p HE sE [.str nm, vsV ins, vsV outs, vsV locs, E, .int .i64 pos] := by
      rw [hHE]; exact iD.setp _
     have tE : HE.get HB.next = some (.cells [.str nmq, .str [], .str [], .int .i64 0, .int .i64 0, .nilsl, .int .i64 posq]) := by rw [hHE]; simp [tbp, tD]
     have hEE : EqsB (H.next + 2) HB.next HE E l := hED.to fun b b1 b2 => by
      have e : b ≠ p := by have := iI.l; omega
      rw [hHE]; simp [e]
     have nBE : HB.next < HE.next := by rw [hHE]; simpa using nBD
     clear hHE
     have iE2 := iE.sete HB.next (.cells [.str nmq, .str eop, .str enm, .int .i64 en, .int .i64 epos, kidsV eks, .int .i64 posq]) (by have := iB.n; omega)
     have tE2 : True := trivial
     simp [zab, tE, t0]
     refine zaa (zaI hW (W := W) (s := sE) (iE2.push _).P hiE [[59]] _ 1 false (by simp) (by have := iE2.np; simpa using this) (by simp)) ?_
     rintro _ HF ⟨rfl, hHF⟩
     obtain ⟨sF, hsF⟩ : ∃ x, x = Syn.want1 W sE [59] := ⟨_, rfl⟩
     have hiF : sF.i < W.length := by rw [hsF]; exact za2 hW hiE _
     have hmF : mu W sF <= mu W sE := by rw [hsF]; exact zaU W sE _
     have iF : NI W H p HF sF [.str nm, vsV ins, vsV outs, vsV locs, E, .int .i64 pos] := by
      rw [hHF, hsF]; exact (iE2.push _).setp _
     have nBF : HB.next < HF.next := by rw [hHF]; simp; omega
     have tF : HF.get HB.next = some (.cells (zao ⟨nmq, .mk eop enm en epos eks, posq⟩)) := by
      rw [hHF]; simp [tbp, Nat.ne_of_lt nBE, tE2, zao, zab, kidsV, Syn.Ex.zero]
     have hEF : EqsB (H.next + 2) HB.next HF E l := hEE.to fun b b1 b2 => by
      have e : b ≠ p := by have := iI.l; omega
      have e3 : b ≠ HB.next := by omega
      have e4 : b ≠ HE.next := by omega
      rw [hHF]; simp [e, e3, e4]
     clear hHF
     have hql := zaZ ⟨nmq, .mk eop enm en epos eks, posq⟩
     have hqs : ∀ x ∈ zao ⟨nmq, .mk eop enm en epos eks, posq⟩, x.scalar = true := by simp [zao, zab, Syn.Ex.zero]
     have hqq : zag [⟨nmq, .mk eop enm en epos eks, posq⟩] = zao ⟨nmq, .mk eop enm en epos eks, posq⟩ := by simp [zag]
     have hstep : Syn.eqsL W (k + 1) l s' = Syn.eqsL W k (l ++ [⟨nmq, .mk eop enm en epos eks, posq⟩]) sF := by
      rw [Syn.eqsL, if_pos ⟨he, hk⟩]
      simp only [hxB, <- hsC, <- hsD, hxe0, <- hposq]
      simp only [if_pos heC, <- hsF]
     rw [hstep] at hargs
     obtain ⟨q, hq⟩ : ∃ q : Syn.Eqn, q = ⟨nmq, .mk eop enm en epos eks, posq⟩ := ⟨_, rfl⟩
     rw [<- hq] at tF hql hqs hqq hargs
     obtain ⟨qc, hqc⟩ : ∃ qc, qc = zao q := ⟨_, rfl⟩
     rw [<- hqc] at tF hql hqs hqq
     have g7 : List.take 7 qc = qc := List.take_of_length_le (by omega)
     have hqs' : (∀ x : AV, x ∈ qc -> x.scalar = true) = True := eq_true hqs
     have iFn := iF.n
     have iFg := iF.g
     have tbF : HB.next ≠ HF.next := by omega
     have n1F : H.next + 1 ≠ HF.next := by omega
     have n2F : H.next + 1 ≠ HF.next + 1 := by omega
     have n3F : H.next ≠ HF.next := by omega
     rcases hEF with ⟨rfl, rfl⟩ | ⟨hln, b, opn, rfl, hbn, hbB, hb⟩
     · simp [iFg, tF, n1F, n2F, n3F, tbF, t0, t2, t3, hql, g7, hqs']
       exact ⟨k, by omega, [q], sF, by simpa using hargs, by omega, hiF, by simp only [List.length_nil, List.length_cons] at hlm ⊢; omega, _, ((iF.push _).push _).setn _, .inr ⟨by simp, HF.next + 1, true, by simp, by omega, by simp [Ne.symm n3F, hqq]⟩⟩
     · have bF : b ≠ HF.next := by omega
       have g1 : List.take (l.length * 7) (zag l) = zag l := by rw [List.take_of_length_le]; rw [zaq]; omega
       have g2 : (zag l).length = l.length * 7 := zaq l
       have hgrow : ¬ (l.length + 1 <= l.length) := by omega
       have g3 : (l.length + 1) * 96 <= 140737488355328 := by omega
       have g4 : l.length <= 4611686018427387903 := by omega
       have nb : H.next + 1 ≠ b := by omega
       have nbF : HF.next + 1 ≠ b := by omega
       cases opn
       · simp [iFg, tF, n1F, n2F, n3F, tbF, t0, t2, t3, hql, g7, hqs', hb, bF, g1, g2, g3, g4, hgrow]
         exact ⟨k, by omega, l ++ [q], sF, hargs, by omega, hiF, by simp; omega, _, ((iF.push _).push _).setn _, .inr ⟨by simp, HF.next + 1, true, by simp, by omega, by simp [Ne.symm n3F, hqq, za4]⟩⟩
       · simp [iFg, tF, n1F, n2F, n3F, tbF, t0, t2, t3, hql, g7, hqs', hb, bF, g1, g2, g3, g4, hgrow, nb]
         exact ⟨k, by omega, l ++ [q], sF, hargs, by omega, hiF, by simp; omega, _, (((iF.push _).kill b (by omega)).push _).setn _, .inr ⟨by simp, HF.next + 1, true, by simp, by omega, by simp [Ne.symm n3F, hqq, za4]⟩⟩
   · have heC : ¬ sC.err = 0 := by rw [hsD] at heD; exact heD
     simp [heD, t0]
     have hxe0 : True := trivial
     have hiE := hiD
     obtain ⟨HE, hHE⟩ : ∃ x, x = HE0 := ⟨_, rfl⟩
     rw [<- hHE]
     rw [<- hHE] at iD tD hED nBD
     have hEE := hED
     have nBE := nBD
     have tE2 := tD
     refine zaa (zaI hW (W := W) (s := sD) (iD.push _).P hiD [[59]] _ 1 false (by simp) (by have := iD.np; simpa using this) (by simp)) ?_
     rintro _ HF ⟨rfl, hHF⟩
     obtain ⟨sF, hsF⟩ : ∃ x, x = Syn.want1 W sD [59] := ⟨_, rfl⟩
     have hiF : sF.i < W.length := by rw [hsF]; exact za2 hW hiD _
     have hmF : mu W sF <= mu W sD := by rw [hsF]; exact zaU W sD _
     have iF : NI W H p HF sF [.str nm, vsV ins, vsV outs, vsV locs, E, .int .i64 pos] := by
      rw [hHF, hsF]; exact (iD.push _).setp _
     have nBF : HB.next < HF.next := by rw [hHF]; simp; omega
     have tF : HF.get HB.next = some (.cells (zao ⟨nmq, .zero, posq⟩)) := by
      rw [hHF]; simp [tbp, Nat.ne_of_lt nBE, tE2, zao, zab, kidsV, Syn.Ex.zero]
     have hEF : EqsB (H.next + 2) HB.next HF E l := hEE.to fun b b1 b2 => by
      have e : b ≠ p := by have := iI.l; omega
      have e3 : b ≠ HB.next := by omega
      have e4 : b ≠ HE.next := by omega
      rw [hHF]; simp [e, e3, e4]
     clear hHF
     have hql := zaZ ⟨nmq, .zero, posq⟩
     have hqs : ∀ x ∈ zao ⟨nmq, .zero, posq⟩, x.scalar = true := by simp [zao, zab, Syn.Ex.zero]
     have hqq : zag [⟨nmq, .zero, posq⟩] = zao ⟨nmq, .zero, posq⟩ := by simp [zag]
     have hstep : Syn.eqsL W (k + 1) l s' = Syn.eqsL W k (l ++ [⟨nmq, .zero, posq⟩]) sF := by
      rw [Syn.eqsL, if_pos ⟨he, hk⟩]
      simp only [hxB, <- hsC, <- hsD, hxe0, <- hposq]
      simp only [if_neg heC, <- hsF]
     rw [hstep] at hargs
     obtain ⟨q, hq⟩ : ∃ q : Syn.Eqn, q = ⟨nmq, .zero, posq⟩ := ⟨_, rfl⟩
     rw [<- hq] at tF hql hqs hqq hargs
     obtain ⟨qc, hqc⟩ : ∃ qc, qc = zao q := ⟨_, rfl⟩
     rw [<- hqc] at tF hql hqs hqq
     have g7 : List.take 7 qc = qc := List.take_of_length_le (by omega)
     have hqs' : (∀ x : AV, x ∈ qc -> x.scalar = true) = True := eq_true hqs
     have iFn := iF.n
     have iFg := iF.g
     have tbF : HB.next ≠ HF.next := by omega
     have n1F : H.next + 1 ≠ HF.next := by omega
     have n2F : H.next + 1 ≠ HF.next + 1 := by omega
     have n3F : H.next ≠ HF.next := by omega
     rcases hEF with ⟨rfl, rfl⟩ | ⟨hln, b, opn, rfl, hbn, hbB, hb⟩
     · simp [iFg, tF, n1F, n2F, n3F, tbF, t0, t2, t3, hql, g7, hqs']
       exact ⟨k, by omega, [q], sF, by simpa using hargs, by omega, hiF, by simp only [List.length_nil, List.length_cons] at hlm ⊢; omega, _, ((iF.push _).push _).setn _, .inr ⟨by simp, HF.next + 1, true, by simp, by omega, by simp [Ne.symm n3F, hqq]⟩⟩
     · have bF : b ≠ HF.next := by omega
       have g1 : List.take (l.length * 7) (zag l) = zag l := by rw [List.take_of_length_le]; rw [zaq]; omega
       have g2 : (zag l).length = l.length * 7 := zaq l
       have hgrow : ¬ (l.length + 1 <= l.length) := by omega
       have g3 : (l.length + 1) * 96 <= 140737488355328 := by omega
       have g4 : l.length <= 4611686018427387903 := by omega
       have nb : H.next + 1 ≠ b := by omega
       have nbF : HF.next + 1 ≠ b := by omega
       cases opn
       · simp [iFg, tF, n1F, n2F, n3F, tbF, t0, t2, t3, hql, g7, hqs', hb, bF, g1, g2, g3, g4, hgrow]
         exact ⟨k, by omega, l ++ [q], sF, hargs, by omega, hiF, by simp; omega, _, ((iF.push _).push _).setn _, .inr ⟨by simp, HF.next + 1, true, by simp, by omega, by simp [Ne.symm n3F, hqq, za4]⟩⟩
       · simp [iFg, tF, n1F, n2F, n3F, tbF, t0, t2, t3, hql, g7, hqs', hb, bF, g1, g2, g3, g4, hgrow, nb]
         exact ⟨k, by omega, l ++ [q], sF, hargs, by omega, hiF, by simp; omega, _, (((iF.push _).kill b (by omega)).push _).setn _, .inr ⟨by simp, HF.next + 1, true, by simp, by omega, by simp [Ne.symm n3F, hqq, za4]⟩⟩
theorem ndCells_lt (m : Nat) (n : Syn.Nd) : AV.allLt m (zah n) = true := by
 have h : (eqsV n.eqs).idLt m = true := by
  unfold eqsV
  split
  · rfl
  · simpa [AV.idLt] using zcR m n.eqs
 simp [zah, AV.allLt, AV.idLt, zeM, h]
theorem p_node' {W : Syn.Ws} (hW : WsOk W) {s : Syn.St} {p : Nat} {H : AHeap} (h : PAt H p W s) (hi : s.i < W.length) : Does Tryz.prog G 27 [.ptr p 0] H fun r H' => r = .agg (zah (Syn.node W s).1) /\ H' = H.set p (.cells (zaj W (Syn.node W s).2)) := by
 refine Does.deep (p_node hW h hi) ?_
 rintro hw ha r H1 ⟨E, rfl, h1, h2, h3⟩
 refine ⟨_, H.set p (.cells (zaj W (Syn.node W s).2)), .agg (.cons (.old rfl) (.cons (.old (zeM _ _)) (.cons (.old (zeM _ _)) (.cons (.old (zeM _ _)) (.cons h1.res (.cons (.old rfl) .nil)))))), rfl, zcp hw h h2 h3, rfl, rfl⟩
theorem zj0 {W : Syn.Ws} (hW : WsOk W) : ∀ (m : Nat) (l : List Syn.Eqn) (s : Syn.St), Kp W s (Syn.eqsL W m l s).2
 | 0, l, s => Kp.refl s
 | m + 1, l, s => by
   unfold Syn.eqsL
   split
   · have h1 := zcy hW s
     rcases hx : Syn.name W s with ⟨nm, s1⟩
     rw [hx] at h1
     simp only at h1 ⊢
     have h2 := zaP hW s1 [61]
     have h3 : Kp W (Syn.want1 W s1 [61]) { Syn.want1 W s1 [61] with parts := 0 } := fun hi => ⟨hi, Nat.le_refl _⟩
     have h4 := (zdf hW).kp { Syn.want1 W s1 [61] with parts := 0 }
     split
     · rcases hy : (Syn.lv W 29).expr { Syn.want1 W s1 [61] with parts := 0 } with ⟨e, s2⟩
       rw [hy] at h4
       simp only at h4 ⊢
       exact h1.trans (h2.trans (h3.trans (h4.trans ((zaP hW s2 [59]).trans (zj0 hW m _ _)))))
     · exact h1.trans (h2.trans (h3.trans ((zaP hW _ [59]).trans (zj0 hW m _ _))))
   · exact Kp.refl s
theorem kp_node {W : Syn.Ws} (hW : WsOk W) (s : Syn.St) : Kp W s (Syn.node W s).2 := by
 have h0 : Kp W s { s with names := 0 } := fun hi => ⟨hi, Nat.le_refl _⟩
 have A := ((((((((h0.trans (zaP hW _ [110, 111, 100, 101])).trans (zcy hW _)).trans (zaP hW _ [40])).trans (zfm hW _)).trans (zjv hW [[41], [114, 101, 116, 117, 114, 110, 115], [40]] _)).trans (zfm hW _)).trans (zjv hW [[41], [59]] _)).trans (zfG hW _ [118, 97, 114]))
 have fin : ∀ x : List Syn.Va × Syn.St, Kp W s x.2 -> Kp W s (Syn.take W (Syn.want1 W (Syn.eqsL W (W.length + 1) [] (Syn.want1 W x.2 [108, 101, 116])).2 [116, 101, 108]) [59]).2 := fun x h9 =>
  h9.trans ((zaP hW x.2 _).trans ((zj0 hW _ _ _).trans ((zaP hW _ _).trans (zfG hW _ _))))
 unfold Syn.node
 simp only
 refine fin _ ?_
 split
 · exact A.trans (zin hW _)
 · exact A
def zal : List Syn.Nd -> List AV
 | [] => []
 | n :: l => zah n ++ zal l
theorem zaY : ∀ l : List Syn.Nd, (zal l).length = l.length * 6
 | [] => rfl
 | n :: l => by rw [zal, List.length_append, zaY l]; simp [zah]; omega
theorem zaB : ∀ a b : List Syn.Nd, zal (a ++ b) = zal a ++ zal b
 | [], b => rfl
 | n :: a, b => by rw [List.cons_append, zal, zal, zaB a b, List.append_assoc]
theorem zce (m : Nat) : ∀ l : List Syn.Nd, AV.allLt m (zal l) = true
 | [] => rfl
 | n :: l => by rw [zal, zbh, zce m l, ndCells_lt]; rfl
theorem zbl (l : List Syn.Eqn) : (eqsV l).scalar = true := by unfold eqsV; split <;> rfl
theorem zdC (n : Syn.Nd) : ∀ x ∈ zah n, x.scalar = true := by simp [zah, zbl]
def ndsV (l : List Syn.Nd) : AV := if l.isEmpty then .nilsl else .vsl (zal l) l.length
def NdsR (n : Nat) (H' : AHeap) (r : AV) (l : List Syn.Nd) : Prop := (l = [] /\ r = .nilsl) \/ l ≠ [] /\ ∃ b op, r = .sl b 0 6 l.length l.length op /\ n <= b /\ H'.get b = some (.cells (zal l))
theorem NdsR.res {n : Nat} {H' : AHeap} {r : AV} {l : List Syn.Nd} (h : NdsR n H' r l) : ResV H'.get n r (ndsV l) := by
 rcases h with ⟨rfl, rfl⟩ | ⟨hl, b, op, rfl, hb, hg⟩
 · exact .old rfl
 · have : ndsV l = .vsl (zal l) l.length := by unfold ndsV; rw [if_neg (by simpa using hl)]
   rw [this]
   refine .sl hb hg ?_
   rw [List.drop_zero, List.take_of_length_le (by rw [zaY]; omega)]
   exact ResL.old (zce _ _)
theorem zgH : ∀ (l : List (Nat × Wd)) (n : Nat), flatW (l ++ [(n, ⟨0, [], 0⟩)]) = flatW l ++ [.int .i64 0, .str [], .int .i64 0, .int .i64 n]
 | [], n => rfl
 | (i, w) :: l, n => by rw [List.cons_append, flatW, flatW, zgH l n, List.append_assoc]
theorem sum_ge : ∀ l : List (Nat × Wd), (∀ w ∈ l, Wok w.2) -> l.length <= (l.map fun w => w.2.text.length).sum
 | [], _ => by simp
 | w :: l, h => by
   have h1 := sum_ge l fun x hx => h x (by simp [hx])
   obtain ⟨s, hs⟩ := h w (by simp)
   cases s with
   | nil => simp [wordS] at hs
   | cons c q =>
     have h2 : w.2.text.length ≠ 0 := by simpa using (zdy hs).2
     simp only [List.length_cons, List.map_cons, List.sum_cons]
     omega
theorem wsOk_of {t : Bs} {l : List (Nat × Wd)} (ht : ¬ 16384 < t.length) (hc : cutS t.length t = .ok l) : WsOk (l ++ [(t.length, ⟨0, [], 0⟩)]) := by
 obtain ⟨h1, h2, h3⟩ := zes (t.length + 1) t (by omega) l hc
 have h4 := sum_ge l h1
 refine ⟨by simp; omega, fun i hi hk => ?_⟩
 simp only [List.length_append, List.length_singleton] at hi ⊢
 rcases Nat.lt_or_ge i l.length with g | g
 · omega
 · have : i = l.length := by omega
   subst this
   simp at hk
def ParseR (H : AHeap) (t : Bs) (r : AV) (H' : AHeap) : Prop := (∀ j x, H.get j = some x -> H'.get j = some x) /\ match Syn.parse t with
 | .ok ns => ∃ E, r = .tuple [E, .agg [.int .i64 0, .int .i64 0]] /\ NdsR H.next H' E ns
 | .error (e, n) => r = .tuple [.nilsl, .agg [.int .i64 e, .int .i64 n]]
theorem zid (t : Bs) (hG : zdd G) (H : AHeap) (hbig : t.length < 9223372036854775808) : Does Tryz.prog G 13 [.str t] H (ParseR H t) := by
 refine Does.wf Tryz.call13 fun hw _ => ?_
 have old : ∀ j x, H.get j = some x -> j < H.next := fun j x hj => zac hw hj
 refine zaf Tryz.call13 Tryz.func13 rfl (by simp [Tryz.f13]) ?_
 simp
 refine zaa (cut_does t hG _ hbig) ?_
 rintro _ HX ⟨rfl, hHX⟩
 rw [hHX]
 clear hHX HX
 by_cases hL : 16384 < t.length
 · have hans : zdH t = .tuple [.nilsl, .agg [.int .i64 2, .int .i64 t.length]] := by unfold zdH; rw [if_pos hL]
   have hpar : Syn.parse t = .error (2, t.length) := by unfold Syn.parse; rw [if_pos hL]
   rw [hans]
   simp
   refine zak [(0, 0)] mixedOrders (by kernel_rfl) ?_
   intro es hes
   simp [rds, heapF]
   refine ⟨by subst hes; exact ⟨by kernel_rfl, by kernel_rfl⟩, ?_⟩
   refine ⟨fun j x hj => ?_, by rw [hpar]; rfl⟩
   have := old j x hj
   have e1 : j ≠ H.next := by omega
   have e2 : j ≠ H.next + 1 := by omega
   simp [e1, e2, hj]
 · cases hc : cutS t.length t with
   | error e =>
     have hans : zdH t = .tuple [.nilsl, .agg [.int .i64 7, .int .i64 e]] := by unfold zdH; rw [if_neg hL, hc]
     have hpar : Syn.parse t = .error (7, e) := by unfold Syn.parse; rw [if_neg hL, hc]
     rw [hans]
     simp
     refine zak [(0, 0)] mixedOrders (by kernel_rfl) ?_
     intro es hes
     simp [rds, heapF]
     refine ⟨by subst hes; exact ⟨by kernel_rfl, by kernel_rfl⟩, ?_⟩
     refine ⟨fun j x hj => ?_, by rw [hpar]; rfl⟩
     have := old j x hj
     have e1 : j ≠ H.next := by omega
     have e2 : j ≠ H.next + 1 := by omega
     simp [e1, e2, hj]
   | ok L =>
     obtain ⟨W, hWd⟩ : ∃ W, W = L ++ [(t.length, ⟨0, [], 0⟩)] := ⟨_, rfl⟩
     have hW : WsOk W := by rw [hWd]; exact wsOk_of hL hc
     have hans : zdH t = .tuple [.vsl (flatW W) W.length, .agg [.int .i64 0, .int .i64 0]] := by
      unfold zdH; rw [if_neg hL, hc, hWd]
      simp [zgH]
     have hWl : 0 < W.length := by rw [hWd]; simp
     have hpar : Syn.parse t = (if (Syn.nodesL W 33 [] ⟨0, 0, 0, 0, 0⟩).2.err = 0 then .ok (Syn.nodesL W 33 [] ⟨0, 0, 0, 0, 0⟩).1 else .error ((Syn.nodesL W 33 [] ⟨0, 0, 0, 0, 0⟩).2.err, (Syn.nodesL W 33 [] ⟨0, 0, 0, 0, 0⟩).2.pos)) := by
      unfold Syn.parse
      rw [if_neg hL, hc]
      simp only
      rw [<- hWd]
     rw [hans]
     simp
     obtain ⟨s0, hs0⟩ : ∃ s0 : Syn.St, s0 = ⟨0, 0, 0, 0, 0⟩ := ⟨_, rfl⟩
     have st0 : zaj W s0 = [.vsl (flatW W) W.length, .int .i64 0, .int .i64 0, .int .i64 0, .int .i64 0, .int .i64 0] := by rw [hs0]; rfl
     rw [<- st0]
     rw [<- hs0] at hpar
     have hi0 : s0.i < W.length := by rw [hs0]; exact hWl
     refine zai (fun m T' H' => ∃ l s', Syn.nodesL W m l s' = Syn.nodesL W 33 [] s0 /\ l.length + m = 33 /\ l.length <= 32 /\ s'.i < W.length /\ T' 6 = .ptr (H.next + 1 + 1) 0 /\ T' 3 = .ptr H.next 0 /\ H'.get (H.next + 1 + 1) = some (.cells (zaj W s')) /\
      H'.get H.next = some (.cells [.int .i64 0, .int .i64 0]) /\ NdsR (H.next + 3) H' (T' 7) l /\ H.next + 3 <= H'.next /\ ∀ j x, H.get j = some x -> H'.get j = some x) 33 ?_ ?_
     · refine ⟨[], s0, rfl, rfl, by simp, hi0, by simp, by simp, by simp, ?_, .inl ⟨rfl, by simp⟩, by simp, fun j x hj => ?_⟩
       · have e1 : H.next ≠ H.next + 1 := by omega
         have e2 : H.next ≠ H.next + 1 + 1 := by omega
         simp [e1, e2]
       · have := old j x hj
         have e1 : j ≠ H.next := by omega
         have e2 : j ≠ H.next + 1 := by omega
         have e3 : j ≠ H.next + 1 + 1 := by omega
         simp [e1, e2, e3, hj]
     rintro m T H1 ⟨l, s', hargs, hlm, hl32, hi', t6, t3, hP, hz, hN, hnx, hk⟩ hw1 _
     have hP' : PAt H1 (H.next + 1 + 1) W s' := hP
     have hal : alen Tryz.prog 23 (T 7) = some (.int .i64 l.length) := by
      rcases hN with ⟨rfl, e⟩ | ⟨_, b, op, e, _⟩ <;> rw [e] <;> rfl
     have step0 : ∀ k, m = k + 1 -> (¬ (s'.err = 0 /\ (l = [] \/ Syn.kind W s' ≠ 0))) -> Syn.nodesL W 33 [] s0 = (l, s') := fun k hm h => by
      rw [<- hargs, hm, Syn.nodesL, if_neg h]
     obtain ⟨k, rfl⟩ : ∃ k, m = k + 1 := ⟨m - 1, by omega⟩
     simp [t6, t3, -alen]
     refine zaa (p_ok hP') ?_
     rintro _ HX ⟨rfl, hHX⟩
     rw [hHX]
     clear hHX HX
     by_cases he : s'.err = 0
     rotate_left
     · simp [he, t6, t3, -alen]
       try simp [t6]
       refine zaa (p_ok hP') ?_
       rintro _ HX ⟨rfl, hHX⟩
       rw [hHX]
       clear hHX HX
       by_cases hE : (s').err = 0
       · have hpr : Syn.parse t = .ok l := by rw [hpar, step0 k rfl (fun h => he h.1)]; exact if_pos hE
         simp [hE, t3, hz]
         refine ⟨fun j x hj => ?_, ?_⟩
         · have := old j x hj
           have e1 : j ≠ H.next := by omega
           simp [e1, hk j x hj]
         · rw [hpr]
           refine ⟨_, rfl, ?_⟩
           rcases hN with h | ⟨hln, b, op, h1, h2, h3⟩
           · exact .inl h
           · have e1 : b ≠ H.next := by omega
             exact .inr ⟨hln, b, op, h1, by omega, by simp [e1, h3]⟩
       · have hpr : Syn.parse t = .error ((s').err, (s').pos) := by rw [hpar, step0 k rfl (fun h => he h.1)]; exact if_neg hE
         have hPu := hP'
         unfold PAt zaj at hPu
         have hne : (H.next + 1 + 1) ≠ H.next := by omega
         simp [hE]
         refine zak [(3, 0)] mixedOrders (by kernel_rfl) ?_
         intro es hes
         simp [t6, t3, hPu, hz, rds, heapF]
         refine ⟨by subst hes; exact ⟨by kernel_rfl, by kernel_rfl⟩, fun j x hj => ?_, ?_⟩
         · have := old j x hj
           have e1 : j ≠ H.next := by omega
           simp [e1, hk j x hj]
         · rw [hpr]
     have hn0 : ∀ n : Nat, ((n : Int) = 0) = (n = 0) := fun n => by simp
     by_cases hl0 : l = []
     · have hc0 : s'.err = 0 /\ (l = [] \/ Syn.kind W s' ≠ 0) := ⟨he, .inl hl0⟩
       have hll : l.length = 0 := by rw [hl0]; rfl
       have h32 : ¬ l.length = 32 := by omega
       simp [he, t6, t3, hal, hl0, hll, -alen]
       refine zav (p_node' hW hP' hi') ?_
       rintro _ H2 ⟨rfl, hH2⟩ hw2 _
       have hi2 := (kp_node hW s' hi').1
       have hpz : H.next + 1 + 1 ≠ H.next := by omega
       have hn12 : H2.next = H1.next := by rw [hH2]; rfl
       have hP2' : H2.get (H.next + 1 + 1) = some (.cells (zaj W (Syn.node W s').2)) := by rw [hH2]; simp
       have hz2 : H2.get H.next = some (.cells [.int .i64 0, .int .i64 0]) := by rw [hH2]; simp [Ne.symm hpz, hz]
       have hk2 : ∀ j x, H.get j = some x -> H2.get j = some x := fun j x hj => by
        have := old j x hj
        have e : j ≠ H.next + 1 + 1 := by omega
        rw [hH2]; simp [e, hk j x hj]
       have hstep : Syn.nodesL W (k + 1) l s' = Syn.nodesL W k (l ++ [(Syn.node W s').1]) (Syn.node W s').2 := by
        rw [Syn.nodesL, if_pos hc0, if_neg h32]
       have hN2 : NdsR (H.next + 3) H2 (T 7) l := by
        rcases hN with h | ⟨hln, b, op, h1, h2, h3⟩
        · exact .inl h
        · have e : b ≠ H.next + 1 + 1 := by omega
          exact .inr ⟨hln, b, op, h1, h2, by rw [hH2]; simp [e, h3]⟩
       clear hH2
       rw [hstep] at hargs
       have hl33 : l.length < 32 := by omega
       generalize Syn.node W s' = nx at *
       obtain ⟨nd, s2⟩ := nx
       simp only at hargs hP2' hi2
       have hsc : (∀ x : AV, x ∈ zah nd -> x.scalar = true) = True := eq_true (zdC nd)
       have hq6 : (zah nd).length = 6 := rfl
       have g7 : List.take 6 (zah nd) = zah nd := rfl
       have hqq : zal [nd] = zah nd := by simp [zal]
       generalize zah nd = qc at *
       have m1 : H.next ≠ H2.next := by omega
       have m2 : H.next ≠ H2.next + 1 := by omega
       have n1 : H.next + 1 + 1 ≠ H2.next := by omega
       have n2 : H.next + 1 + 1 ≠ H2.next + 1 := by omega
       have x1 : H.next + 1 ≠ H2.next := by omega
       rcases hN2 with ⟨rfl, e7⟩ | ⟨hln, b, opn, e7, hbn, hb⟩
       · simp [t6, t3, e7, hsc, hq6, g7, -alen]
         exact ⟨k, by omega, [nd], s2, by simpa using hargs, by simp at hlm ⊢; omega, by simp; try omega, hi2, by simp [x1, n1, n2, hP2'], by simp [m1, m2, hz2], .inr ⟨by simp, H2.next + 1, true, by simp, by omega, by simp [hqq, zaB]⟩, by omega, fun j x hj => by
           have := old j x hj
           have e1 : j ≠ H2.next := by omega
           have e2 : j ≠ H2.next + 1 := by omega
           simp [e1, e2, hk2 j x hj]⟩
       · have hbl := zac hw2 hb
         have b1 : b ≠ H2.next := by omega
         have g1 : List.take (l.length * 6) (zal l) = zal l := by rw [List.take_of_length_le]; rw [zaY]; omega
         have g2 : (zal l).length = l.length * 6 := zaY l
         have g3 : (l.length + 1) * 120 <= 140737488355328 := by omega
         have g4 : l.length <= 4611686018427387903 := by omega
         have hgrow : ¬ (l.length + 1 <= l.length) := by omega
         have m3 : H.next ≠ b := by omega
         have n3 : H.next + 1 + 1 ≠ b := by omega
         cases opn
         · simp [t6, t3, e7, hsc, hq6, g7, hb, b1, g1, g2, g3, g4, hgrow, -alen]
           exact ⟨k, by omega, l ++ [nd], s2, hargs, by simp at hlm ⊢; omega, by simp; try omega, hi2, by simp [x1, n1, n2, hP2'], by simp [m1, m2, hz2], .inr ⟨by simp, H2.next + 1, true, by simp, by omega, by simp [hqq, zaB]⟩, by omega, fun j x hj => by
            have := old j x hj
            have e1 : j ≠ H2.next := by omega
            have e2 : j ≠ H2.next + 1 := by omega
            simp [e1, e2, hk2 j x hj]⟩
         · simp [t6, t3, e7, hsc, hq6, g7, hb, b1, g1, g2, g3, g4, hgrow, -alen]
           exact ⟨k, by omega, l ++ [nd], s2, hargs, by simp at hlm ⊢; omega, by simp; try omega, hi2, by simp [x1, n1, n2, n3, hP2'], by simp [m1, m2, m3, hz2], .inr ⟨by simp, H2.next + 1, true, by simp, by omega, by simp [hqq, zaB]⟩, by omega, fun j x hj => by
            have := old j x hj
            have e1 : j ≠ H2.next := by omega
            have e2 : j ≠ H2.next + 1 := by omega
            have e3 : j ≠ b := by omega
            simp [e1, e2, e3, hk2 j x hj]⟩
     · have hll : l.length ≠ 0 := by simpa using hl0
       simp [he, t6, t3, hal, hl0, hll, -alen]
       refine zaa (zbO hP' hi') ?_
       rintro _ HX ⟨rfl, hHX⟩
       rw [hHX]
       clear hHX HX
       by_cases hk0 : (Syn.at_ W s').2.kind = 0
       · have hk' : ((((Syn.at_ W s').2.kind : Nat) : Int) != 0) = false := by simp; omega
         simp [zat, hk', t6, t3, -alen]
         try simp [t6]
         refine zaa (p_ok hP') ?_
         rintro _ HX ⟨rfl, hHX⟩
         rw [hHX]
         clear hHX HX
         by_cases hE : (s').err = 0
         · have hpr : Syn.parse t = .ok l := by rw [hpar, step0 k rfl (fun h => h.2.elim hl0 (fun g => g hk0))]; exact if_pos hE
           simp [hE, t3, hz]
           refine ⟨fun j x hj => ?_, ?_⟩
           · have := old j x hj
             have e1 : j ≠ H.next := by omega
             simp [e1, hk j x hj]
           · rw [hpr]
             refine ⟨_, rfl, ?_⟩
             rcases hN with h | ⟨hln, b, op, h1, h2, h3⟩
             · exact .inl h
             · have e1 : b ≠ H.next := by omega
               exact .inr ⟨hln, b, op, h1, by omega, by simp [e1, h3]⟩
         · have hpr : Syn.parse t = .error ((s').err, (s').pos) := by rw [hpar, step0 k rfl (fun h => h.2.elim hl0 (fun g => g hk0))]; exact if_neg hE
           have hPu := hP'
           unfold PAt zaj at hPu
           have hne : (H.next + 1 + 1) ≠ H.next := by omega
           simp [hE]
           refine zak [(3, 0)] mixedOrders (by kernel_rfl) ?_
           intro es hes
           simp [t6, t3, hPu, hz, rds, heapF]
           refine ⟨by subst hes; exact ⟨by kernel_rfl, by kernel_rfl⟩, fun j x hj => ?_, ?_⟩
           · have := old j x hj
             have e1 : j ≠ H.next := by omega
             simp [e1, hk j x hj]
           · rw [hpr]
       · have hc0 : s'.err = 0 /\ (l = [] \/ Syn.kind W s' ≠ 0) := ⟨he, .inr hk0⟩
         have hk' : ((((Syn.at_ W s').2.kind : Nat) : Int) != 0) = true := by simp; omega
         simp [zat, hk', t6, t3, hal, -alen]
         by_cases h32 : l.length = 32
         · have h32' : (((l.length : Nat) : Int) = 32) = True := eq_true (by omega)
           simp [h32', t6, t3, -alen]
           refine zaa (zeQ hP' hi' 2) ?_
           rintro _ H2 ⟨rfl, hH2⟩
           have hpz : H.next + 1 + 1 ≠ H.next := by omega
           have hP2 : PAt H2 (H.next + 1 + 1) W (Syn.fail W 2 s') := by rw [hH2]; exact PAt.set _
           have hz2 : H2.get H.next = some (.cells [.int .i64 0, .int .i64 0]) := by rw [hH2]; simp [Ne.symm hpz, hz]
           have hk2 : ∀ j x, H.get j = some x -> H2.get j = some x := fun j x hj => by
            have := old j x hj
            have e : j ≠ H.next + 1 + 1 := by omega
            rw [hH2]; simp [e, hk j x hj]
           have hN2 : NdsR (H.next + 3) H2 (T 7) l := by
            rcases hN with h | ⟨hln, b, op, h1, h2, h3⟩
            · exact .inl h
            · have e : b ≠ H.next + 1 + 1 := by omega
              exact .inr ⟨hln, b, op, h1, h2, by rw [hH2]; simp [e, h3]⟩
           have hfin2 : Syn.nodesL W 33 [] s0 = (l, Syn.fail W 2 s') := by
            rw [<- hargs, Syn.nodesL, if_pos hc0, if_pos h32]
           clear hH2
           simp [t6, t3, -alen]
           try simp [t6]
           refine zaa (p_ok hP2) ?_
           rintro _ HX ⟨rfl, hHX⟩
           rw [hHX]
           clear hHX HX
           by_cases hE : ((Syn.fail W 2 s')).err = 0
           · have hpr : Syn.parse t = .ok l := by rw [hpar, hfin2]; exact if_pos hE
             simp [hE, t3, hz2]
             refine ⟨fun j x hj => ?_, ?_⟩
             · have := old j x hj
               have e1 : j ≠ H.next := by omega
               simp [e1, hk2 j x hj]
             · rw [hpr]
               refine ⟨_, rfl, ?_⟩
               rcases hN2 with h | ⟨hln, b, op, h1, h2, h3⟩
               · exact .inl h
               · have e1 : b ≠ H.next := by omega
                 exact .inr ⟨hln, b, op, h1, by omega, by simp [e1, h3]⟩
           · have hpr : Syn.parse t = .error (((Syn.fail W 2 s')).err, ((Syn.fail W 2 s')).pos) := by rw [hpar, hfin2]; exact if_neg hE
             have hPu := hP2
             unfold PAt zaj at hPu
             have hne : (H.next + 1 + 1) ≠ H.next := by omega
             simp [hE]
             refine zak [(3, 0)] mixedOrders (by kernel_rfl) ?_
             intro es hes
             simp [t6, t3, hPu, hz2, rds, heapF]
             refine ⟨by subst hes; exact ⟨by kernel_rfl, by kernel_rfl⟩, fun j x hj => ?_, ?_⟩
             · have := old j x hj
               have e1 : j ≠ H.next := by omega
               simp [e1, hk2 j x hj]
             · rw [hpr]
         · have h32' : (((l.length : Nat) : Int) = 32) = False := eq_false (by omega)
           simp [h32', t6, t3, -alen]
           refine zav (p_node' hW hP' hi') ?_
           rintro _ H2 ⟨rfl, hH2⟩ hw2 _
           have hi2 := (kp_node hW s' hi').1
           have hpz : H.next + 1 + 1 ≠ H.next := by omega
           have hn12 : H2.next = H1.next := by rw [hH2]; rfl
           have hP2' : H2.get (H.next + 1 + 1) = some (.cells (zaj W (Syn.node W s').2)) := by rw [hH2]; simp
           have hz2 : H2.get H.next = some (.cells [.int .i64 0, .int .i64 0]) := by rw [hH2]; simp [Ne.symm hpz, hz]
           have hk2 : ∀ j x, H.get j = some x -> H2.get j = some x := fun j x hj => by
            have := old j x hj
            have e : j ≠ H.next + 1 + 1 := by omega
            rw [hH2]; simp [e, hk j x hj]
           have hstep : Syn.nodesL W (k + 1) l s' = Syn.nodesL W k (l ++ [(Syn.node W s').1]) (Syn.node W s').2 := by
            rw [Syn.nodesL, if_pos hc0, if_neg h32]
           have hN2 : NdsR (H.next + 3) H2 (T 7) l := by
            rcases hN with h | ⟨hln, b, op, h1, h2, h3⟩
            · exact .inl h
            · have e : b ≠ H.next + 1 + 1 := by omega
              exact .inr ⟨hln, b, op, h1, h2, by rw [hH2]; simp [e, h3]⟩
           clear hH2
           rw [hstep] at hargs
           have hl33 : l.length < 32 := by omega
           generalize Syn.node W s' = nx at *
           obtain ⟨nd, s2⟩ := nx
           simp only at hargs hP2' hi2
           have hsc : (∀ x : AV, x ∈ zah nd -> x.scalar = true) = True := eq_true (zdC nd)
           have hq6 : (zah nd).length = 6 := rfl
           have g7 : List.take 6 (zah nd) = zah nd := rfl
           have hqq : zal [nd] = zah nd := by simp [zal]
           generalize zah nd = qc at *
           have m1 : H.next ≠ H2.next := by omega
           have m2 : H.next ≠ H2.next + 1 := by omega
           have n1 : H.next + 1 + 1 ≠ H2.next := by omega
           have n2 : H.next + 1 + 1 ≠ H2.next + 1 := by omega
           have x1 : H.next + 1 ≠ H2.next := by omega
           rcases hN2 with ⟨rfl, e7⟩ | ⟨hln, b, opn, e7, hbn, hb⟩
           · simp [t6, t3, e7, hsc, hq6, g7, -alen]
             exact ⟨k, by omega, [nd], s2, by simpa using hargs, by simp at hlm ⊢; omega, by simp; try omega, hi2, by simp [x1, n1, n2, hP2'], by simp [m1, m2, hz2], .inr ⟨by simp, H2.next + 1, true, by simp, by omega, by simp [hqq, zaB]⟩, by omega, fun j x hj => by
               have := old j x hj
               have e1 : j ≠ H2.next := by omega
               have e2 : j ≠ H2.next + 1 := by omega
               simp [e1, e2, hk2 j x hj]⟩
           · have hbl := zac hw2 hb
             have b1 : b ≠ H2.next := by omega
             have g1 : List.take (l.length * 6) (zal l) = zal l := by rw [List.take_of_length_le]; rw [zaY]; omega
             have g2 : (zal l).length = l.length * 6 := zaY l
             have g3 : (l.length + 1) * 120 <= 140737488355328 := by omega
             have g4 : l.length <= 4611686018427387903 := by omega
             have hgrow : ¬ (l.length + 1 <= l.length) := by omega
             have m3 : H.next ≠ b := by omega
             have n3 : H.next + 1 + 1 ≠ b := by omega
             cases opn
             · simp [t6, t3, e7, hsc, hq6, g7, hb, b1, g1, g2, g3, g4, hgrow, -alen]
               exact ⟨k, by omega, l ++ [nd], s2, hargs, by simp at hlm ⊢; omega, by simp; try omega, hi2, by simp [x1, n1, n2, hP2'], by simp [m1, m2, hz2], .inr ⟨by simp, H2.next + 1, true, by simp, by omega, by simp [hqq, zaB]⟩, by omega, fun j x hj => by
                have := old j x hj
                have e1 : j ≠ H2.next := by omega
                have e2 : j ≠ H2.next + 1 := by omega
                simp [e1, e2, hk2 j x hj]⟩
             · simp [t6, t3, e7, hsc, hq6, g7, hb, b1, g1, g2, g3, g4, hgrow, -alen]
               exact ⟨k, by omega, l ++ [nd], s2, hargs, by simp at hlm ⊢; omega, by simp; try omega, hi2, by simp [x1, n1, n2, n3, hP2'], by simp [m1, m2, m3, hz2], .inr ⟨by simp, H2.next + 1, true, by simp, by omega, by simp [hqq, zaB]⟩, by omega, fun j x hj => by
                have := old j x hj
                have e1 : j ≠ H2.next := by omega
                have e2 : j ≠ H2.next + 1 := by omega
                have e3 : j ≠ b := by omega
                simp [e1, e2, e3, hk2 j x hj]⟩
def zfj (t : Bs) : AV := match Syn.parse t with
 | .ok ns => .tuple [ndsV ns, .agg [.int .i64 0, .int .i64 0]]
 | .error (e, n) => .tuple [.nilsl, .agg [.int .i64 e, .int .i64 n]]
theorem p_parse (t : Bs) (hG : zdd G) (H : AHeap) (hbig : t.length < 9223372036854775808) : Does Tryz.prog G 13 [.str t] H fun r H' => r = zfj t /\ H' = H := by
 refine Does.deep (zid t hG H hbig) ?_
 rintro hw ha r H1 ⟨h1, h2⟩
 refine ⟨zfj t, H, ?_, rfl, fun i x hi => ⟨h1 i x hi, (hw i x hi).1, (hw i x hi).2⟩, rfl, rfl⟩
 unfold zfj
 cases hp : Syn.parse t with
 | ok ns =>
   rw [hp] at h2
   obtain ⟨E, rfl, hE⟩ := h2
   exact .tuple (.cons hE.res (.cons (.old rfl) .nil))
 | error x =>
   rw [hp] at h2
   obtain ⟨e, n⟩ := x
   simp only at h2
   subst h2
   exact .old rfl
theorem dec_does (n : Nat) (hn : n < 9223372036854775808) (H : AHeap) : Does Tryz.prog G 33 [.int .i64 n] H fun r H' => r = .str (Syn.dec n) /\ H' = H := by
 induction n using Syn.dec.induct generalizing H with
 | case1 n h =>
   refine Does.forgot (R := fun r H' => r = .str (Syn.dec n) /\ ∀ j x, H.get j = some x -> H'.get j = some x) ?_ ?_
   · refine Does.wf Tryz.call33 fun hw _ => ?_
     have old : ∀ j x, H.get j = some x -> j ≠ H.next := fun j x hj => by have := zac hw hj; omega
     refine zaf Tryz.call33 Tryz.func33 rfl (by simp [Tryz.f33]) ?_
     have e1 : ¬ (n : Int) < 0 := by omega
     have e2 : (n : Int) < 10 := by omega
     have e3 : IntKind.i64.wrap (48 + (n : Int)) = 48 + n := IntWalk.i64_in _ (by omega)
     have e4 : IntKind.u8.wrap (48 + (n : Int)) = 48 + n := ziZ _ (by omega) (by omega)
     have e5 : (48 + (n : Int)).toNat = 48 + n := by omega
     simp [e1, e2, e3, e4, e5]
     refine ⟨by rw [Syn.dec, if_pos h]; simp, fun j x hj => ?_⟩
     simp [hj, old j x hj]
   · rintro hw ha r H1 ⟨rfl, h⟩
     exact ⟨h, rfl, rfl, rfl⟩
 | case2 n h ih =>
   refine Does.forgot (R := fun r H' => r = .str (Syn.dec n) /\ ∀ j x, H.get j = some x -> H'.get j = some x) ?_ ?_
   · refine Does.wf Tryz.call33 fun hw _ => ?_
     have old : ∀ j x, H.get j = some x -> j ≠ H.next := fun j x hj => by have := zac hw hj; omega
     refine zaf Tryz.call33 Tryz.func33 rfl (by simp [Tryz.f33]) ?_
     have e1 : ¬ (n : Int) < 0 := by omega
     have e2 : ¬ (n : Int) < 10 := by omega
     simp [e1, e2]
     refine aw_drawnA [(8, 0, [7]), (8, 3, [7])] mixedOrders (by kernel_rfl) ?_
     intro es hes
     have e6 : (n : Int).tmod 10 = ((n % 10 : Nat) : Int) := by rw [Int.tmod_eq_emod_of_nonneg (by omega)]; omega
     have e7 : IntKind.i64.wrap ((n : Int) / 10) = ((n / 10 : Nat) : Int) := by rw [IntWalk.i64_in _ (by omega)]; omega
     have e3 : IntKind.i64.wrap (48 + ((n % 10 : Nat) : Int)) = 48 + (n % 10 : Nat) := IntWalk.i64_in _ (by omega)
     have e4 : IntKind.u8.wrap (48 + ((n % 10 : Nat) : Int)) = 48 + (n % 10 : Nat) := ziZ _ (by omega) (by omega)
     have e5 : (48 + ((n % 10 : Nat) : Int)).toNat = 48 + n % 10 := by omega
     have hlen : (Syn.dec (n / 10)).length <= 20 := Nat.le_trans (Syn.dec_len _ (by omega)) (by decide)
     have e8 : (Syn.dec (n / 10)).length + 1 <= 9223372036854775807 := by omega
     simp only [adf_list, adf_cons]
     simp [-Int.natCast_emod, -Int.natCast_ediv, e6, e7, e3, e4, e5]
     refine ⟨_, _, ih (by omega) H, Nat.le_refl _, ?_⟩
     simp [rdsA, heapA, heapF, e8]
     have e9 : (48 + (n : Int) % 10).toNat = 48 + n % 10 := by omega
     refine ⟨?_, by rw [e9]; simp, by rw [Syn.dec.eq_def n, if_neg h]; simp, fun j x hj => ?_⟩
     · subst hes
       exact ⟨by kernel_rfl, by kernel_rfl, by kernel_rfl⟩
     · rw [if_neg (old j x hj)]; exact hj
   · rintro hw ha r H1 ⟨rfl, h⟩
     exact ⟨h, rfl, rfl, rfl⟩
end Go.Proofs.YtnejkhhnpbcmaaaGreatDoor
namespace Go.Proofs.YtnejkhhnpbcmaaaGreatDoor
open Go Go.Abs Go.Lex
open Go.Syn (Ex Nd Eqn Va)
theorem zhv (k : Ex) : kidsV [k] = .vsl (zas k) 1 := by simp [kidsV, zae]
theorem kids_two (a b : Ex) : kidsV [a, b] = .vsl (zas a ++ zas b) 2 := by simp [kidsV, zae]
theorem kids_three (a b c : Ex) : kidsV [a, b, c] = .vsl (zas a ++ (zas b ++ zas c)) 3 := by simp [kidsV, zae]
theorem zb0 : ∀ {l : List Ex} {i : Nat} {e : Ex}, l[i]? = some e -> ((zae l).drop (i * 5)).take 5 = zas e
 | [], i, e, h => by simp at h
 | a :: l, 0, e, h => by
   simp only [List.getElem?_cons_zero, Option.some.injEq] at h
   subst h
   have := zci a
   simp only [Nat.zero_mul, List.drop_zero, zae]
   rw [List.take_append_of_le_length (by omega), List.take_of_length_le (by omega)]
 | a :: l, i + 1, e, h => by
   have hl := zci a
   have := zb0 (l := l) (i := i) (e := e) (by simpa using h)
   rw [zae, show (i + 1) * 5 = (zas a).length + i * 5 by omega, <- List.drop_drop, List.drop_left]
   exact this
theorem vsT_snoc : ∀ (l : List Syn.Va) (v : Syn.Va), l ≠ [] -> Syn.vsT (l ++ [v]) = Syn.vsT l ++ (59 :: 32 :: Syn.vT v)
 | [], v, h => absurd rfl h
 | [a], v, _ => by simp [Syn.vsT]
 | a :: b :: l, v, _ => by
   have := vsT_snoc (b :: l) v (by simp)
   simp only [List.cons_append, Syn.vsT] at this ⊢
   rw [this]
   simp
theorem vsT_take {l : List Syn.Va} {i : Nat} {v : Syn.Va} (h : l[i]? = some v) : Syn.vsT (l.take (i + 1)) = if i = 0 then Syn.vT v else Syn.vsT (l.take i) ++ (59 :: 32 :: Syn.vT v) := by
 have e : l.take (i + 1) = l.take i ++ [v] := by rw [List.take_add_one, h]; rfl
 rw [e]
 by_cases hi : i = 0
 · subst hi
   rw [if_pos rfl]
   simp [Syn.vsT]
 · rw [if_neg hi, vsT_snoc]
   intro e0
   have := congrArg List.length e0
   have hl : i < l.length := by
    rcases Nat.lt_or_ge i l.length with q | q
    · exact q
    · rw [List.getElem?_eq_none q] at h; simp at h
   rw [List.length_take, List.length_nil] at this
   omega
theorem vas_at : ∀ {l : List Syn.Va} {i : Nat} {v : Syn.Va}, l[i]? = some v -> (zad l)[i * 5]? = some (.str v.name) /\ (zad l)[i * 5 + 1]? = some (.int .i64 v.kind) /\ (zad l)[i * 5 + 2]? = some (.str v.on) /\ (zad l)[i * 5 + 3]? = some (.bool v.neg) /\ i * 5 + 5 <= (zad l).length
 | [], i, v, h => by simp at h
 | a :: l, 0, v, h => by
   simp only [List.getElem?_cons_zero, Option.some.injEq] at h
   subst h
   exact ⟨rfl, rfl, rfl, rfl, by simp [zad, zar]⟩
 | a :: l, i + 1, v, h => by
   obtain ⟨h1, h2, h3, h4, h5⟩ := vas_at (l := l) (i := i) (v := v) (by simpa using h)
   have e : ∀ k, (zad (a :: l))[(i + 1) * 5 + k]? = (zad l)[i * 5 + k]? := by
    intro k
    rw [zad, show (i + 1) * 5 + k = (zar a).length + (i * 5 + k) by simp [zar]; omega, List.getElem?_append_right (by omega), Nat.add_sub_cancel_left]
   refine ⟨?_, ?_, ?_, ?_, ?_⟩
   · have := e 0; simp only [Nat.add_zero] at this; rw [this]; exact h1
   · rw [e]; exact h2
   · rw [e]; exact h3
   · rw [e]; exact h4
   · rw [zad, List.length_append]; simp only [zar, List.length_cons, List.length_nil]; omega
theorem vas_at5 : ∀ {l : List Syn.Va} {i : Nat} {v : Syn.Va}, l[i]? = some v -> (zad l)[i * 5 + 4]? = some (.int .i64 v.pos)
 | [], i, v, h => by simp at h
 | a :: l, 0, v, h => by
   simp only [List.getElem?_cons_zero, Option.some.injEq] at h
   subst h
   rfl
 | a :: l, i + 1, v, h => by
   have := vas_at5 (l := l) (i := i) (v := v) (by simpa using h)
   rw [zad, show (i + 1) * 5 + 4 = (zar a).length + (i * 5 + 4) by simp [zar]; omega, List.getElem?_append_right (by omega), Nat.add_sub_cancel_left]
   exact this
theorem wts_len : ∀ ks : List Ex, ks.length <= Ex.wts ks
 | [] => Nat.le_refl _
 | e :: l => by
   have := wts_len l
   have h1 : 1 <= e.wt := by cases e; simp [Syn.Ex.wt]
   simp only [List.length_cons, Syn.Ex.wts]
   omega
theorem zgJ : ∀ a b : List Ex, zae (a ++ b) = zae a ++ zae b
 | [], b => rfl
 | e :: a, b => by rw [List.cons_append, zae, zae, zgJ a b, List.append_assoc]
theorem zgL : ∀ {l : List Eqn} {i : Nat} {q : Eqn}, l[i]? = some q -> (zag l)[i * 7]? = some (.str q.name) /\ ((zag l).drop (i * 7 + 1)).take 5 = zas q.e /\ (zag l)[i * 7 + 6]? = some (.int .i64 q.pos) /\ i * 7 + 7 <= (zag l).length
 | [], i, v, h => by simp at h
 | a :: l, 0, v, h => by
   simp only [List.getElem?_cons_zero, Option.some.injEq] at h
   subst h
   have hl := zci a.e
   refine ⟨rfl, ?_, ?_, by rw [zag, List.length_append, zaZ]; omega⟩
   · simp only [zag, zao, Nat.zero_mul, Nat.zero_add, List.cons_append, List.drop_succ_cons, List.drop_zero, List.append_assoc]
     rw [List.take_append_of_le_length (by omega), List.take_of_length_le (by omega)]
   · simp only [zag, zao, Nat.zero_mul, Nat.zero_add, List.cons_append, List.append_assoc]
     rw [show (6 : Nat) = 5 + 1 from rfl, List.getElem?_cons_succ, List.getElem?_append_right (by omega), hl]
     rfl
 | a :: l, i + 1, v, h => by
   obtain ⟨h1, h2, h3, h5⟩ := zgL (l := l) (i := i) (q := v) (by simpa using h)
   have hl := zaZ a
   have e : ∀ k, (zag (a :: l))[(i + 1) * 7 + k]? = (zag l)[i * 7 + k]? := by
    intro k
    rw [zag, show (i + 1) * 7 + k = (zao a).length + (i * 7 + k) by omega, List.getElem?_append_right (by omega), Nat.add_sub_cancel_left]
   refine ⟨?_, ?_, ?_, ?_⟩
   · have := e 0; simp only [Nat.add_zero] at this; rw [this]; exact h1
   · rw [zag, show (i + 1) * 7 + 1 = (zao a).length + (i * 7 + 1) by omega, <- List.drop_drop, List.drop_left]; exact h2
   · rw [e]; exact h3
   · rw [zag, List.length_append]; omega
theorem parse_nz {t : Bs} {e p : Nat} (h : Syn.parse t = .error (e, p)) : e ≠ 0 := by
 unfold Syn.parse at h
 by_cases hb : 16384 < t.length
 · rw [if_pos hb] at h
   simp only [Except.error.injEq, Prod.mk.injEq] at h
   omega
 rw [if_neg hb] at h
 cases hc : cutS t.length t with
 | error x =>
   rw [hc] at h
   simp only [Except.error.injEq, Prod.mk.injEq] at h
   omega
 | ok ls =>
   rw [hc] at h
   simp only at h
   generalize Syn.nodesL (ls ++ [(t.length, ⟨0, [], 0⟩)]) 33 [] ⟨0, 0, 0, 0, 0⟩ = r at *
   by_cases he : r.2.err = 0
   · rw [if_pos he] at h; simp at h
   · rw [if_neg he] at h
     simp only [Except.error.injEq, Prod.mk.injEq] at h
     omega
theorem zc2 : ∀ {l : List Nd} {n : Nd}, n ∈ l -> n.wt <= Syn.ndsWt l
 | [], n, h => by simp at h
 | a :: l, n, h => by
   rcases List.mem_cons.1 h with rfl | h
   · simp only [Syn.ndsWt]; omega
   · have := zc2 h
     simp only [Syn.ndsWt]; omega
theorem zd4 : ∀ {l : List Eqn} {n : Eqn}, n ∈ l -> n.e.wt <= Syn.eqsWt l
 | [], n, h => by simp at h
 | a :: l, n, h => by
   rcases List.mem_cons.1 h with rfl | h
   · simp only [Syn.eqsWt]; omega
   · have := zd4 h
     simp only [Syn.eqsWt]; omega
theorem zc6 : ∀ l : List Eqn, l.length <= Syn.eqsWt l
 | [] => Nat.le_refl _
 | a :: l => by
   have := zc6 l
   have h3 : 1 <= a.e.wt := by cases a.e; simp [Syn.Ex.wt]
   simp only [Syn.eqsWt, List.length_cons]; omega
theorem zc3 : ∀ l : List Nd, l.length <= Syn.ndsWt l
 | [] => Nat.le_refl _
 | a :: l => by
   have := zc3 l
   have h3 : 1 <= a.wt := by simp [Syn.Nd.wt]
   simp only [Syn.ndsWt, List.length_cons]; omega
end Go.Proofs.YtnejkhhnpbcmaaaGreatDoor
namespace Go.Proofs.YtnejkhhnpbcmaaaGreatDoor
open Go Go.Abs Go.Lex
open Go.Syn (Tr Trs Trp Ex)
variable {G : Nat -> Option AV}
def TextD (G : Nat -> Option AV) (e : Ex) (t : Bs) : Prop := ∀ H, Does Tryz.prog G 16 [.agg (zas e)] H fun r h => r = .str t /\ h = H
def PartD (G : Nat -> Option AV) (e : Ex) (t : Bs) : Prop := ∀ H, Does Tryz.prog G 34 [.agg (zas e)] H fun r h => r = .str t /\ h = H
theorem zbu {f : FuncId} {args : List AV} {H : AHeap} {t : Bs} (h : Does Tryz.prog G f args H fun r h => r = .str t /\ ∀ j x, H.get j = some x -> h.get j = some x) : Does Tryz.prog G f args H fun r h => r = .str t /\ h = H :=
 Does.forgot h fun hw ha r H1 hr => ⟨hr.2, by rw [hr.1]; rfl, hr.1, rfl⟩
section
variable {n pos : Nat} {nm op : Bs} {k a b c : Ex} {l : List Ex} {t ta tb tc : Bs}
theorem t_int (hn : n < 9223372036854775808) : TextD G (.mk Syn.sInt [] n pos []) (Syn.dec n) := fun H => by
 refine zbu ?_
 refine Does.wf Tryz.call16 fun hw _ => ?_
 have old : ∀ j x, H.get j = some x -> j ≠ H.next := fun j x hj => by have := zac hw hj; omega
 refine zaf Tryz.call16 Tryz.func16 rfl (by simp [Tryz.f16]) ?_
 rw [zab]
 simp [Syn.sInt]
 refine zaa (dec_does n hn _) ?_
 rintro _ HX ⟨rfl, hHX⟩
 rw [hHX]
 clear hHX HX
 simp
 intro j x hj
 simp [hj, old j x hj]
theorem t_tt : TextD G (.mk Syn.sBool [] 1 pos []) Syn.sTrue := fun H => by
 refine zbu ?_
 refine Does.wf Tryz.call16 fun hw _ => ?_
 have old : ∀ j x, H.get j = some x -> j ≠ H.next := fun j x hj => by have := zac hw hj; omega
 refine zaf Tryz.call16 Tryz.func16 rfl (by simp [Tryz.f16]) ?_
 rw [zab]
 simp [Syn.sBool, Syn.sTrue]
 intro j x hj
 simp [hj, old j x hj]
theorem t_ff : TextD G (.mk Syn.sBool [] 0 pos []) Syn.sFalse := fun H => by
 refine zbu ?_
 refine Does.wf Tryz.call16 fun hw _ => ?_
 have old : ∀ j x, H.get j = some x -> j ≠ H.next := fun j x hj => by have := zac hw hj; omega
 refine zaf Tryz.call16 Tryz.func16 rfl (by simp [Tryz.f16]) ?_
 rw [zab]
 simp [Syn.sBool, Syn.sFalse]
 intro j x hj
 simp [hj, old j x hj]
theorem t_var : TextD G (.mk Syn.sVar nm 0 pos []) nm := fun H => by
 refine zbu ?_
 refine Does.wf Tryz.call16 fun hw _ => ?_
 have old : ∀ j x, H.get j = some x -> j ≠ H.next := fun j x hj => by have := zac hw hj; omega
 refine zaf Tryz.call16 Tryz.func16 rfl (by simp [Tryz.f16]) ?_
 rw [zab]
 simp [Syn.sVar]
 intro j x hj
 simp [hj, old j x hj]
theorem t_un {o : Wd} (ho : (op, o) ∈ Syn.unsW) (hk : TextD G k t) (hb : t.length <= 1000000000) : TextD G (.mk op [] 0 pos [k]) (40 :: (o.text ++ (32 :: (t ++ [41])))) := fun H => by
 refine zbu ?_
 refine Does.wf Tryz.call16 fun hw _ => ?_
 have old : ∀ j x, H.get j = some x -> j ≠ H.next := fun j x hj => by have := zac hw hj; omega
 refine zaf Tryz.call16 Tryz.func16 rfl (by simp [Tryz.f16]) ?_
 rw [zab, zhv]
 simp only [Syn.unsW, List.mem_cons, List.not_mem_nil, or_false, Prod.mk.injEq] at ho
 obtain ⟨op', nm', n', p', ks'⟩ := k
 rcases ho with ⟨rfl, rfl⟩ | ⟨rfl, rfl⟩ | ⟨rfl, rfl⟩
 · have hk' := fun H => hk H
   simp only [zab] at hk'
   simp [Syn.sNot, Syn.kw, zab]
   refine zak [(1, 0), (1, 8), (6, 0)] mixedOrders (by kernel_rfl) ?_
   intro es hes
   simp
   refine ⟨_, _, hk' _, Nat.le_refl _, ?_⟩
   simp [rds, heapF]
   rw [if_pos (by omega)]
   simp [rds, heapF]
   rw [if_pos (by omega)]
   simp [rds, heapF]
   subst hes
   exact ⟨⟨by kernel_rfl, by kernel_rfl⟩, rfl, fun j x hj => by simp [hj, old j x hj]⟩
 · have hk' := fun H => hk H
   simp only [zab] at hk'
   simp [Syn.sPre, Syn.kw, zab]
   refine zak [(1, 0), (1, 8), (6, 0)] mixedOrders (by kernel_rfl) ?_
   intro es hes
   simp
   refine ⟨_, _, hk' _, Nat.le_refl _, ?_⟩
   simp [rds, heapF]
   rw [if_pos (by omega)]
   simp [rds, heapF]
   rw [if_pos (by omega)]
   simp [rds, heapF]
   subst hes
   exact ⟨⟨by kernel_rfl, by kernel_rfl⟩, rfl, fun j x hj => by simp [hj, old j x hj]⟩
 · have hk' := fun H => hk H
   simp only [zab] at hk'
   simp [Syn.sNeg, Syn.sg, zab]
   refine zaa (hk' _) ?_
   rintro _ HX ⟨rfl, hHX⟩
   rw [hHX]
   clear hHX HX
   simp
   rw [if_pos (by omega)]
   simp
   rw [if_pos (by omega)]
   simp
   exact ⟨rfl, fun j x hj => by simp [hj, old j x hj]⟩
theorem t_whn (hn : nm.length <= 24) (hk : TextD G k t) (hb : t.length <= 1000000000) : TextD G (.mk Syn.sWhen nm 1 pos [k]) (40 :: (t ++ (32 :: (Syn.sWhen ++ (32 :: (nm ++ [41])))))) := fun H => by
 refine zbu ?_
 refine Does.wf Tryz.call16 fun hw _ => ?_
 have old : ∀ j x, H.get j = some x -> j ≠ H.next := fun j x hj => by have := zac hw hj; omega
 refine zaf Tryz.call16 Tryz.func16 rfl (by simp [Tryz.f16]) ?_
 rw [zab, zhv]
 obtain ⟨opk, nmk, nk, pk, ksk⟩ := k
 have hk' := fun H => hk H
 simp only [zab] at hk'
 simp [Syn.sWhen, zab]
 refine zak [(2, 0), (7, 0), (7, 4)] mixedOrders (by kernel_rfl) ?_
 intro es hes
 simp [Syn.sWhen]
 refine ⟨_, _, hk' _, Nat.le_refl _, ?_⟩
 simp [rds, heapF, Syn.sWhen]
 rw [if_pos (by omega)]
 simp [rds, heapF, Syn.sWhen]
 rw [if_pos (by omega)]
 simp [rds, heapF, Syn.sWhen]
 rw [if_pos (by omega)]
 simp [rds, heapF, Syn.sWhen]
 rw [if_pos (by omega)]
 simp [rds, heapF, Syn.sWhen]
 subst hes
 exact ⟨⟨by kernel_rfl, by kernel_rfl⟩, fun j x hj => by simp [hj, old j x hj]⟩
theorem t_whnot (hn : nm.length <= 24) (hk : TextD G k t) (hb : t.length <= 1000000000) : TextD G (.mk Syn.sWhen nm 0 pos [k]) (40 :: (t ++ (32 :: (Syn.sWhen ++ (32 :: (Syn.sNot ++ (32 :: (nm ++ [41])))))))) := fun H => by
 refine zbu ?_
 refine Does.wf Tryz.call16 fun hw _ => ?_
 have old : ∀ j x, H.get j = some x -> j ≠ H.next := fun j x hj => by have := zac hw hj; omega
 refine zaf Tryz.call16 Tryz.func16 rfl (by simp [Tryz.f16]) ?_
 rw [zab, zhv]
 obtain ⟨opk, nmk, nk, pk, ksk⟩ := k
 have hk' := fun H => hk H
 simp only [zab] at hk'
 simp [Syn.sWhen, Syn.sNot, zab]
 refine zak [(2, 0), (7, 0), (7, 4)] mixedOrders (by kernel_rfl) ?_
 intro es hes
 simp [Syn.sWhen, Syn.sNot]
 refine ⟨_, _, hk' _, Nat.le_refl _, ?_⟩
 simp [rds, heapF, Syn.sWhen, Syn.sNot]
 rw [if_pos (by omega)]
 simp [rds, heapF, Syn.sWhen, Syn.sNot]
 rw [if_pos (by omega)]
 simp [rds, heapF, Syn.sWhen, Syn.sNot]
 rw [if_pos (by omega)]
 simp [rds, heapF, Syn.sWhen, Syn.sNot]
 rw [if_pos (by omega)]
 simp [rds, heapF, Syn.sWhen, Syn.sNot]
 subst hes
 exact ⟨⟨by kernel_rfl, by kernel_rfl⟩, fun j x hj => by simp [hj, old j x hj]⟩
theorem t_ite (ha : TextD G a ta) (hb : TextD G b tb) (hc : TextD G c tc) (la : ta.length <= 1000000000) (lb : tb.length <= 1000000000) (lc : tc.length <= 1000000000) : TextD G (.mk Syn.sIf [] 0 pos [a, b, c]) (40 :: (Syn.sIf ++ (32 :: (ta ++ (32 :: (Syn.sThen ++ (32 :: (tb ++ (32 :: (Syn.sElse ++ (32 :: (tc ++ [41])))))))))))) := fun H => by
 refine zbu ?_
 refine Does.wf Tryz.call16 fun hw _ => ?_
 have old : ∀ j x, H.get j = some x -> j ≠ H.next := fun j x hj => by have := zac hw hj; omega
 refine zaf Tryz.call16 Tryz.func16 rfl (by simp [Tryz.f16]) ?_
 rw [zab, kids_three]
 obtain ⟨opa, nma, na, pa, ksa⟩ := a
 obtain ⟨opb, nmb, nb, pb, ksb⟩ := b
 obtain ⟨opc, nmc, nc, pc, ksc⟩ := c
 have ha' := fun H => ha H
 simp only [zab] at ha'
 have hb' := fun H => hb H
 simp only [zab] at hb'
 have hc' := fun H => hc H
 simp only [zab] at hc'
 simp [Syn.sIf, Syn.sThen, Syn.sElse, zab]
 refine zak [(2, 0), (8, 0), (8, 4), (14, 0), (14, 4), (14, 10)] mixedOrders (by kernel_rfl) ?_
 intro es hes
 simp [Syn.sIf, Syn.sThen, Syn.sElse]
 refine ⟨_, _, ha' _, Nat.le_refl _, ?_⟩
 simp [rds, heapF, Syn.sIf, Syn.sThen, Syn.sElse]
 rw [if_pos (by omega)]
 simp [rds, heapF, Syn.sIf, Syn.sThen, Syn.sElse]
 rw [if_pos (by omega)]
 simp [rds, heapF, Syn.sIf, Syn.sThen, Syn.sElse]
 refine ⟨_, _, hb' _, Nat.le_refl _, ?_⟩
 simp [rds, heapF, Syn.sIf, Syn.sThen, Syn.sElse]
 rw [if_pos (by omega)]
 simp [rds, heapF, Syn.sIf, Syn.sThen, Syn.sElse]
 rw [if_pos (by omega)]
 simp [rds, heapF, Syn.sIf, Syn.sThen, Syn.sElse]
 refine ⟨_, _, hc' _, Nat.le_refl _, ?_⟩
 simp [rds, heapF, Syn.sIf, Syn.sThen, Syn.sElse]
 rw [if_pos (by omega)]
 simp [rds, heapF, Syn.sIf, Syn.sThen, Syn.sElse]
 rw [if_pos (by omega)]
 simp [rds, heapF, Syn.sIf, Syn.sThen, Syn.sElse]
 subst hes
 exact ⟨⟨by kernel_rfl, by kernel_rfl⟩, fun j x hj => by simp [hj, old j x hj]⟩
theorem t_merge (hn : nm.length <= 24) (ha : PartD G a ta) (hb : PartD G b tb) (la : ta.length <= 1000000000) (lb : tb.length <= 1000000000) : TextD G (.mk Syn.sMerge nm 0 pos [a, b]) (40 :: (Syn.sMerge ++ (32 :: (nm ++ (32 :: (ta ++ (32 :: (tb ++ [41])))))))) := fun H => by
 refine zbu ?_
 refine Does.wf Tryz.call16 fun hw _ => ?_
 have old : ∀ j x, H.get j = some x -> j ≠ H.next := fun j x hj => by have := zac hw hj; omega
 refine zaf Tryz.call16 Tryz.func16 rfl (by simp [Tryz.f16]) ?_
 rw [zab, kids_two]
 obtain ⟨opa, nma, na, pa, ksa⟩ := a
 obtain ⟨opb, nmb, nb, pb, ksb⟩ := b
 have ha' := fun H => ha H
 simp only [zab] at ha'
 have hb' := fun H => hb H
 simp only [zab] at hb'
 simp [Syn.sMerge, zab]
 refine zak [(1, 0), (1, 8), (1, 14), (6, 0), (12, 0), (12, 8)] mixedOrders (by kernel_rfl) ?_
 intro es hes
 simp [Syn.sMerge]
 rw [if_pos (by omega)]
 simp [rds, heapF, Syn.sMerge]
 rw [if_pos (by omega)]
 simp [rds, heapF, Syn.sMerge]
 refine ⟨_, _, ha' _, Nat.le_refl _, ?_⟩
 simp [rds, heapF, Syn.sMerge]
 rw [if_pos (by omega)]
 simp [rds, heapF, Syn.sMerge]
 rw [if_pos (by omega)]
 simp [rds, heapF, Syn.sMerge]
 refine ⟨_, _, hb' _, Nat.le_refl _, ?_⟩
 simp [rds, heapF, Syn.sMerge]
 rw [if_pos (by omega)]
 simp [rds, heapF, Syn.sMerge]
 rw [if_pos (by omega)]
 simp [rds, heapF, Syn.sMerge]
 subst hes
 exact ⟨⟨by kernel_rfl, by kernel_rfl⟩, fun j x hj => by simp [hj, old j x hj]⟩
theorem t_bin {o : Wd} (ho : o ∈ Syn.opsW) (ha : TextD G a ta) (hb : TextD G b tb) (la : ta.length <= 1000000000) (lb : tb.length <= 1000000000) : TextD G (.mk o.text [] 0 pos [a, b]) (40 :: (ta ++ (32 :: (o.text ++ (32 :: (tb ++ [41])))))) := fun H => by
 refine zbu ?_
 refine Does.wf Tryz.call16 fun hw _ => ?_
 have old : ∀ j x, H.get j = some x -> j ≠ H.next := fun j x hj => by have := zac hw hj; omega
 refine zaf Tryz.call16 Tryz.func16 rfl (by simp [Tryz.f16]) ?_
 rw [zab, kids_two]
 obtain ⟨opa, nma, na, pa, ksa⟩ := a
 obtain ⟨opb, nmb, nb, pb, ksb⟩ := b
 have ha' := fun H => ha H
 simp only [zab] at ha'
 have hb' := fun H => hb H
 simp only [zab] at hb'
 have hl := Syn.op_len ho
 have hne : o.text ≠ Syn.sInt /\ o.text ≠ Syn.sBool /\ o.text ≠ Syn.sVar /\ o.text ≠ Syn.sCall /\ o.text ≠ Syn.sNot /\ o.text ≠ Syn.sPre /\ o.text ≠ Syn.sNeg /\ o.text ≠ Syn.sWhen /\ o.text ≠ Syn.sIf /\ o.text ≠ Syn.sMerge := by
  have := (by decide +kernel : ∀ o ∈ Syn.opsW, o.text ≠ Syn.sInt /\ o.text ≠ Syn.sBool /\ o.text ≠ Syn.sVar /\ o.text ≠ Syn.sCall /\ o.text ≠ Syn.sNot /\ o.text ≠ Syn.sPre /\ o.text ≠ Syn.sNeg /\ o.text ≠ Syn.sWhen /\ o.text ≠ Syn.sIf /\ o.text ≠ Syn.sMerge) o ho
  exact this
 obtain ⟨e1, e2, e3, e4, e5, e6, e7, e8, e9, e10⟩ := hne
 generalize o.text = op at *
 simp only [Syn.sInt, Syn.sBool, Syn.sVar, Syn.sCall, Syn.sNot, Syn.sPre, Syn.sNeg, Syn.sWhen, Syn.sIf, Syn.sMerge] at e1 e2 e3 e4 e5 e6 e7 e8 e9 e10
 have f1 := beq_false_of_ne e1
 have f2 := beq_false_of_ne e2
 have f3 := beq_false_of_ne e3
 have f4 := beq_false_of_ne e4
 have f5 := beq_false_of_ne e5
 have f6 := beq_false_of_ne e6
 have f7 := beq_false_of_ne e7
 have f8 := beq_false_of_ne e8
 have f9 := beq_false_of_ne e9
 have f10 := beq_false_of_ne e10
 simp [f1, f2, f3, f4, f5, f6, f7, f8, f9, f10, zab]
 refine zak [(2, 0), (7, 0), (7, 4), (7, 14), (12, 0), (12, 4)] mixedOrders (by kernel_rfl) ?_
 intro es hes
 simp [f1, f2, f3, f4, f5, f6, f7, f8, f9, f10]
 refine ⟨_, _, ha' _, Nat.le_refl _, ?_⟩
 simp [rds, heapF]
 rw [if_pos (by omega)]
 simp [rds, heapF]
 rw [if_pos (by omega)]
 simp [rds, heapF]
 rw [if_pos (by omega)]
 simp [rds, heapF]
 rw [if_pos (by omega)]
 simp [rds, heapF]
 refine ⟨_, _, hb' _, Nat.le_refl _, ?_⟩
 simp [rds, heapF]
 rw [if_pos (by omega)]
 simp [rds, heapF]
 rw [if_pos (by omega)]
 simp [rds, heapF]
 subst hes
 exact ⟨⟨by kernel_rfl, by kernel_rfl⟩, fun j x hj => by simp [hj, old j x hj]⟩
theorem p_var (hn : nm.length <= 24) : PartD G (.mk Syn.sVar nm 0 pos []) (40 :: (nm ++ [41])) := fun H => by
 refine zbu ?_
 refine Does.wf Tryz.call34 fun hw _ => ?_
 have old : ∀ j x, H.get j = some x -> j ≠ H.next := fun j x hj => by have := zac hw hj; omega
 refine zaf Tryz.call34 Tryz.func34 rfl (by simp [Tryz.f34]) ?_
 rw [zab]
 simp [Syn.sVar]
 rw [if_pos (by omega)]
 simp
 rw [if_pos (by omega)]
 simp
 intro j x hj
 simp [hj, old j x hj]
theorem p_of (hop : op ≠ Syn.sVar) (hk : TextD G (.mk op nm n pos l) t) : PartD G (.mk op nm n pos l) t := fun H => by
 refine zbu ?_
 refine Does.wf Tryz.call34 fun hw _ => ?_
 have old : ∀ j x, H.get j = some x -> j ≠ H.next := fun j x hj => by have := zac hw hj; omega
 refine zaf Tryz.call34 Tryz.func34 rfl (by simp [Tryz.f34]) ?_
 have hk' := fun H => hk H
 simp only [zab] at hk'
 simp only [Syn.sVar] at hop
 have f1 := beq_false_of_ne hop
 rw [zab]
 simp [f1]
 refine zaa (hk' _) ?_
 rintro _ HX ⟨rfl, hHX⟩
 rw [hHX]
 clear hHX HX
 simp
 intro j x hj
 simp [hj, old j x hj]
end
inductive Tx (G : Nat -> Option AV) : List Ex -> List Bs -> Prop
 | nil : Tx G [] []
 | cons {e : Ex} {l : List Ex} {t : Bs} {ts : List Bs} (h : TextD G e t) (hb : t.length <= 1000000000) (hl : Tx G l ts) : Tx G (e :: l) (t :: ts)
theorem Tx.len : ∀ {l : List Ex} {ts : List Bs}, Tx G l ts -> ts.length = l.length
 | _, _, .nil => rfl
 | _, _, .cons _ _ hl => by simp [hl.len]
theorem Tx.at : ∀ {l : List Ex} {ts : List Bs}, Tx G l ts -> ∀ i, i < l.length -> ∃ e t, l[i]? = some e /\ ts[i]? = some t /\ TextD G e t /\ t.length <= 1000000000
 | _, _, .nil, i, hi => absurd hi (Nat.not_lt_zero i)
 | _, _, .cons h hb hl, 0, hi => ⟨_, _, rfl, rfl, h, hb⟩
 | _, _, .cons h hb hl, i + 1, hi => by
   obtain ⟨e, t, h1, h2, h3, h4⟩ := hl.at i (by simpa using hi)
   exact ⟨e, t, by simpa using h1, by simpa using h2, h3, h4⟩
def sepT (ts : List Bs) : Bs := (ts.map fun t => 44 :: 32 :: t).flatten
def joinT : List Bs -> Bs
 | [] => []
 | t :: r => t ++ sepT r
theorem sepT_len : ∀ ts : List Bs, ts.length <= (sepT ts).length
 | [] => Nat.le_refl _
 | a :: r => by
   have := sepT_len r
   simp [sepT] at this ⊢
   omega
theorem sepT_snoc (ts : List Bs) (t : Bs) : sepT (ts ++ [t]) = sepT ts ++ (44 :: 32 :: t) := by simp [sepT]
theorem joinT_snoc : ∀ (ts : List Bs) (t : Bs), ts ≠ [] -> joinT (ts ++ [t]) = joinT ts ++ (44 :: 32 :: t)
 | [], t, h => absurd rfl h
 | a :: r, t, _ => by simp only [List.cons_append, joinT, sepT_snoc, List.append_assoc]
theorem joinT_take {ts : List Bs} {i : Nat} {t : Bs} (h : ts[i]? = some t) : joinT (ts.take (i + 1)) = if i = 0 then t else joinT (ts.take i) ++ (44 :: 32 :: t) := by
 have e : ts.take (i + 1) = ts.take i ++ [t] := by rw [List.take_add_one, h]; rfl
 rw [e]
 by_cases hi : i = 0
 · subst hi
   rw [if_pos rfl]
   simp [joinT, sepT]
 · rw [if_neg hi, joinT_snoc]
   intro e0
   have := congrArg List.length e0
   have hl : i < ts.length := by
    rcases Nat.lt_or_ge i ts.length with q | q
    · exact q
    · rw [List.getElem?_eq_none q] at h; simp at h
   rw [List.length_take, List.length_nil] at this
   omega
theorem t_calls {nm : Bs} {pos : Nat} {es : List Ex} {ts : List Bs} (hn : nm.length <= 24) (hx : Tx G es ts) (hl : (joinT ts).length <= 1000000000) (hes : es.length <= 1000000001) : TextD G (.mk Syn.sCall nm 0 pos es) (nm ++ (40 :: (joinT ts ++ [41]))) := fun H => by
 refine zbu ?_
 refine Does.wf Tryz.call16 fun hw _ => ?_
 have old : ∀ j x, H.get j = some x -> j ≠ H.next := fun j x hj => by have := zac hw hj; omega
 refine zaf Tryz.call16 Tryz.func16 rfl (by simp [Tryz.f16]) ?_
 rw [zab]
 have hal : alen Tryz.prog 49 (kidsV es) = some (.int .i64 es.length) := by
  unfold kidsV
  cases es with
  | nil => rfl
  | cons e l => rfl
 simp [Syn.sCall, hal, -alen]
 refine za6 (fun k T' H' => ∃ i : Nat, i + k = es.length /\ T' 3 = kidsV es /\ T' 4 = .str (joinT (ts.take i)) /\ T' 5 = .int .i64 i /\ T' 1 = .ptr H.next 0 /\ H'.get H.next = some (.cells [.str Syn.sCall, .str nm, .int .i64 0, .int .i64 pos, kidsV es]) /\ ∀ j x, H.get j = some x -> H'.get j = some x) es.length ?_ ?_
 · refine ⟨0, by simp, by simp, by simp [joinT], by simp, by simp, by simp [Syn.sCall], fun j x hj => ?_⟩
   simp [hj, old j x hj]
 rintro k T H1 ⟨i, hik, t3, t4, t5, t1, hM, hk⟩
 by_cases hi : i < es.length
 · have hii : (i : Int) < es.length := by omega
   obtain ⟨e, t, he, ht, hd, hb⟩ := hx.at i hi
   have hkv : kidsV es = .vsl (zae es) es.length := by unfold kidsV; rw [if_neg (by cases es <;> simp_all)]
   have hat := zb0 he
   have hlen := zap es
   rw [hkv] at t3 hal
   have wr : IntKind.i64.wrap ((i : Int) + 1) = ((i + 1 : Nat) : Int) := by rw [IntWalk.i64_in _ (by omega)]; omega
   have hj := joinT_take ht
   have h5 : 5 <= (zae es).length - i * 5 := by omega
   have hjl : (joinT (ts.take (i + 1))).length <= 1000000000 := by
    refine Nat.le_trans ?_ hl
    have e0 : ts = ts.take (i + 1) ++ ts.drop (i + 1) := (List.take_append_drop _ _).symm
    have key : ∀ a b : List Bs, (joinT a).length <= (joinT (a ++ b)).length := by
     intro a b
     cases a with
     | nil => simp [joinT]
     | cons x a => simp [joinT, sepT]
    have := key (ts.take (i + 1)) (ts.drop (i + 1))
    rwa [<- e0] at this
   by_cases hi0 : i = 0
   · subst hi0
     rw [if_pos rfl] at hj
     have h5' : 5 <= (zae es).length := by omega
     have hat' : List.take 5 (zae es) = zas e := by simpa using hat
     simp [t3, t4, t5, hal, hi, hii, h5', hat', -alen]
     refine zaa (hd _) ?_
     rintro _ HX ⟨rfl, hHX⟩
     rw [hHX]
     clear hHX HX
     simp [t3, t4, t5, hal, hi, hii, h5', hat', -alen, joinT]
     rw [if_pos (by omega)]
     simp [t3, t4, t5, hal, hi, hii, h5', hat', -alen, joinT]
     exact ⟨k - 1, by omega, 1, by omega, hkv.symm, hj.symm, wr, t1, hM, hk⟩
   · rw [if_neg hi0] at hj
     have hi1 : (0 : Int) < i := by omega
     have hi2 : 0 < i := by omega
     rw [hj] at hjl
     simp only [List.length_append, List.length_cons] at hjl
     simp [t3, t4, t5, hal, hi, hii, h5, hat, hi0, hi1, hi2, -alen]
     rw [if_pos (by omega)]
     simp [t3, t4, t5, hal, hi, hii, h5, hat, hi0, hi1, hi2, -alen]
     refine zaa (hd _) ?_
     rintro _ HX ⟨rfl, hHX⟩
     rw [hHX]
     clear hHX HX
     simp [t3, t4, t5, hal, hi, hii, h5, hat, hi0, hi1, hi2, -alen]
     rw [if_pos (by omega)]
     simp [t3, t4, t5, hal, hi, hii, h5, hat, hi0, hi1, hi2, -alen]
     exact ⟨k - 1, by omega, i + 1, by omega, hkv.symm, by rw [hj], wr, t1, hM, hk⟩
 · obtain rfl : i = es.length := by omega
   have htk : ts.take es.length = ts := List.take_of_length_le (by rw [hx.len]; exact Nat.le_refl _)
   rw [htk] at t4
   simp [t3, t4, t5, t1, hM, hal, -alen]
   rw [if_pos (by omega)]
   simp [t3, t4, t5, t1, hM, hal, -alen]
   rw [if_pos (by omega)]
   simp [t3, t4, t5, t1, hM, hal, -alen]
   rw [if_pos (by omega)]
   simp [t3, t4, t5, t1, hM, hal, -alen]
   exact hk
mutual
theorem zb1 : ∀ {e : Ex} {w : List Wd} {t : Bs}, Tr e w t -> t.length <= 1000000000 -> TextD G e t
 | _, _, _, .int h, _ => t_int h
 | _, _, _, .tt, _ => t_tt
 | _, _, _, .ff, _ => t_ff
 | _, _, _, .var h, _ => t_var
 | _, _, _, .call0 (pos := pos) h, hl => by
   have := t_calls (G := G) (pos := pos) (Syn.nm_len h) (.nil) (by simp [joinT]) (by simp)
   exact this
 | _, _, _, .call (pos := pos) (e := e) (l := l) (t := t) h he hs, hl => by
   obtain ⟨ts, hx, rfl⟩ := trs_text hs (by simp only [List.length_append, List.length_cons] at hl; omega)
   have hle := hx.len
   have hsl := sepT_len ts
   simp only [List.length_append, List.length_cons, List.length_nil] at hl
   have := t_calls (G := G) (pos := pos) (Syn.nm_len h) (.cons (zb1 he (by omega)) (by omega) hx) (by simp only [joinT, List.length_append]; omega) (by simp only [List.length_cons]; omega)
   simpa only [joinT, List.append_assoc] using this
 | _, _, _, .un ho hk, hl => by
   simp only [List.length_append, List.length_cons, List.length_nil] at hl
   exact t_un ho (zb1 hk (by omega)) (by omega)
 | _, _, _, .whn h hk, hl => by
   simp only [List.length_append, List.length_cons, List.length_nil] at hl
   exact t_whn (Syn.nm_len h) (zb1 hk (by omega)) (by omega)
 | _, _, _, .whnot h hk, hl => by
   simp only [List.length_append, List.length_cons, List.length_nil] at hl
   exact t_whnot (Syn.nm_len h) (zb1 hk (by omega)) (by omega)
 | _, _, _, .ite ha hb hc, hl => by
   simp only [List.length_append, List.length_cons, List.length_nil] at hl
   exact t_ite (zb1 ha (by omega)) (zb1 hb (by omega)) (zb1 hc (by omega)) (by omega) (by omega) (by omega)
 | _, _, _, .merge h ha hb, hl => by
   simp only [List.length_append, List.length_cons, List.length_nil] at hl
   exact t_merge (Syn.nm_len h) (trp_text ha (by omega)) (trp_text hb (by omega)) (by omega) (by omega)
 | _, _, _, .bin ho ha hb, hl => by
   simp only [List.length_append, List.length_cons, List.length_nil] at hl
   exact t_bin ho (zb1 ha (by omega)) (zb1 hb (by omega)) (by omega) (by omega)
theorem trs_text : ∀ {l : List Ex} {w : List Wd} {t : Bs}, Trs l w t -> t.length <= 1000000000 -> ∃ ts, Tx G l ts /\ t = sepT ts
 | _, _, _, .nil, _ => ⟨[], .nil, rfl⟩
 | _, _, _, .cons he hs, hl => by
   simp only [List.length_append, List.length_cons] at hl
   obtain ⟨ts, hx, rfl⟩ := trs_text hs (by omega)
   exact ⟨_, .cons (zb1 he (by omega)) (by omega) hx, by simp [sepT]⟩
theorem trp_text : ∀ {e : Ex} {w : List Wd} {t : Bs}, Trp e w t -> t.length <= 1000000000 -> PartD G e t
 | _, _, _, .var h, _ => p_var (Syn.nm_len h)
 | _, _, _, .of hn h, hl => p_of hn (zb1 h hl)
end
end Go.Proofs.YtnejkhhnpbcmaaaGreatDoor
namespace Go.Proofs.YtnejkhhnpbcmaaaGreatDoor
open Go Go.Abs Go.Lex
variable {G : Nat -> Option AV}
theorem cut3 (a : Bs) : List.take (a.length + 2) (a ++ [58, 32, 105, 110, 116]) = a ++ [58, 32] := by
 rw [List.take_append, List.take_of_length_le (by omega), Nat.add_sub_cancel_left]
 rfl
theorem cut3' (P a : Bs) : List.take (P.length + a.length + 4) (P ++ 59 :: 32 :: (a ++ [58, 32, 105, 110, 116])) = P ++ 59 :: 32 :: (a ++ [58, 32]) := by
 have := cut3 (P ++ 59 :: 32 :: a)
 simp only [List.length_append, List.length_cons, List.append_assoc, List.cons_append] at this
 rw [show P.length + a.length + 4 = P.length + (a.length + 1 + 1) + 2 by omega]
 exact this
theorem zeB {l : List Syn.Va} (hw0 : ∀ v ∈ l, Syn.WfL v) (hlen : l.length <= 1000000) (H : AHeap) : Does Tryz.prog G 15 [vsV l] H fun r h => r = .str (Syn.vsT l) /\ h = H := by
 refine zaf Tryz.call15 Tryz.func15 rfl (by simp [Tryz.f15]) ?_
 have hal : alen Tryz.prog 44 (vsV l) = some (.int .i64 l.length) := by
  unfold vsV
  cases l with
  | nil => rfl
  | cons e l => rfl
 simp [hal, -alen]
 refine za6 (fun k T' H' => ∃ i : Nat, i + k = l.length /\ T' 0 = vsV l /\ T' 3 = .str (Syn.vsT (l.take i)) /\ T' 4 = .int .i64 i /\ H' = H) l.length ?_ ?_
 · exact ⟨0, by simp, by simp, by simp [Syn.vsT], by simp, rfl⟩
 rintro k T H1 ⟨i, hik, t0, t3, t4, rfl⟩
 by_cases hi : i < l.length
 · have hii : (i : Int) < l.length := by omega
   have hv : l[i]? = some l[i] := List.getElem?_eq_getElem hi
   have hm : l[i] ∈ l := List.getElem_mem hi
   generalize l[i] = v at *
   obtain ⟨c0, c1, c2, c3, c5⟩ := vas_at hv
   have hvv := hw0 v hm
   have hvl := Syn.vl_tlen hvv
   have hpl := Syn.vs_tlen (l := l.take i) fun x hx => hw0 x (List.mem_of_mem_take hx)
   have hpt : (l.take i).length <= 1000000 := by rw [List.length_take]; omega
   have hj := vsT_take hv
   have hP0 : i = 0 -> Syn.vsT (l.take i) = [] := by rintro rfl; simp [Syn.vsT]
   generalize Syn.vsT (l.take i) = P at *
   have hPl : P.length <= 70000000 := by omega
   clear hpl hpt
   have hkv : vsV l = .vsl (zad l) l.length := by unfold vsV; rw [if_neg (by cases l <;> simp_all)]
   rw [hkv] at t0 hal
   have wr : IntKind.i64.wrap ((i : Int) + 1) = ((i + 1 : Nat) : Int) := by rw [IntWalk.i64_in _ (by omega)]; omega
   have hk12 : v.kind = 1 \/ v.kind = 2 := by
    obtain ⟨w, h⟩ := hvv
    have key : ∀ {nm : Bs} {k pos : Nat} {w : List Wd}, Syn.Vd ⟨nm, k, [], false, pos⟩ w -> k = 1 \/ k = 2 := by
     intro nm k pos w h
     cases h with
     | bool h => exact .inl rfl
     | int h => exact .inr rfl
    cases h with
    | no h => cases h with
      | bool h => exact .inl rfl
      | int h => exact .inr rfl
    | on h ho => exact key h
    | off h ho => exact key h
   obtain ⟨nm, kd, on, ng, pos⟩ := v
   simp only at c0 c1 c2 c3 hk12 hvl
   have hnl : nm.length <= 64 := by simp only [Syn.vT, List.length_append, List.length_cons] at hvl; omega
   have hol : on.length <= 64 := by
    by_cases ho : on = []
    · subst ho; simp
    · simp only [Syn.vT, if_neg ho, List.length_append, List.length_cons] at hvl; omega
   clear hvl hvv hm hv
   have hal9 : ∀ s : Bs, alen Tryz.prog 9 (.str s) = some (.int .i64 s.length) := fun _ => rfl
   rcases hk12 with rfl | rfl
   · by_cases ho : on = []
     · subst ho
       by_cases hi0 : i = 0
       · subst hi0
         rw [if_pos rfl] at hj
         obtain rfl := hP0 rfl
         simp [t0, t3, t4, hal, hi, hii, c0, c1, c2, c3, hal9, -alen]
         rw [if_pos (by omega)]
         simp [t0, t3, t4, hal, hi, hii, c0, c1, c2, c3, hal9, -alen]
         rw [if_pos (by omega)]
         simp [t0, t3, t4, hal, hi, hii, c0, c1, c2, c3, hal9, -alen]
         rw [show IntKind.i64.wrap ((nm.length : Int) + 5 - 3) = ((nm.length + 2 : Nat) : Int) by rw [IntWalk.i64_in _ (by omega)]; omega, if_pos (by omega)]
         simp only [Int.toNat_natCast, Nat.sub_zero, List.drop_zero, cut3]
         simp [t0, t3, t4, hal, hi, hii, c0, c1, c2, c3, hal9, -alen]
         rw [if_pos (by omega)]
         simp [t0, t3, t4, hal, hi, hii, c0, c1, c2, c3, hal9, -alen]
         exact ⟨k - 1, by omega, 1, by omega, hkv.symm, by rw [hj]; simp [Syn.vT, Syn.sBool, Syn.sInt, Syn.sWhen, Syn.sNot], wr⟩
       · rw [if_neg hi0] at hj
         have hi1 : (0 : Int) < i := by omega
         have hi2 : 0 < i := by omega
         simp [t0, t3, t4, hal, hi, hii, c0, c1, c2, c3, hal9, hi0, hi1, hi2, -alen]
         rw [if_pos (by omega)]
         simp [t0, t3, t4, hal, hi, hii, c0, c1, c2, c3, hal9, hi0, hi1, hi2, -alen]
         rw [if_pos (by omega)]
         simp [t0, t3, t4, hal, hi, hii, c0, c1, c2, c3, hal9, hi0, hi1, hi2, -alen]
         rw [if_pos (by omega)]
         simp [t0, t3, t4, hal, hi, hii, c0, c1, c2, c3, hal9, hi0, hi1, hi2, -alen]
         rw [show IntKind.i64.wrap ((P.length : Int) + ((nm.length : Int) + 5 + 1 + 1) - 3) = ((P.length + nm.length + 4 : Nat) : Int) by rw [IntWalk.i64_in _ (by omega)]; omega, if_pos (by omega)]
         simp only [Int.toNat_natCast, Nat.sub_zero, List.drop_zero, cut3']
         simp [t0, t3, t4, hal, hi, hii, c0, c1, c2, c3, hal9, hi0, hi1, hi2, -alen]
         rw [if_pos (by omega)]
         simp [t0, t3, t4, hal, hi, hii, c0, c1, c2, c3, hal9, hi0, hi1, hi2, -alen]
         exact ⟨k - 1, by omega, i + 1, by omega, hkv.symm, by rw [hj]; simp [Syn.vT, Syn.sBool, Syn.sInt, Syn.sWhen, Syn.sNot, hi0, hi1, hi2], wr⟩
     · have ho2 : on.isEmpty = false := by cases on <;> simp_all
       cases ng
       · by_cases hi0 : i = 0
         · subst hi0
           rw [if_pos rfl] at hj
           obtain rfl := hP0 rfl
           simp [t0, t3, t4, hal, hi, hii, c0, c1, c2, c3, hal9, ho, ho2, -alen]
           rw [if_pos (by omega)]
           simp [t0, t3, t4, hal, hi, hii, c0, c1, c2, c3, hal9, ho, ho2, -alen]
           rw [if_pos (by omega)]
           simp [t0, t3, t4, hal, hi, hii, c0, c1, c2, c3, hal9, ho, ho2, -alen]
           rw [show IntKind.i64.wrap ((nm.length : Int) + 5 - 3) = ((nm.length + 2 : Nat) : Int) by rw [IntWalk.i64_in _ (by omega)]; omega, if_pos (by omega)]
           simp only [Int.toNat_natCast, Nat.sub_zero, List.drop_zero, cut3]
           simp [t0, t3, t4, hal, hi, hii, c0, c1, c2, c3, hal9, ho, ho2, -alen]
           rw [if_pos (by omega)]
           simp [t0, t3, t4, hal, hi, hii, c0, c1, c2, c3, hal9, ho, ho2, -alen]
           rw [if_pos (by omega)]
           simp [t0, t3, t4, hal, hi, hii, c0, c1, c2, c3, hal9, ho, ho2, -alen]
           rw [if_pos (by omega)]
           simp [t0, t3, t4, hal, hi, hii, c0, c1, c2, c3, hal9, ho, ho2, -alen]
           exact ⟨k - 1, by omega, 1, by omega, hkv.symm, by rw [hj]; simp [Syn.vT, Syn.sBool, Syn.sInt, Syn.sWhen, Syn.sNot, ho, ho2], wr⟩
         · rw [if_neg hi0] at hj
           have hi1 : (0 : Int) < i := by omega
           have hi2 : 0 < i := by omega
           simp [t0, t3, t4, hal, hi, hii, c0, c1, c2, c3, hal9, hi0, hi1, hi2, ho, ho2, -alen]
           rw [if_pos (by omega)]
           simp [t0, t3, t4, hal, hi, hii, c0, c1, c2, c3, hal9, hi0, hi1, hi2, ho, ho2, -alen]
           rw [if_pos (by omega)]
           simp [t0, t3, t4, hal, hi, hii, c0, c1, c2, c3, hal9, hi0, hi1, hi2, ho, ho2, -alen]
           rw [if_pos (by omega)]
           simp [t0, t3, t4, hal, hi, hii, c0, c1, c2, c3, hal9, hi0, hi1, hi2, ho, ho2, -alen]
           rw [show IntKind.i64.wrap ((P.length : Int) + ((nm.length : Int) + 5 + 1 + 1) - 3) = ((P.length + nm.length + 4 : Nat) : Int) by rw [IntWalk.i64_in _ (by omega)]; omega, if_pos (by omega)]
           simp only [Int.toNat_natCast, Nat.sub_zero, List.drop_zero, cut3']
           simp [t0, t3, t4, hal, hi, hii, c0, c1, c2, c3, hal9, hi0, hi1, hi2, ho, ho2, -alen]
           rw [if_pos (by omega)]
           simp [t0, t3, t4, hal, hi, hii, c0, c1, c2, c3, hal9, hi0, hi1, hi2, ho, ho2, -alen]
           rw [if_pos (by omega)]
           simp [t0, t3, t4, hal, hi, hii, c0, c1, c2, c3, hal9, hi0, hi1, hi2, ho, ho2, -alen]
           rw [if_pos (by omega)]
           simp [t0, t3, t4, hal, hi, hii, c0, c1, c2, c3, hal9, hi0, hi1, hi2, ho, ho2, -alen]
           exact ⟨k - 1, by omega, i + 1, by omega, hkv.symm, by rw [hj]; simp [Syn.vT, Syn.sBool, Syn.sInt, Syn.sWhen, Syn.sNot, hi0, hi1, hi2, ho, ho2], wr⟩
       · by_cases hi0 : i = 0
         · subst hi0
           rw [if_pos rfl] at hj
           obtain rfl := hP0 rfl
           simp [t0, t3, t4, hal, hi, hii, c0, c1, c2, c3, hal9, ho, ho2, -alen]
           rw [if_pos (by omega)]
           simp [t0, t3, t4, hal, hi, hii, c0, c1, c2, c3, hal9, ho, ho2, -alen]
           rw [if_pos (by omega)]
           simp [t0, t3, t4, hal, hi, hii, c0, c1, c2, c3, hal9, ho, ho2, -alen]
           rw [show IntKind.i64.wrap ((nm.length : Int) + 5 - 3) = ((nm.length + 2 : Nat) : Int) by rw [IntWalk.i64_in _ (by omega)]; omega, if_pos (by omega)]
           simp only [Int.toNat_natCast, Nat.sub_zero, List.drop_zero, cut3]
           simp [t0, t3, t4, hal, hi, hii, c0, c1, c2, c3, hal9, ho, ho2, -alen]
           rw [if_pos (by omega)]
           simp [t0, t3, t4, hal, hi, hii, c0, c1, c2, c3, hal9, ho, ho2, -alen]
           rw [if_pos (by omega)]
           simp [t0, t3, t4, hal, hi, hii, c0, c1, c2, c3, hal9, ho, ho2, -alen]
           rw [if_pos (by omega)]
           simp [t0, t3, t4, hal, hi, hii, c0, c1, c2, c3, hal9, ho, ho2, -alen]
           rw [if_pos (by omega)]
           simp [t0, t3, t4, hal, hi, hii, c0, c1, c2, c3, hal9, ho, ho2, -alen]
           exact ⟨k - 1, by omega, 1, by omega, hkv.symm, by rw [hj]; simp [Syn.vT, Syn.sBool, Syn.sInt, Syn.sWhen, Syn.sNot, ho, ho2], wr⟩
         · rw [if_neg hi0] at hj
           have hi1 : (0 : Int) < i := by omega
           have hi2 : 0 < i := by omega
           simp [t0, t3, t4, hal, hi, hii, c0, c1, c2, c3, hal9, hi0, hi1, hi2, ho, ho2, -alen]
           rw [if_pos (by omega)]
           simp [t0, t3, t4, hal, hi, hii, c0, c1, c2, c3, hal9, hi0, hi1, hi2, ho, ho2, -alen]
           rw [if_pos (by omega)]
           simp [t0, t3, t4, hal, hi, hii, c0, c1, c2, c3, hal9, hi0, hi1, hi2, ho, ho2, -alen]
           rw [if_pos (by omega)]
           simp [t0, t3, t4, hal, hi, hii, c0, c1, c2, c3, hal9, hi0, hi1, hi2, ho, ho2, -alen]
           rw [show IntKind.i64.wrap ((P.length : Int) + ((nm.length : Int) + 5 + 1 + 1) - 3) = ((P.length + nm.length + 4 : Nat) : Int) by rw [IntWalk.i64_in _ (by omega)]; omega, if_pos (by omega)]
           simp only [Int.toNat_natCast, Nat.sub_zero, List.drop_zero, cut3']
           simp [t0, t3, t4, hal, hi, hii, c0, c1, c2, c3, hal9, hi0, hi1, hi2, ho, ho2, -alen]
           rw [if_pos (by omega)]
           simp [t0, t3, t4, hal, hi, hii, c0, c1, c2, c3, hal9, hi0, hi1, hi2, ho, ho2, -alen]
           rw [if_pos (by omega)]
           simp [t0, t3, t4, hal, hi, hii, c0, c1, c2, c3, hal9, hi0, hi1, hi2, ho, ho2, -alen]
           rw [if_pos (by omega)]
           simp [t0, t3, t4, hal, hi, hii, c0, c1, c2, c3, hal9, hi0, hi1, hi2, ho, ho2, -alen]
           rw [if_pos (by omega)]
           simp [t0, t3, t4, hal, hi, hii, c0, c1, c2, c3, hal9, hi0, hi1, hi2, ho, ho2, -alen]
           exact ⟨k - 1, by omega, i + 1, by omega, hkv.symm, by rw [hj]; simp [Syn.vT, Syn.sBool, Syn.sInt, Syn.sWhen, Syn.sNot, hi0, hi1, hi2, ho, ho2], wr⟩
   · by_cases ho : on = []
     · subst ho
       by_cases hi0 : i = 0
       · subst hi0
         rw [if_pos rfl] at hj
         obtain rfl := hP0 rfl
         simp [t0, t3, t4, hal, hi, hii, c0, c1, c2, c3, hal9, -alen]
         rw [if_pos (by omega)]
         simp [t0, t3, t4, hal, hi, hii, c0, c1, c2, c3, hal9, -alen]
         rw [if_pos (by omega)]
         simp [t0, t3, t4, hal, hi, hii, c0, c1, c2, c3, hal9, -alen]
         exact ⟨k - 1, by omega, 1, by omega, hkv.symm, by rw [hj]; simp [Syn.vT, Syn.sBool, Syn.sInt, Syn.sWhen, Syn.sNot], wr⟩
       · rw [if_neg hi0] at hj
         have hi1 : (0 : Int) < i := by omega
         have hi2 : 0 < i := by omega
         simp [t0, t3, t4, hal, hi, hii, c0, c1, c2, c3, hal9, hi0, hi1, hi2, -alen]
         rw [if_pos (by omega)]
         simp [t0, t3, t4, hal, hi, hii, c0, c1, c2, c3, hal9, hi0, hi1, hi2, -alen]
         rw [if_pos (by omega)]
         simp [t0, t3, t4, hal, hi, hii, c0, c1, c2, c3, hal9, hi0, hi1, hi2, -alen]
         rw [if_pos (by omega)]
         simp [t0, t3, t4, hal, hi, hii, c0, c1, c2, c3, hal9, hi0, hi1, hi2, -alen]
         exact ⟨k - 1, by omega, i + 1, by omega, hkv.symm, by rw [hj]; simp [Syn.vT, Syn.sBool, Syn.sInt, Syn.sWhen, Syn.sNot, hi0, hi1, hi2], wr⟩
     · have ho2 : on.isEmpty = false := by cases on <;> simp_all
       cases ng
       · by_cases hi0 : i = 0
         · subst hi0
           rw [if_pos rfl] at hj
           obtain rfl := hP0 rfl
           simp [t0, t3, t4, hal, hi, hii, c0, c1, c2, c3, hal9, ho, ho2, -alen]
           rw [if_pos (by omega)]
           simp [t0, t3, t4, hal, hi, hii, c0, c1, c2, c3, hal9, ho, ho2, -alen]
           rw [if_pos (by omega)]
           simp [t0, t3, t4, hal, hi, hii, c0, c1, c2, c3, hal9, ho, ho2, -alen]
           rw [if_pos (by omega)]
           simp [t0, t3, t4, hal, hi, hii, c0, c1, c2, c3, hal9, ho, ho2, -alen]
           rw [if_pos (by omega)]
           simp [t0, t3, t4, hal, hi, hii, c0, c1, c2, c3, hal9, ho, ho2, -alen]
           exact ⟨k - 1, by omega, 1, by omega, hkv.symm, by rw [hj]; simp [Syn.vT, Syn.sBool, Syn.sInt, Syn.sWhen, Syn.sNot, ho, ho2], wr⟩
         · rw [if_neg hi0] at hj
           have hi1 : (0 : Int) < i := by omega
           have hi2 : 0 < i := by omega
           simp [t0, t3, t4, hal, hi, hii, c0, c1, c2, c3, hal9, hi0, hi1, hi2, ho, ho2, -alen]
           rw [if_pos (by omega)]
           simp [t0, t3, t4, hal, hi, hii, c0, c1, c2, c3, hal9, hi0, hi1, hi2, ho, ho2, -alen]
           rw [if_pos (by omega)]
           simp [t0, t3, t4, hal, hi, hii, c0, c1, c2, c3, hal9, hi0, hi1, hi2, ho, ho2, -alen]
           rw [if_pos (by omega)]
           simp [t0, t3, t4, hal, hi, hii, c0, c1, c2, c3, hal9, hi0, hi1, hi2, ho, ho2, -alen]
           rw [if_pos (by omega)]
           simp [t0, t3, t4, hal, hi, hii, c0, c1, c2, c3, hal9, hi0, hi1, hi2, ho, ho2, -alen]
           rw [if_pos (by omega)]
           simp [t0, t3, t4, hal, hi, hii, c0, c1, c2, c3, hal9, hi0, hi1, hi2, ho, ho2, -alen]
           exact ⟨k - 1, by omega, i + 1, by omega, hkv.symm, by rw [hj]; simp [Syn.vT, Syn.sBool, Syn.sInt, Syn.sWhen, Syn.sNot, hi0, hi1, hi2, ho, ho2], wr⟩
       · by_cases hi0 : i = 0
         · subst hi0
           rw [if_pos rfl] at hj
           obtain rfl := hP0 rfl
           simp [t0, t3, t4, hal, hi, hii, c0, c1, c2, c3, hal9, ho, ho2, -alen]
           rw [if_pos (by omega)]
           simp [t0, t3, t4, hal, hi, hii, c0, c1, c2, c3, hal9, ho, ho2, -alen]
           rw [if_pos (by omega)]
           simp [t0, t3, t4, hal, hi, hii, c0, c1, c2, c3, hal9, ho, ho2, -alen]
           rw [if_pos (by omega)]
           simp [t0, t3, t4, hal, hi, hii, c0, c1, c2, c3, hal9, ho, ho2, -alen]
           rw [if_pos (by omega)]
           simp [t0, t3, t4, hal, hi, hii, c0, c1, c2, c3, hal9, ho, ho2, -alen]
           rw [if_pos (by omega)]
           simp [t0, t3, t4, hal, hi, hii, c0, c1, c2, c3, hal9, ho, ho2, -alen]
           exact ⟨k - 1, by omega, 1, by omega, hkv.symm, by rw [hj]; simp [Syn.vT, Syn.sBool, Syn.sInt, Syn.sWhen, Syn.sNot, ho, ho2], wr⟩
         · rw [if_neg hi0] at hj
           have hi1 : (0 : Int) < i := by omega
           have hi2 : 0 < i := by omega
           simp [t0, t3, t4, hal, hi, hii, c0, c1, c2, c3, hal9, hi0, hi1, hi2, ho, ho2, -alen]
           rw [if_pos (by omega)]
           simp [t0, t3, t4, hal, hi, hii, c0, c1, c2, c3, hal9, hi0, hi1, hi2, ho, ho2, -alen]
           rw [if_pos (by omega)]
           simp [t0, t3, t4, hal, hi, hii, c0, c1, c2, c3, hal9, hi0, hi1, hi2, ho, ho2, -alen]
           rw [if_pos (by omega)]
           simp [t0, t3, t4, hal, hi, hii, c0, c1, c2, c3, hal9, hi0, hi1, hi2, ho, ho2, -alen]
           rw [if_pos (by omega)]
           simp [t0, t3, t4, hal, hi, hii, c0, c1, c2, c3, hal9, hi0, hi1, hi2, ho, ho2, -alen]
           rw [if_pos (by omega)]
           simp [t0, t3, t4, hal, hi, hii, c0, c1, c2, c3, hal9, hi0, hi1, hi2, ho, ho2, -alen]
           rw [if_pos (by omega)]
           simp [t0, t3, t4, hal, hi, hii, c0, c1, c2, c3, hal9, hi0, hi1, hi2, ho, ho2, -alen]
           exact ⟨k - 1, by omega, i + 1, by omega, hkv.symm, by rw [hj]; simp [Syn.vT, Syn.sBool, Syn.sInt, Syn.sWhen, Syn.sNot, hi0, hi1, hi2, ho, ho2], wr⟩
 · obtain rfl : i = l.length := by omega
   rw [List.take_length] at t3
   simp [t0, t3, t4, hal, -alen]
end Go.Proofs.YtnejkhhnpbcmaaaGreatDoor
namespace Go.Proofs.YtnejkhhnpbcmaaaGreatDoor
open Go Go.Abs Go.Lex
open Go.Syn (Ex)
variable {G : Nat -> Option AV}
theorem zgk {l : List Syn.Va} (hlen : l.length <= 1000000) (H : AHeap) : Does Tryz.prog G 35 [vsV l] H fun r H' => VsR H.next H' r l /\ ∀ j x, H.get j = some x -> H'.get j = some x := by
 refine Does.wf Tryz.call35 fun hw _ => ?_
 have old : ∀ j x, H.get j = some x -> j < H.next := fun j x hj => zac hw hj
 refine zaf Tryz.call35 Tryz.func35 rfl (by simp [Tryz.f35]) ?_
 have hal : alen Tryz.prog 38 (vsV l) = some (.int .i64 l.length) := by
  unfold vsV
  cases l with
  | nil => rfl
  | cons e l => rfl
 simp [hal, -alen]
 refine zai (fun k T' H' => ∃ i : Nat, i + k = l.length /\ T' 0 = vsV l /\ T' 4 = .int .i64 i /\ H.next <= H'.next /\ ((i = 0 /\ T' 3 = .nilsl) \/ 0 < i /\ ∃ b, T' 3 = .sl b 0 5 i i true /\ H.next <= b /\ b < H'.next /\ H'.get b = some (.cells (zad (l.take i)))) /\ ∀ j x, H.get j = some x -> H'.get j = some x) l.length ?_ ?_
 · exact ⟨0, by simp, by simp, by simp, Nat.le_refl _, .inl ⟨rfl, by simp⟩, fun j x hj => hj⟩
 rintro k T H1 ⟨i, hik, t0, t4, hnx, h3, hk⟩ hw1 _
 by_cases hi : i < l.length
 · have hii : (i : Int) < l.length := by omega
   have hv : l[i]? = some l[i] := List.getElem?_eq_getElem hi
   have htk : zad (l.take (i + 1)) = zad (l.take i) ++ zar l[i] := by
    rw [List.take_add_one, hv, zau]
    simp [zad]
   generalize l[i] = v at *
   obtain ⟨c0, c1, c2, c3, c5⟩ := vas_at hv
   have c4 := vas_at5 hv
   have hkv : vsV l = .vsl (zad l) l.length := by unfold vsV; rw [if_neg (by cases l <;> simp_all)]
   rw [hkv] at t0 hal
   have wr : IntKind.i64.wrap ((i : Int) + 1) = ((i + 1 : Nat) : Int) := by rw [IntWalk.i64_in _ (by omega)]; omega
   obtain ⟨nm, kd, on, ng, pos⟩ := v
   simp only at c0 c1 c2 c3 c4
   simp only [zar] at htk
   rcases h3 with ⟨rfl, t3⟩ | ⟨hi0, b, t3, hb, hbl, hg⟩
   · simp [t0, t3, t4, hal, hi, hii, -alen]
     refine zak [(5, 0), (10, 0), (15, 0), (20, 0), (25, 0)] mixedOrders (by kernel_rfl) ?_
     intro es hes
     simp [t0, t3, t4, hal, hi, hii, c0, c1, c2, c3, c4, rds, heapF, -alen]
     subst hes
     refine ⟨⟨by kernel_rfl, by kernel_rfl⟩, k - 1, by omega, 1, by omega, hkv.symm, wr, by omega, ⟨by omega, H1.next + 1, ⟨rfl, rfl⟩, by omega, by omega, ?_⟩, fun j x hj => ?_⟩
     · rw [htk]; simp [zad]
     · have := zac hw1 (hk j x hj)
       have e1 : j ≠ H1.next := by omega
       have e2 : j ≠ H1.next + 1 := by omega
       simp [e1, e2, hk j x hj]
   · simp [t0, t3, t4, hal, hi, hii, -alen]
     refine zak [(5, 0), (10, 0), (15, 0), (20, 0), (25, 0)] mixedOrders (by kernel_rfl) ?_
     intro es hes
     have n1 : b ≠ H1.next := by omega
     have hgrow : ¬ (i + 1 <= i) := by omega
     have g3 : (i + 1) * 56 <= 140737488355328 := by omega
     have g4 : i <= 4611686018427387903 := by omega
     have hl5 := zam (l.take i)
     have htl : (l.take i).length = i := by rw [List.length_take]; omega
     rw [htl] at hl5
     have k1 : List.take (i * 5) (zad (l.take i)) = zad (l.take i) := List.take_of_length_le (by omega)
     simp [t0, t3, t4, hal, hi, hii, c0, c1, c2, c3, c4, rds, heapF, hg, n1, hgrow, g3, g4, hl5, k1, -alen]
     subst hes
     refine ⟨⟨by kernel_rfl, by kernel_rfl⟩, k - 1, by omega, i + 1, by omega, hkv.symm, wr, by omega, ⟨by omega, H1.next + 1, ⟨rfl, rfl⟩, by omega, by omega, ?_⟩, fun j x hj => ?_⟩
     · rw [htk]; simp
     · have := zac hw1 (hk j x hj)
       have := old j x hj
       have e1 : j ≠ H1.next := by omega
       have e2 : j ≠ H1.next + 1 := by omega
       have e3 : j ≠ b := by omega
       simp [e1, e2, e3, hk j x hj]
 · obtain rfl : i = l.length := by omega
   simp [t0, t4, hal, -alen]
   refine ⟨?_, hk⟩
   rcases h3 with ⟨h0, t3⟩ | ⟨hi0, b, t3, hb, hbl, hg⟩
   · exact .inl ⟨List.eq_nil_of_length_eq_zero h0, t3⟩
   · rw [List.take_length] at hg
     exact .inr ⟨fun e => by rw [e] at hi0; simp at hi0, b, true, t3, hb, hg⟩
theorem zfU {l : List Syn.Va} (hlen : l.length <= 1000000) (H : AHeap) : Does Tryz.prog G 35 [vsV l] H fun r H' => r = vsV l /\ H' = H := by
 refine Does.deep (zgk hlen H) ?_
 rintro hw ha r H1 ⟨h1, h2⟩
 exact ⟨_, H, h1.res, rfl, fun i x hi => ⟨h2 i x hi, hw i x hi⟩, rfl, rfl⟩
def ConvD (G : Nat -> Option AV) (e : Ex) : Prop := ∀ H, Does Tryz.prog G 36 [.agg (zas e)] H fun r H' => r = .agg (zas e) /\ H' = H
theorem conv_live {op nm : Bs} {n pos : Nat} {ks : List Ex} (hK : ∀ k ∈ ks, ConvD G k) (hlen : ks.length <= 1000000000) (H : AHeap) : Does Tryz.prog G 36 [.agg (zas (.mk op nm n pos ks))] H fun r H' =>
  ∃ K, r = .agg [.str op, .str nm, .int .i64 n, .int .i64 pos, K] /\ ((ks = [] /\ K = .nilsl) \/ ks ≠ [] /\ ∃ b op, K = .sl b 0 5 ks.length ks.length op /\ H.next <= b /\ H'.get b = some (.cells (zae ks))) /\ ∀ j x, H.get j = some x -> H'.get j = some x := by
 refine Does.wf Tryz.call36 fun hw _ => ?_
 have old : ∀ j x, H.get j = some x -> j < H.next := fun j x hj => zac hw hj
 refine zaf Tryz.call36 Tryz.func36 rfl (by simp [Tryz.f36]) ?_
 have hal : alen Tryz.prog 59 (kidsV ks) = some (.int .i64 ks.length) := by
  unfold kidsV
  cases ks with
  | nil => rfl
  | cons e l => rfl
 rw [zab]
 simp [hal, -alen]
 refine zai (fun k T' H' => ∃ (i : Nat) (K : AV), i + k = ks.length /\ T' 4 = .int .i64 i /\ T' 1 = .ptr H.next 0 /\ T' 2 = .ptr (H.next + 1) 0 /\ T' 3 = .ptr (H.next + 1 + 1) 0 /\
  H'.get H.next = some (.cells [.str op, .str nm, .int .i64 n, .int .i64 pos, kidsV ks]) /\ H'.get (H.next + 1) = some (.cells [.str [], .str [], .int .i64 0, .int .i64 0, .nilsl]) /\ H'.get (H.next + 1 + 1) = some (.cells [.str op, .str nm, .int .i64 n, .int .i64 pos, K]) /\
  ((i = 0 /\ K = .nilsl) \/ 0 < i /\ ∃ b, K = .sl b 0 5 i i true /\ H.next + 1 + 1 + 1 <= b /\ b < H'.next /\ H'.get b = some (.cells (zae (ks.take i)))) /\ H.next + 1 + 1 + 1 <= H'.next /\ ∀ j x, H.get j = some x -> H'.get j = some x) ks.length ?_ ?_
 · refine ⟨0, .nilsl, by simp, by simp, by simp, by simp, by simp, ?_, ?_, ?_, .inl ⟨rfl, rfl⟩, by simp, fun j x hj => ?_⟩
   · have e2 : H.next ≠ H.next + 1 + 1 := by omega
     simp [e2]
   · simp
   · simp
   · have := old j x hj
     have e1 : j ≠ H.next := by omega
     have e2 : j ≠ H.next + 1 := by omega
     have e3 : j ≠ H.next + 1 + 1 := by omega
     simp [e1, e2, e3, hj]
 rintro k T H1 ⟨i, K, hik, t4, t1, t2, t3, g1, g2, g3, hK', hnx, hk⟩ hw1 _
 by_cases hi : i < ks.length
 · have hii : (i : Int) < ks.length := by omega
   have he : ks[i]? = some ks[i] := List.getElem?_eq_getElem hi
   have hd := hK ks[i] (List.getElem_mem hi)
   have htk : zae (ks.take (i + 1)) = zae (ks.take i) ++ zas ks[i] := by
    rw [List.take_add_one, he, zgJ]
    simp [zae]
   generalize ks[i] = e at *
   have hat := zb0 he
   have hlen5 := zap ks
   have h5 : 5 <= (zae ks).length - i * 5 := by omega
   have hkv : kidsV ks = .vsl (zae ks) ks.length := by unfold kidsV; rw [if_neg (by cases ks <;> simp_all)]
   rw [hkv] at g1 hal
   have wr : IntKind.i64.wrap ((i : Int) + 1) = ((i + 1 : Nat) : Int) := by rw [IntWalk.i64_in _ (by omega)]; omega
   obtain ⟨op', nm', n', p', ks'⟩ := e
   have hd' := fun H => hd H
   simp only [zab] at hd' hat htk
   have m1 : H.next ≠ H.next + 1 + 1 := by omega
   rcases hK' with ⟨rfl, rfl⟩ | ⟨hi0, b, rfl, hb, hbl, hg⟩
   · have h5' : 5 <= (zae ks).length := by omega
     have hat' : List.take 5 (zae ks) = [.str op', .str nm', .int .i64 n', .int .i64 p', kidsV ks'] := by simpa using hat
     have q1 : H.next + 1 + 1 ≠ H1.next := by omega
     have q2 : H.next + 1 + 1 ≠ H1.next + 1 := by omega
     have q3 : H.next ≠ H1.next := by omega
     have q4 : H.next ≠ H1.next + 1 := by omega
     have q5 : H.next + 1 ≠ H1.next := by omega
     simp [t1, t2, t3, t4, g1, g2, g3, hal, hi, hii, -alen]
     refine zak [(1, 0), (1, 8), (3, 0), (6, 0)] mixedOrders (by kernel_rfl) ?_
     intro es hes
     simp [t1, t2, t3, t4, g1, g2, g3, hal, hi, hii, h5', hat', -alen]
     refine ⟨_, _, hd' _, Nat.le_refl _, ?_⟩
     simp [rds, heapF, t1, t2, t3, t4, g1, g2, g3, hal, hi, hii, h5', hat', q1, q2, q3, q4, q5, m1, -alen]
     subst hes
     refine ⟨⟨by kernel_rfl, by kernel_rfl⟩, k - 1, by omega, 1, by omega, wr, hkv.symm, ⟨by omega, H1.next + 1, ⟨rfl, rfl⟩, by omega, by omega, ?_⟩, by omega, fun j x hj => ?_⟩
     · have r1 : H1.next ≠ H.next + 1 := by omega
       simp [r1, htk, zae]
     · have := zac hw1 (hk j x hj)
       have := old j x hj
       have e1 : j ≠ H1.next := by omega
       have e2 : j ≠ H1.next + 1 := by omega
       have e3 : j ≠ H.next + 1 + 1 := by omega
       simp [e1, e2, e3, hk j x hj]
   · have q1 : H.next + 1 + 1 ≠ H1.next := by omega
     have q2 : H.next + 1 + 1 ≠ H1.next + 1 := by omega
     have q3 : H.next ≠ H1.next := by omega
     have q4 : H.next ≠ H1.next + 1 := by omega
     have q5 : H.next + 1 ≠ H1.next := by omega
     have n1 : b ≠ H1.next := by omega
     have n2 : H.next + 1 + 1 ≠ b := by omega
     have m2 : H.next ≠ b := by omega
     have m3 : H.next + 1 ≠ b := by omega
     have hgrow : ¬ (i + 1 <= i) := by omega
     have g3' : (i + 1) * 72 <= 140737488355328 := by omega
     have g4' : i <= 4611686018427387903 := by omega
     have hl5 := zap (ks.take i)
     have htl : (ks.take i).length = i := by rw [List.length_take]; omega
     rw [htl] at hl5
     have k1 : List.take (i * 5) (zae (ks.take i)) = zae (ks.take i) := List.take_of_length_le (by omega)
     simp [t1, t2, t3, t4, g1, g2, g3, hal, hi, hii, -alen]
     refine zak [(1, 0), (1, 8), (3, 0), (6, 0)] mixedOrders (by kernel_rfl) ?_
     intro es hes
     simp [t1, t2, t3, t4, g1, g2, g3, hal, hi, hii, h5, hat, -alen]
     refine ⟨_, _, hd' _, Nat.le_refl _, ?_⟩
     simp [rds, heapF, t1, t2, t3, t4, g1, g2, g3, hal, hi, hii, h5, hat, q1, q2, q3, q4, q5, m1, m2, m3, hg, n1, n2, hgrow, g3', g4', hl5, k1, -alen]
     subst hes
     refine ⟨⟨by kernel_rfl, by kernel_rfl⟩, k - 1, by omega, i + 1, by omega, wr, hkv.symm, ⟨by omega, H1.next + 1, ⟨rfl, rfl⟩, by omega, by omega, ?_⟩, by omega, fun j x hj => ?_⟩
     · have r1 : H1.next ≠ H.next + 1 := by omega
       simp [r1, htk, zae]
     · have := zac hw1 (hk j x hj)
       have := old j x hj
       have e1 : j ≠ H1.next := by omega
       have e2 : j ≠ H1.next + 1 := by omega
       have e3 : j ≠ H.next + 1 + 1 := by omega
       have e4 : j ≠ b := by omega
       simp [e1, e2, e3, e4, hk j x hj]
 · obtain rfl : i = ks.length := by omega
   have hKs : K.scalar = true := by rcases hK' with ⟨_, rfl⟩ | ⟨_, b, rfl, _⟩ <;> rfl
   have m1 : H.next ≠ H.next + 1 + 1 := by omega
   simp [t1, t2, t3, t4, g1, g2, g3, hal, hKs, m1, -alen]
   refine ⟨?_, fun j x hj => ?_⟩
   · rcases hK' with ⟨h0, rfl⟩ | ⟨hi0, b, rfl, hb, hbl, hg⟩
     · exact .inl ⟨List.eq_nil_of_length_eq_zero h0, rfl⟩
     · rw [List.take_length] at hg
       refine .inr ⟨fun e => by rw [e] at hi0; simp at hi0, b, .inr rfl, by omega, ?_⟩
       have e1 : b ≠ H.next + 1 := by omega
       simp [e1, hg]
   · have := old j x hj
     have e1 : j ≠ H.next + 1 := by omega
     simp [e1, hk j x hj]
theorem conv_of {op nm : Bs} {n pos : Nat} {ks : List Ex} (hK : ∀ k ∈ ks, ConvD G k) (hlen : ks.length <= 1000000000) : ConvD G (.mk op nm n pos ks) := fun H => by
 refine Does.deep (conv_live hK hlen H) ?_
 rintro hw ha r H1 ⟨K, rfl, h1, h2⟩
 have hres : ResV H1.get H.next K (kidsV ks) := by
  rcases h1 with ⟨rfl, rfl⟩ | ⟨hne, b, op, rfl, hb, hg⟩
  · exact .old rfl
  · have : kidsV ks = .vsl (zae ks) ks.length := by unfold kidsV; rw [if_neg (by simpa using hne)]
    rw [this]
    refine .sl hb hg ?_
    rw [List.drop_zero, List.take_of_length_le (by rw [zap]; omega)]
    exact ResL.old (zb7 _ _)
 rw [zab]
 exact ⟨_, H, .agg (.cons (.old rfl) (.cons (.old rfl) (.cons (.old rfl) (.cons (.old rfl) (.cons hres .nil))))), rfl, fun i x hi => ⟨h2 i x hi, hw i x hi⟩, rfl, rfl⟩
mutual
theorem conv_ex : ∀ e : Ex, e.wt <= 1000000000 -> ConvD G e
 | .mk op nm n pos ks, h => by
   have h : 1 + Ex.wts ks <= 1000000000 := by simpa [Syn.Ex.wt] using h
   have hlen : ks.length <= Ex.wts ks := wts_len ks
   exact conv_of (conv_all ks (by omega)) (by omega)
theorem conv_all : ∀ ks : List Ex, Ex.wts ks <= 1000000000 -> ∀ k ∈ ks, ConvD G k
 | [], _, k, hk => by simp at hk
 | e :: l, h, k, hk => by
   have h : e.wt + Ex.wts l <= 1000000000 := by simpa [Syn.Ex.wts] using h
   have h1 := conv_ex e (by omega)
   have h2 := conv_all l (by omega)
   rcases List.mem_cons.1 hk with rfl | hk
   · exact h1
   · exact h2 k hk
end
end Go.Proofs.YtnejkhhnpbcmaaaGreatDoor
namespace Go.Proofs.YtnejkhhnpbcmaaaGreatDoor
open Go Go.Abs Go.Lex
open Go.Syn (Ex Nd Eqn)
variable {G : Nat -> Option AV}
theorem zgl {n : Nd} (h1 : n.ins.length <= 1000000) (h2 : n.outs.length <= 1000000) (h3 : n.locals.length <= 1000000) (h4 : n.eqs.length <= 1000000) (hE : ∀ q ∈ n.eqs, ConvD G q.e) (H : AHeap) : Does Tryz.prog G 17 [.agg (zah n)] H fun r H' =>
  ∃ K, r = .agg [.str n.name, vsV n.ins, vsV n.outs, vsV n.locals, K, .int .i64 n.pos] /\ ((n.eqs = [] /\ K = .nilsl) \/ n.eqs ≠ [] /\ ∃ b op, K = .sl b 0 7 n.eqs.length n.eqs.length op /\ H.next <= b /\ H'.get b = some (.cells (zag n.eqs))) /\ ∀ j x, H.get j = some x -> H'.get j = some x := by
 refine Does.wf Tryz.call17 fun hw _ => ?_
 have old : ∀ j x, H.get j = some x -> j < H.next := fun j x hj => zac hw hj
 refine zaf Tryz.call17 Tryz.func17 rfl (by simp [Tryz.f17]) ?_
 have hal : alen Tryz.prog 39 (eqsV n.eqs) = some (.int .i64 n.eqs.length) := by
  unfold eqsV
  cases n.eqs with
  | nil => rfl
  | cons e l => rfl
 obtain ⟨nm, ins, outs, locs, eqs, pos⟩ := n
 simp only at hal h1 h2 h3 h4 hE
 have hes := zbl eqs
 simp [zah, hal, hes, -alen]
 refine zak [(1, 0), (1, 5), (1, 8), (1, 11), (3, 0), (6, 0), (6, 5), (9, 0), (9, 5), (9, 8), (12, 0), (12, 5), (12, 8), (12, 11)] mixedOrders (by kernel_rfl) ?_
 intro es hes2
 have e2 : H.next ≠ H.next + 1 + 1 := by omega
 simp [zah, hal, hes, -alen]
 refine ⟨_, _, zfU h1 _, Nat.le_refl _, ?_⟩
 simp [zah, hal, hes, -alen]
 refine ⟨_, _, zfU h2 _, Nat.le_refl _, ?_⟩
 simp [zah, hal, hes, -alen]
 refine ⟨_, _, zfU h3 _, Nat.le_refl _, ?_⟩
 simp [rds, heapF, zah, hal, hes, e2, -alen]
 refine ⟨by subst hes2; exact ⟨by kernel_rfl, by kernel_rfl⟩, ?_⟩
 clear hes2 es
 refine zai (fun k T' H' => ∃ (i : Nat) (K : AV), i + k = eqs.length /\ T' 4 = .int .i64 i /\ T' 1 = .ptr H.next 0 /\ T' 2 = .ptr (H.next + 1) 0 /\ T' 3 = .ptr (H.next + 1 + 1) 0 /\
  H'.get H.next = some (.cells [.str nm, vsV ins, vsV outs, vsV locs, eqsV eqs, .int .i64 pos]) /\ H'.get (H.next + 1) = some (.cells [.str [], .nilsl, .nilsl, .nilsl, .nilsl, .int .i64 0]) /\ H'.get (H.next + 1 + 1) = some (.cells [.str nm, vsV ins, vsV outs, vsV locs, K, .int .i64 pos]) /\
  ((i = 0 /\ K = .nilsl) \/ 0 < i /\ ∃ b, K = .sl b 0 7 i i true /\ H.next + 1 + 1 + 1 <= b /\ b < H'.next /\ H'.get b = some (.cells (zag (eqs.take i)))) /\ H.next + 1 + 1 + 1 <= H'.next /\ ∀ j x, H.get j = some x -> H'.get j = some x) eqs.length ?_ ?_
 · refine ⟨0, .nilsl, by simp, by simp, by simp, by simp, by simp, ?_, ?_, ?_, .inl ⟨rfl, rfl⟩, by simp, fun j x hj => ?_⟩
   · simp [e2]
   · simp
   · simp
   · have := old j x hj
     have e1 : j ≠ H.next := by omega
     have e2 : j ≠ H.next + 1 := by omega
     have e3 : j ≠ H.next + 1 + 1 := by omega
     simp [e1, e2, e3, hj]
 rintro k T H1 ⟨i, K, hik, t4, t1, t2, t3, g1, g2, g3, hK', hnx, hk⟩ hw1 _
 by_cases hi : i < eqs.length
 · have hii : (i : Int) < eqs.length := by omega
   have he : eqs[i]? = some eqs[i] := List.getElem?_eq_getElem hi
   have hd := hE eqs[i] (List.getElem_mem hi)
   have htk : zag (eqs.take (i + 1)) = zag (eqs.take i) ++ zao eqs[i] := by
    rw [List.take_add_one, he, za4]
    simp [zag]
   generalize eqs[i] = q at *
   obtain ⟨c0, hat, c6, c7⟩ := zgL he
   have hlen5 := zaq eqs
   have h5 : 5 <= (zag eqs).length - (i * 7 + 1) := by omega
   have hkv : eqsV eqs = .vsl (zag eqs) eqs.length := by unfold eqsV; rw [if_neg (by cases eqs <;> simp_all)]
   rw [hkv] at g1 hal
   have wr : IntKind.i64.wrap ((i : Int) + 1) = ((i + 1 : Nat) : Int) := by rw [IntWalk.i64_in _ (by omega)]; omega
   obtain ⟨qn, ⟨op', nm', n', p', ks'⟩, qp⟩ := q
   have hd' := fun H => hd H
   simp only [zab, zao] at hd' hat htk c0 c6
   have m1 : H.next ≠ H.next + 1 + 1 := by omega
   have q1 : H.next + 1 + 1 ≠ H1.next := by omega
   have q2 : H.next + 1 + 1 ≠ H1.next + 1 := by omega
   have q3 : H.next ≠ H1.next := by omega
   have q4 : H.next ≠ H1.next + 1 := by omega
   have q5 : H.next + 1 ≠ H1.next := by omega
   rcases hK' with ⟨rfl, rfl⟩ | ⟨hi0, b, rfl, hb, hbl, hg⟩
   · have h5' : 5 <= (zag eqs).length - 1 := by omega
     simp only [Nat.zero_mul, Nat.zero_add] at c0 hat c6
     rw [List.drop_one] at hat
     simp [t1, t2, t3, t4, g1, g2, g3, hal, hi, hii, -alen]
     refine zak [(1, 0), (1, 15), (3, 0), (3, 15), (7, 0), (7, 15), (9, 0), (13, 0), (16, 0), (16, 15), (20, 0), (20, 15)] mixedOrders (by kernel_rfl) ?_
     intro es hes
     simp [t1, t2, t3, t4, g1, g2, g3, hal, hi, hii, c0, c6, h5', hat, -alen]
     refine ⟨_, _, hd' _, Nat.le_refl _, ?_⟩
     simp [rds, heapF, t1, t2, t3, t4, g1, g2, g3, hal, hi, hii, c0, c6, h5', hat, q1, q2, q3, q4, q5, m1, -alen]
     subst hes
     refine ⟨⟨by kernel_rfl, by kernel_rfl⟩, k - 1, by omega, 1, by omega, wr, hkv.symm, ⟨by omega, H1.next + 1, ⟨rfl, rfl⟩, by omega, by omega, ?_⟩, by omega, fun j x hj => ?_⟩
     · have r1 : H1.next ≠ H.next + 1 := by omega
       simp [r1, htk, zag]
     · have := zac hw1 (hk j x hj)
       have := old j x hj
       have e1 : j ≠ H1.next := by omega
       have e2 : j ≠ H1.next + 1 := by omega
       have e3 : j ≠ H.next + 1 + 1 := by omega
       simp [e1, e2, e3, hk j x hj]
   · have n1 : b ≠ H1.next := by omega
     have n2 : H.next + 1 + 1 ≠ b := by omega
     have m2 : H.next ≠ b := by omega
     have m3 : H.next + 1 ≠ b := by omega
     have hgrow : ¬ (i + 1 <= i) := by omega
     have g3' : (i + 1) * 96 <= 140737488355328 := by omega
     have g4' : i <= 4611686018427387903 := by omega
     have hl5 := zaq (eqs.take i)
     have htl : (eqs.take i).length = i := by rw [List.length_take]; omega
     rw [htl] at hl5
     have k1 : List.take (i * 7) (zag (eqs.take i)) = zag (eqs.take i) := List.take_of_length_le (by omega)
     simp [t1, t2, t3, t4, g1, g2, g3, hal, hi, hii, -alen]
     refine zak [(1, 0), (1, 15), (3, 0), (3, 15), (7, 0), (7, 15), (9, 0), (13, 0), (16, 0), (16, 15), (20, 0), (20, 15)] mixedOrders (by kernel_rfl) ?_
     intro es hes
     simp [t1, t2, t3, t4, g1, g2, g3, hal, hi, hii, c0, c6, h5, hat, -alen]
     refine ⟨_, _, hd' _, Nat.le_refl _, ?_⟩
     simp [rds, heapF, t1, t2, t3, t4, g1, g2, g3, hal, hi, hii, c0, c6, h5, hat, q1, q2, q3, q4, q5, m1, m2, m3, hg, n1, n2, hgrow, g3', g4', hl5, k1, -alen]
     subst hes
     refine ⟨⟨by kernel_rfl, by kernel_rfl⟩, k - 1, by omega, i + 1, by omega, wr, hkv.symm, ⟨by omega, H1.next + 1, ⟨rfl, rfl⟩, by omega, by omega, ?_⟩, by omega, fun j x hj => ?_⟩
     · have r1 : H1.next ≠ H.next + 1 := by omega
       simp [r1, htk, zag]
     · have := zac hw1 (hk j x hj)
       have := old j x hj
       have e1 : j ≠ H1.next := by omega
       have e2 : j ≠ H1.next + 1 := by omega
       have e3 : j ≠ H.next + 1 + 1 := by omega
       have e4 : j ≠ b := by omega
       simp [e1, e2, e3, e4, hk j x hj]
 · obtain rfl : i = eqs.length := by omega
   have hKs : K.scalar = true := by rcases hK' with ⟨_, rfl⟩ | ⟨_, b, rfl, _⟩ <;> rfl
   have m1 : H.next ≠ H.next + 1 + 1 := by omega
   simp [t1, t2, t3, t4, g1, g2, g3, hal, hKs, m1, -alen]
   refine ⟨?_, fun j x hj => ?_⟩
   · rcases hK' with ⟨h0, rfl⟩ | ⟨hi0, b, rfl, hb, hbl, hg⟩
     · exact .inl ⟨List.eq_nil_of_length_eq_zero h0, rfl⟩
     · rw [List.take_length] at hg
       refine .inr ⟨fun e => by rw [e] at hi0; simp at hi0, b, .inr rfl, by omega, ?_⟩
       have e1 : b ≠ H.next + 1 := by omega
       simp [e1, hg]
   · have := old j x hj
     have e1 : j ≠ H.next + 1 := by omega
     simp [e1, hk j x hj]
theorem conv_node {n : Nd} (h1 : n.ins.length <= 1000000) (h2 : n.outs.length <= 1000000) (h3 : n.locals.length <= 1000000) (h4 : n.eqs.length <= 1000000) (hE : ∀ q ∈ n.eqs, ConvD G q.e) (H : AHeap) : Does Tryz.prog G 17 [.agg (zah n)] H fun r H' => r = .agg (zah n) /\ H' = H := by
 refine Does.deep (zgl h1 h2 h3 h4 hE H) ?_
 rintro hw ha r H1 ⟨K, rfl, h1, h2⟩
 have hres : ResV H1.get H.next K (eqsV n.eqs) := by
  rcases h1 with ⟨h0, rfl⟩ | ⟨hne, b, op, rfl, hb, hg⟩
  · rw [h0]; exact .old rfl
  · have : eqsV n.eqs = .vsl (zag n.eqs) n.eqs.length := by unfold eqsV; rw [if_neg (by simpa using hne)]
    rw [this]
    refine .sl hb hg ?_
    rw [List.drop_zero, List.take_of_length_le (by rw [zaq]; omega)]
    exact ResL.old (zcR _ _)
 exact ⟨_, H, .agg (.cons (.old rfl) (.cons (.old (zeM _ _)) (.cons (.old (zeM _ _)) (.cons (.old (zeM _ _)) (.cons hres (.cons (.old rfl) .nil)))))), rfl, fun i x hi => ⟨h2 i x hi, hw i x hi⟩, rfl, rfl⟩
theorem zf8 : ∀ {l : List Nd} {i : Nat} {x : Nd}, l[i]? = some x -> ((zal l).drop (i * 6)).take 6 = zah x
 | [], i, x, h => by simp at h
 | a :: l, 0, x, h => by simp at h; subst h; simp [zal, zah]
 | a :: l, i + 1, x, h => by
   have := zf8 (l := l) (i := i) (x := x) (by simpa using h)
   rw [zal, show (i + 1) * 6 = 6 + i * 6 by omega, <- List.drop_drop, List.drop_left' (by rfl)]
   exact this
theorem zcL : ∀ l : List Nd, (zal l).length = l.length * 6
 | [] => rfl
 | a :: l => by
   have h : (zah a).length = 6 := rfl
   rw [zal, List.length_append, zcL l, List.length_cons, h]; omega
theorem zhl {l : List Nd} {i : Nat} (h : i < l.length) : ndsV l = .vsl (zal l) l.length := by
 unfold ndsV
 rw [if_neg (by cases l <;> simp_all)]
theorem zh0 {l : List Eqn} {i : Nat} (h : i < l.length) : eqsV l = .vsl (zag l) l.length := by
 unfold eqsV
 rw [if_neg (by cases l <;> simp_all)]
theorem zia {l : List Nd} (hwf : ∀ d ∈ l, Syn.WfN d) (hwt : Syn.ndsWt l <= 40000) (H : AHeap) :
  Does Tryz.prog G 7 [ndsV l] H fun r h => r = .str (Syn.showT l) /\ h = H := by
 refine zbu ?_
 refine Does.wf Tryz.call7 fun hw _ => ?_
 refine zaf Tryz.call7 Tryz.func7 rfl (by simp [Tryz.f7]) ?_
 have hal : alen Tryz.prog 30 (ndsV l) = some (.int .i64 l.length) := by
  unfold ndsV
  cases l <;> rfl
 have hll := zc3 l
 have hsl := Syn.showT_len hwf
 simp
 refine zai (fun k T' H' => ∃ i : Nat, i + k = l.length /\ T' 0 = ndsV l /\ T' 3 = .str (Syn.showT (l.take i)) /\ T' 4 = .int .i64 i /\ ∀ j x, H.get j = some x -> H'.get j = some x) l.length ⟨0, by simp, by simp, by simp [Syn.showT], by simp, fun j x hj => hj⟩ ?_
 rintro k T H1 ⟨i, hik, t0, t3, t4, hkp⟩ hw1 _
 by_cases hi : i < l.length
 · have hii : (i : Int) < l.length := by omega
   obtain ⟨n, hn⟩ : ∃ n, l[i]? = some n := ⟨_, List.getElem?_eq_getElem hi⟩
   have hnm := List.mem_of_getElem? hn
   have hd := hwf n hnm
   have hat := zf8 hn
   have hlen6 := zcL l
   have h6 : 6 <= (zal l).length - i * 6 := by omega
   have hnv := zhl hi
   have hal1 : alen Tryz.prog 30 (.vsl (zal l) l.length) = some (.int .i64 l.length) := rfl
   have wr : IntKind.i64.wrap ((i : Int) + 1) = ((i + 1 : Nat) : Int) := by rw [IntWalk.i64_in _ (by omega)]; omega
   have htk := Syn.showT_take hn
   have hle := Syn.showT_le (i + 1) l
   rw [htk, List.length_append] at hle
   have w1 := zc2 hnm
   have w2 : n.wt = 1 + (n.ins.length + n.outs.length + n.locals.length + Syn.eqsWt n.eqs) := rfl
   have w3 := zc6 n.eqs
   have hnl : (Syn.ndT n).length = (Syn.headT n).length + ((Syn.eqsT n.eqs).length + 5) := by simp [Syn.ndT, Syn.sTel]
   obtain ⟨acc, hacc⟩ : ∃ acc, acc = Syn.showT (l.take i) := ⟨_, rfl⟩
   have hwi : ∀ v ∈ n.ins, Syn.WfL v := fun v hv => Syn.wfV_L (hd.ins v hv)
   have hwo : ∀ v ∈ n.outs, Syn.WfL v := fun v hv => Syn.wfV_L (hd.outs v hv)
   have hwl := hd.locals
   have hwq := hd.eqs
   have l0 := Syn.nm_len hd.name
   have l1 := Syn.vs_tlen hwi
   have l2 := Syn.vs_tlen hwo
   have l3 := Syn.vs_tlen hwl
   rw [<- hacc] at hle t3 htk
   obtain ⟨nm, ins, outs, locs, eqs, pos⟩ := n
   simp only at hnl hwi hwo hwl hwq l0 l1 l2 l3 w1 w2 w3
   have hal2 : alen Tryz.prog 44 (vsV locs) = some (.int .i64 locs.length) := by
    unfold vsV
    cases locs <;> rfl
   simp only [zah] at hat
   simp [t0, t3, t4, hal1, hii, hi, hnv, hat, h6, zbl, -alen]
   refine zak [(3, 0), (3, 9), (3, 14), (7, 0), (12, 0), (12, 9)] mixedOrders (by kernel_rfl) ?_
   intro es hes
   simp [t0, t3, t4]
   iterate 3 (rw [if_pos (by omega)]; simp [t0, t3, t4])
   refine ⟨_, _, zeB hwi (by omega) _, Nat.le_refl _, ?_⟩
   simp [t0, t3, t4]
   iterate 2 (rw [if_pos (by omega)]; simp [t0, t3, t4])
   refine ⟨_, _, zeB hwo (by omega) _, Nat.le_refl _, ?_⟩
   simp [rds, heapF, t0, t3, t4]
   iterate 2 (rw [if_pos (by omega)]; simp [rds, heapF, t0, t3, t4, hal2, -alen])
   refine ⟨by subst hes; exact ⟨by kernel_rfl, by kernel_rfl⟩, ?_⟩
   clear hes es
   have hal3 : alen Tryz.prog 45 (eqsV eqs) = some (.int .i64 eqs.length) := by
    unfold eqsV
    cases eqs <;> rfl
   by_cases hz : locs = []
   · subst hz
     simp only [List.length_nil] at hal2
     have hhl : (Syn.headT ⟨nm, ins, outs, [], eqs, pos⟩).length = nm.length + (Syn.vsT ins).length + (Syn.vsT outs).length + 24 := by simp [Syn.headT, Syn.sNode, Syn.sReturns, Syn.sLet]; omega
     simp [t0, t3, t4, hal2, -alen]
     iterate 1 (rw [if_pos (by omega)]; simp [t0, t3, t4, hal2, -alen])
     refine zai (fun k2 T' H' => ∃ i2 : Nat, i2 + k2 = eqs.length /\ T' 0 = ndsV l /\ T' 3 = .str (acc ++ (Syn.headT ⟨nm, ins, outs, [], eqs, pos⟩ ++ Syn.eqsT (eqs.take i2))) /\ T' 4 = .int .i64 i /\ T' 5 = .ptr H1.next 0 /\ T' 6 = .int .i64 i2 /\ H'.get H1.next = some (.cells [.str nm, vsV ins, vsV outs, vsV [], eqsV eqs, .int .i64 pos]) /\ ∀ j x, H.get j = some x -> H'.get j = some x) eqs.length ?_ ?_
     · refine ⟨0, by simp, by simp [t0], by simp [Syn.headT, Syn.sNode, Syn.sReturns, Syn.sLet, Syn.vsT, Syn.eqsT], by simp [t4], by simp, by simp, by simp, fun j x hj => ?_⟩
       have q1 := zac hw1 (hkp j x hj)
       simp [show j ≠ H1.next by omega, hkp j x hj]
     rintro k2 T2 H2 ⟨i2, hik2, u0, u3, u4, u5, u6, g, hk2⟩ hw2 _
     have hle2 := Syn.eqsT_le i2 eqs
     by_cases hi2 : i2 < eqs.length
     · have hii2 : (i2 : Int) < eqs.length := by omega
       obtain ⟨q, hq⟩ : ∃ q, eqs[i2]? = some q := ⟨_, List.getElem?_eq_getElem hi2⟩
       have hqm := List.mem_of_getElem? hq
       obtain ⟨hqn, w, tt, htr⟩ := hwq q hqm
       have l5 := Syn.nm_len hqn
       have htx := Syn.tr_tx htr
       have hqk := Syn.eqsT_take hq
       have hle3 := Syn.eqsT_le (i2 + 1) eqs
       rw [hqk, List.length_append] at hle3
       have hql : (Syn.eqT q).length = q.name.length + (Syn.tx q.e).length + 7 := by simp [Syn.eqT]; omega
       have htd := fun H => zb1 (G := G) htr (by rw [htx]; omega) H
       obtain ⟨c0, hat2, c6, c7⟩ := zgL hq
       have hqv := zh0 hi2
       have wr2 : IntKind.i64.wrap ((i2 : Int) + 1) = ((i2 + 1 : Nat) : Int) := by rw [IntWalk.i64_in _ (by omega)]; omega
       have hlen7 := zaq eqs
       have h5 : 5 <= (zag eqs).length - (i2 * 7 + 1) := by omega
       obtain ⟨hd1, hhd⟩ : ∃ hd1, hd1 = Syn.headT ⟨nm, ins, outs, [], eqs, pos⟩ := ⟨_, rfl⟩
       rw [<- hhd] at u3 hnl ⊢
       obtain ⟨pre, hpre⟩ : ∃ pre, pre = acc ++ (hd1 ++ Syn.eqsT (eqs.take i2)) := ⟨_, rfl⟩
       have hprel : pre.length = acc.length + (hd1.length + (Syn.eqsT (eqs.take i2)).length) := by rw [hpre]; simp
       have hnew : acc ++ (hd1 ++ (Syn.eqsT (eqs.take i2) ++ Syn.eqT q)) = pre ++ Syn.eqT q := by rw [hpre]; simp
       rw [<- hpre] at u3
       subst htx
       obtain ⟨qn, ⟨op', nm', n', p', ks'⟩, qp⟩ := q
       simp only [zab] at htd hat2 c0
       obtain ⟨tq, htq⟩ : ∃ tq, tq = Syn.tx (.mk op' nm' n' p' ks') := ⟨_, rfl⟩
       have heq : Syn.eqT ⟨qn, .mk op' nm' n' p' ks', qp⟩ = 32 :: 32 :: (qn ++ (32 :: 61 :: 32 :: (tq ++ [59, 10]))) := by rw [htq]; rfl
       simp only at hql l5
       rw [<- htq] at htd hql
       rw [hqv] at g
       have hal4 : alen Tryz.prog 45 (.vsl (zag eqs) eqs.length) = some (.int .i64 eqs.length) := rfl
       simp [u0, u3, u4, u5, u6, g, hqv, hal4, hii2, hi2, -alen]
       refine zak [(3, 0), (3, 17), (7, 0), (7, 17), (11, 0), (15, 0)] mixedOrders (by kernel_rfl) ?_
       intro es hes
       simp [u0, u3, u4, u5, u6, g, hi2, hii2, c0, hat2, h5, -alen]
       iterate 3 (rw [if_pos (by omega)]; simp [u0, u3, u4, u5, u6, g, hi2, hii2, c0, hat2, h5, -alen])
       refine ⟨_, _, htd _, Nat.le_refl _, ?_⟩
       simp [rds, heapF, u0, u3, u4, u5, u6, g, hi2, hii2, c0, hat2, h5, -alen]
       iterate 2 (rw [if_pos (by omega)]; simp [rds, heapF, u0, u3, u4, u5, u6, g, hi2, hii2, c0, hat2, h5, -alen])
       refine ⟨by subst hes; exact ⟨by kernel_rfl, by kernel_rfl⟩, k2 - 1, by omega, i2 + 1, by omega, ?_, wr2, hqv.symm, hk2⟩
       rw [hqk, hnew, heq]
     · obtain rfl : i2 = eqs.length := by omega
       rw [List.take_length] at u3 hle2
       have hfin : Syn.ndT ⟨nm, ins, outs, [], eqs, pos⟩ = Syn.headT ⟨nm, ins, outs, [], eqs, pos⟩ ++ (Syn.eqsT eqs ++ (Syn.sTel ++ [59, 10])) := rfl
       obtain ⟨hd1, hhd⟩ : ∃ hd1, hd1 = Syn.headT ⟨nm, ins, outs, [], eqs, pos⟩ := ⟨_, rfl⟩
       rw [<- hhd] at u3 hnl hfin
       simp [u0, u3, u4, u5, u6, g, hal3, -alen]
       iterate 1 (rw [if_pos (by omega)]; simp [u0, u3, u4, u5, u6])
       refine ⟨k - 1, by omega, i + 1, by omega, ?_, wr, hk2⟩
       rw [htk, hfin]
       simp [Syn.sTel]
   · have hp : 0 < locs.length := by cases locs <;> simp_all
     have hhl : (Syn.headT ⟨nm, ins, outs, locs, eqs, pos⟩).length = nm.length + (Syn.vsT ins).length + (Syn.vsT outs).length + 24 + (6 + (Syn.vsT locs).length) := by simp [Syn.headT, Syn.sNode, Syn.sReturns, Syn.sLet, Syn.sVar, hz]; omega
     simp [t0, t3, t4, hal2, hp, -alen]
     iterate 1 (rw [if_pos (by omega)]; simp [t0, t3, t4, hal2, hp, -alen])
     refine zaa (zeB hwl (by omega) _) ?_
     rintro _ HX ⟨rfl, hHX⟩
     rw [hHX]
     clear hHX HX
     simp [t0, t3, t4, hal2, hp, -alen]
     iterate 3 (rw [if_pos (by omega)]; simp [t0, t3, t4, hal2, hp, -alen])
     refine zai (fun k2 T' H' => ∃ i2 : Nat, i2 + k2 = eqs.length /\ T' 0 = ndsV l /\ T' 3 = .str (acc ++ (Syn.headT ⟨nm, ins, outs, locs, eqs, pos⟩ ++ Syn.eqsT (eqs.take i2))) /\ T' 4 = .int .i64 i /\ T' 5 = .ptr H1.next 0 /\ T' 6 = .int .i64 i2 /\ H'.get H1.next = some (.cells [.str nm, vsV ins, vsV outs, vsV locs, eqsV eqs, .int .i64 pos]) /\ ∀ j x, H.get j = some x -> H'.get j = some x) eqs.length ?_ ?_
     · refine ⟨0, by simp, by simp [t0], by simp [Syn.headT, Syn.sNode, Syn.sReturns, Syn.sLet, Syn.sVar, hz, Syn.eqsT], by simp [t4], by simp, by simp, by simp, fun j x hj => ?_⟩
       have q1 := zac hw1 (hkp j x hj)
       simp [show j ≠ H1.next by omega, hkp j x hj]
     rintro k2 T2 H2 ⟨i2, hik2, u0, u3, u4, u5, u6, g, hk2⟩ hw2 _
     have hle2 := Syn.eqsT_le i2 eqs
     by_cases hi2 : i2 < eqs.length
     · have hii2 : (i2 : Int) < eqs.length := by omega
       obtain ⟨q, hq⟩ : ∃ q, eqs[i2]? = some q := ⟨_, List.getElem?_eq_getElem hi2⟩
       have hqm := List.mem_of_getElem? hq
       obtain ⟨hqn, w, tt, htr⟩ := hwq q hqm
       have l5 := Syn.nm_len hqn
       have htx := Syn.tr_tx htr
       have hqk := Syn.eqsT_take hq
       have hle3 := Syn.eqsT_le (i2 + 1) eqs
       rw [hqk, List.length_append] at hle3
       have hql : (Syn.eqT q).length = q.name.length + (Syn.tx q.e).length + 7 := by simp [Syn.eqT]; omega
       have htd := fun H => zb1 (G := G) htr (by rw [htx]; omega) H
       obtain ⟨c0, hat2, c6, c7⟩ := zgL hq
       have hqv := zh0 hi2
       have wr2 : IntKind.i64.wrap ((i2 : Int) + 1) = ((i2 + 1 : Nat) : Int) := by rw [IntWalk.i64_in _ (by omega)]; omega
       have hlen7 := zaq eqs
       have h5 : 5 <= (zag eqs).length - (i2 * 7 + 1) := by omega
       obtain ⟨hd1, hhd⟩ : ∃ hd1, hd1 = Syn.headT ⟨nm, ins, outs, locs, eqs, pos⟩ := ⟨_, rfl⟩
       rw [<- hhd] at u3 hnl ⊢
       obtain ⟨pre, hpre⟩ : ∃ pre, pre = acc ++ (hd1 ++ Syn.eqsT (eqs.take i2)) := ⟨_, rfl⟩
       have hprel : pre.length = acc.length + (hd1.length + (Syn.eqsT (eqs.take i2)).length) := by rw [hpre]; simp
       have hnew : acc ++ (hd1 ++ (Syn.eqsT (eqs.take i2) ++ Syn.eqT q)) = pre ++ Syn.eqT q := by rw [hpre]; simp
       rw [<- hpre] at u3
       subst htx
       obtain ⟨qn, ⟨op', nm', n', p', ks'⟩, qp⟩ := q
       simp only [zab] at htd hat2 c0
       obtain ⟨tq, htq⟩ : ∃ tq, tq = Syn.tx (.mk op' nm' n' p' ks') := ⟨_, rfl⟩
       have heq : Syn.eqT ⟨qn, .mk op' nm' n' p' ks', qp⟩ = 32 :: 32 :: (qn ++ (32 :: 61 :: 32 :: (tq ++ [59, 10]))) := by rw [htq]; rfl
       simp only at hql l5
       rw [<- htq] at htd hql
       rw [hqv] at g
       have hal4 : alen Tryz.prog 45 (.vsl (zag eqs) eqs.length) = some (.int .i64 eqs.length) := rfl
       simp [u0, u3, u4, u5, u6, g, hqv, hal4, hii2, hi2, -alen]
       refine zak [(3, 0), (3, 17), (7, 0), (7, 17), (11, 0), (15, 0)] mixedOrders (by kernel_rfl) ?_
       intro es hes
       simp [u0, u3, u4, u5, u6, g, hi2, hii2, c0, hat2, h5, -alen]
       iterate 3 (rw [if_pos (by omega)]; simp [u0, u3, u4, u5, u6, g, hi2, hii2, c0, hat2, h5, -alen])
       refine ⟨_, _, htd _, Nat.le_refl _, ?_⟩
       simp [rds, heapF, u0, u3, u4, u5, u6, g, hi2, hii2, c0, hat2, h5, -alen]
       iterate 2 (rw [if_pos (by omega)]; simp [rds, heapF, u0, u3, u4, u5, u6, g, hi2, hii2, c0, hat2, h5, -alen])
       refine ⟨by subst hes; exact ⟨by kernel_rfl, by kernel_rfl⟩, k2 - 1, by omega, i2 + 1, by omega, ?_, wr2, hqv.symm, hk2⟩
       rw [hqk, hnew, heq]
     · obtain rfl : i2 = eqs.length := by omega
       rw [List.take_length] at u3 hle2
       have hfin : Syn.ndT ⟨nm, ins, outs, locs, eqs, pos⟩ = Syn.headT ⟨nm, ins, outs, locs, eqs, pos⟩ ++ (Syn.eqsT eqs ++ (Syn.sTel ++ [59, 10])) := rfl
       obtain ⟨hd1, hhd⟩ : ∃ hd1, hd1 = Syn.headT ⟨nm, ins, outs, locs, eqs, pos⟩ := ⟨_, rfl⟩
       rw [<- hhd] at u3 hnl hfin
       simp [u0, u3, u4, u5, u6, g, hal3, -alen]
       iterate 1 (rw [if_pos (by omega)]; simp [u0, u3, u4, u5, u6])
       refine ⟨k - 1, by omega, i + 1, by omega, ?_, wr, hk2⟩
       rw [htk, hfin]
       simp [Syn.sTel]
 · obtain rfl : i = l.length := by omega
   rw [List.take_length] at t3
   simp [t0, t3, t4, hal, -alen]
   exact hkp
theorem nds_snoc : ∀ (a : List Nd) (x : Nd), zal (a ++ [x]) = zal a ++ zah x
 | [], x => by simp [zal]
 | b :: a, x => by rw [List.cons_append, zal, zal, nds_snoc a x, List.append_assoc]
def NdL (N : Nat) (l : List Nd) (v : AV) (h : AHeap) : Prop := (l = [] /\ v = .nilsl) \/ l ≠ [] /\ ∃ b op, v = .sl b 0 6 l.length l.length op /\ N <= b /\ h.get b = some (.cells (zal l))
theorem NdL.sc {N : Nat} {l : List Nd} {v : AV} {h : AHeap} (g : NdL N l v h) : v.scalar = true := by rcases g with ⟨_, rfl⟩ | ⟨_, b, op, rfl, _⟩ <;> rfl
theorem NdL.cells {N : Nat} {l : List Nd} {v : AV} {h : AHeap} (g : NdL N l v h) : v.cells = [v] := by rcases g with ⟨_, rfl⟩ | ⟨_, b, op, rfl, _⟩ <;> rfl
theorem nodes_live {l : List Nd} (hll : l.length <= 1000000) (hc : ∀ n ∈ l, ∀ H, Does Tryz.prog G 17 [.agg (zah n)] H fun r H' => r = .agg (zah n) /\ H' = H) (H : AHeap) :
  Does Tryz.prog G 8 [ndsV l] H fun r h => NdL H.next l r h /\ ∀ j x, H.get j = some x -> h.get j = some x := by
 refine Does.wf Tryz.call8 fun hw _ => ?_
 refine zaf Tryz.call8 Tryz.func8 rfl (by simp [Tryz.f8]) ?_
 have hal : alen Tryz.prog 23 (ndsV l) = some (.int .i64 l.length) := by
  unfold ndsV
  cases l <;> rfl
 simp
 refine zai (fun j T' H' => ∃ (i : Nat) (K : AV), i + j = l.length /\ T' 0 = ndsV l /\ T' 3 = K /\ T' 4 = .int .i64 i /\ NdL H.next (l.take i) K H' /\ H.next <= H'.next /\ ∀ j x, H.get j = some x -> H'.get j = some x) l.length ?_ ?_
 · exact ⟨0, .nilsl, by simp, by simp, by simp, by simp, .inl ⟨by simp, rfl⟩, Nat.le_refl _, fun y w hy => hy⟩
 rintro j T H1 ⟨i, K, hij, t0, t3, t4, hK, hnx, hkp⟩ hw1 _
 by_cases hi : i < l.length
 · have hii : (i : Int) < l.length := by omega
   obtain ⟨x, hx⟩ : ∃ x, l[i]? = some x := ⟨_, List.getElem?_eq_getElem hi⟩
   have hnv := zhl hi
   have hal1 : alen Tryz.prog 23 (.vsl (zal l) l.length) = some (.int .i64 l.length) := rfl
   have hat := zf8 hx
   have hlen6 := zcL l
   have h6 : 6 <= (zal l).length - i * 6 := by omega
   have wr : IntKind.i64.wrap ((i : Int) + 1) = ((i + 1 : Nat) : Int) := by rw [IntWalk.i64_in _ (by omega)]; omega
   have htk : l.take (i + 1) = l.take i ++ [x] := by
    rw [List.take_add_one, hx]; rfl
   have hln : (l.take i).length = i := by rw [List.length_take]; omega
   have hd := hc x (List.mem_of_getElem? hx)
   have hes := zbl x.eqs
   simp only [zah] at hat hd
   generalize hns : l.take i = ns at *
   have hap := nds_snoc ns x
   simp only [zah] at hap
   rcases hK with ⟨rfl, rfl⟩ | ⟨hne, b, op, rfl, hbn, hb⟩
   · simp only [List.length_nil] at hln
     subst hln
     have h6' : 6 <= (zal l).length := by simpa using h6
     have hat' : List.take 6 (zal l) = [.str x.name, vsV x.ins, vsV x.outs, vsV x.locals, eqsV x.eqs, .int .i64 x.pos] := by simpa using hat
     simp [t0, t3, t4, hii, hi, hnv, hal1, hat', h6', -alen]
     refine zaa (hd _) ?_
     rintro _ H2 ⟨rfl, rfl⟩
     simp [t0, t3, t4, hes]
     refine ⟨j - 1, by omega, 1, by omega, by decide, .inr ⟨by rw [htk]; simp, H2.next + 1, true, by rw [htk]; rfl, by omega, by rw [htk]; simp [zal, zah]⟩, by omega, fun y w hy => ?_⟩
     have := zac hw1 (hkp y w hy)
     simp [show y ≠ H2.next by omega, show y ≠ H2.next + 1 by omega, hkp y w hy]
   · have hbl := zac hw1 hb
     have n1 : b ≠ H1.next := by omega
     have hbn2 := zcL ns
     have c0 : ¬ ns.length + 1 <= ns.length := by omega
     have c2 : (ns.length + 1) * 120 <= 140737488355328 := by omega
     have c3 : ns.length <= 4611686018427387903 := by omega
     have c4 : List.take (ns.length * 6) (zal ns) = zal ns := List.take_of_length_le (by omega)
     simp [t0, t3, t4, hii, hi, hnv, hal1, hat, h6, -alen]
     refine zaa (hd _) ?_
     rintro _ H2 ⟨rfl, rfl⟩
     cases op with
     | true =>
       simp [t0, t3, t4, hes, hb, n1, c0, c2, c3, c4, hbn2]
       refine ⟨j - 1, by omega, i + 1, by omega, wr, .inr ⟨by rw [htk]; simp, H2.next + 1, true, by rw [htk]; simp, by omega, by rw [htk]; simp [hap]⟩, by omega, fun y w hy => ?_⟩
       have k1 := zac hw1 (hkp y w hy)
       have k2 := zac hw hy
       simp [show y ≠ H2.next by omega, show y ≠ H2.next + 1 by omega, show y ≠ b by omega, hkp y w hy]
     | false =>
       simp [t0, t3, t4, hes, hb, n1, c0, c2, c3, c4, hbn2]
       refine ⟨j - 1, by omega, i + 1, by omega, wr, .inr ⟨by rw [htk]; simp, H2.next + 1, true, by rw [htk]; simp, by omega, by rw [htk]; simp [hap]⟩, by omega, fun y w hy => ?_⟩
       have k1 := zac hw1 (hkp y w hy)
       have k2 := zac hw hy
       simp [show y ≠ H2.next by omega, show y ≠ H2.next + 1 by omega, hkp y w hy]
 · obtain rfl : i = l.length := by omega
   rw [List.take_of_length_le (by simp)] at hK
   simp [t0, t3, t4, hal, hK.sc, hK.cells, -alen]
   exact ⟨hK, hkp⟩
theorem ze8 {l : List Nd} (hwt : Syn.ndsWt l <= 40000) (H : AHeap) :
  Does Tryz.prog G 8 [ndsV l] H fun r h => r = ndsV l /\ h = H := by
 have hll := zc3 l
 have hc : ∀ n ∈ l, ∀ H, Does Tryz.prog G 17 [.agg (zah n)] H fun r H' => r = .agg (zah n) /\ H' = H := fun n hn H => by
  have w1 := zc2 hn
  have w2 : n.wt = 1 + (n.ins.length + n.outs.length + n.locals.length + Syn.eqsWt n.eqs) := rfl
  have w3 := zc6 n.eqs
  exact conv_node (by omega) (by omega) (by omega) (by omega) (fun q hq => conv_ex q.e (by have := zd4 hq; omega)) H
 refine Does.wfs fun hw _ => (nodes_live (by omega) hc H).ghost fun r H1 ⟨h1, h2⟩ => ?_
 rcases h1 with ⟨rfl, rfl⟩ | ⟨hne, b, op, rfl, hb, hg⟩
 · exact ⟨_, H, Ghost.back hw rfl h2, rfl, rfl⟩
 · have hnv : ndsV l = .vsl (zal l) l.length := by unfold ndsV; rw [if_neg (by simpa using hne)]
   have e1 : AV.frz b (zal l) (.sl b 0 6 l.length l.length op) = .vsl (zal l) l.length := by
    simp only [AV.frz, if_true, List.drop_zero]
    rw [List.take_of_length_le (by rw [zcL]; omega)]
   refine ⟨_, H, (Ghost.frz hg).trans (Ghost.back hw ?_ (AHeap.frz_old hw hb h2)), by rw [hnv]; exact e1, rfl⟩
   rw [e1]
   exact zce _ _
end Go.Proofs.YtnejkhhnpbcmaaaGreatDoor
namespace Go.Rp
open Go Go.Abs
theorem fresh_sl {P : Program} {G : Nat -> Option AV} {f : FuncId} {args : List AV} {H : AHeap} {z n : Nat} {cs : List AV} (hc : cs.length = n * z) (hp : AV.allLt H.next cs = true)
  (h : Does P G f args H fun r H1 => ∃ i cap op junk, r = .sl i 0 z n cap op /\ H.next <= i /\ H1.get i = some (.cells (cs ++ junk)) /\ ∀ j x, H.get j = some x -> H1.get j = some x) :
  Does P G f args H fun r h => r = .vsl cs n /\ h = H :=
 Does.frozen h fun hw ha r H1 ⟨i, cap, op, junk, hr, hi, hg, hs⟩ => by
  subst hr
  have e : ((cs ++ junk).drop 0).take (n * z) = cs := by rw [List.drop_zero, <- hc, List.take_left]
  refine ⟨i, cs ++ junk, hi, hg, hs, ?_, ?_⟩
  · simp only [AV.frz, if_true, e, AV.idLt]; exact hp
  · simp only [AV.frz, if_true, e, and_self]
theorem wrap_u64 (n : Int) : IntKind.u64.wrap n = n % 18446744073709551616 := by simp [IntKind.wrap, IntKind.bits, IntKind.signed]
theorem frz_get {H : AHeap} {i j : Nat} {cs c : List AV} (hj : H.get j = some (.cells c)) (hne : j ≠ i) : (H.frz i cs).get j = some (.cells (AV.frzs i cs c)) := by
 simp only [AHeap.frz, hj]
 rw [if_neg hne]
end Go.Rp
