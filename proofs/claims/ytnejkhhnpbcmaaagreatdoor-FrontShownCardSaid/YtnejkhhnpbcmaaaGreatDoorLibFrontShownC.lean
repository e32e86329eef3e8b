/-
  Own library of this claim, part 3: texts one behind the other.
-/
import Derived.ChangeArms
import Derived.DataReads
import Derived.OpenShut
import Derived.LaidLaws
import Derived.FnData
import GoSem.ClaimJoined
import Derived.KernelRfl
import Derived.Test.YtnejkhhnpbcmaaaGreatDoorRows
import Derived.ProofKit
import Derived.IntWalk
import Derived.Test.YtnejkhhnpbcmaaaGreatDoorProg
import Derived.Test.YtnejkhhnpbcmaaaGreatDoorLibFrontShownB
set_option maxRecDepth 100000
set_option maxHeartbeats 8000000
set_option linter.unusedVariables false
set_option linter.unusedSimpArgs false
namespace Go.Syn
open Go.Lex
variable {W : Ws}
theorem zdz {s : St} {ts : List Bs} (h : (want W s ts).err = 0) : s.err = 0 := by
 by_cases q : s.err = 0
 · exact q
 · rw [zdZ q] at h; exact h
theorem node_wf (hG : WsG W) {s : St} (h : (node W s).2.err = 0) : WfN (node W s).1 := by
 unfold node at h ⊢
 simp only at h ⊢
 generalize want1 W { s with names := 0 } [110, 111, 100, 101] = s1 at *
 have k1 : (name W s1).2.err = 0 -> Wok (nmW (name W s1).1) := name_ok hG
 generalize name W s1 = r1 at *
 have k2 : (decls W (want1 W r1.2 [40])).2.err = 0 -> (∀ v ∈ (decls W (want1 W r1.2 [40])).1, WfV v) /\ r1.2.err = 0 := fun q => ⟨decls_wf hG q, by
  by_cases q1 : (want1 W r1.2 [40]).err = 0
  · exact zax q1
  · rw [zdo q1] at q; exact absurd q q1⟩
 generalize decls W (want1 W r1.2 [40]) = r2 at *
 have k3 : (decls W (want W r2.2 [[41], [114, 101, 116, 117, 114, 110, 115], [40]])).2.err = 0 -> (∀ v ∈ (decls W (want W r2.2 [[41], [114, 101, 116, 117, 114, 110, 115], [40]])).1, WfV v) /\ r2.2.err = 0 := fun q => ⟨decls_wf hG q, by
  by_cases q1 : (want W r2.2 [[41], [114, 101, 116, 117, 114, 110, 115], [40]]).err = 0
  · exact zdz q1
  · rw [zdo q1] at q; exact absurd q q1⟩
 generalize decls W (want W r2.2 [[41], [114, 101, 116, 117, 114, 110, 115], [40]]) = r3 at *
 have k4 : (take W (want W r3.2 [[41], [59]]) [118, 97, 114]).2.err = 0 -> r3.2.err = 0 := fun q => by
  rw [zec] at q
  exact zdz q
 generalize take W (want W r3.2 [[41], [59]]) [118, 97, 114] = r4 at *
 have k5 : (if r4.1 = true then locals_ W r4.2 else ([], r4.2)).2.err = 0 -> (∀ v ∈ (if r4.1 = true then locals_ W r4.2 else ([], r4.2)).1, WfL v) /\ r4.2.err = 0 := by
  split
  · intro q
    refine ⟨locals_wf hG q, ?_⟩
    by_cases q1 : r4.2.err = 0
    · exact q1
    · rw [zg4 q1] at q; exact q
  · intro q
    exact ⟨fun v hv => by simp at hv, q⟩
 generalize (if r4.1 = true then locals_ W r4.2 else ([], r4.2)) = r5 at *
 have k6 : (eqsL W (W.length + 1) [] (want1 W r5.2 [108, 101, 116])).2.err = 0 -> (∀ q ∈ (eqsL W (W.length + 1) [] (want1 W r5.2 [108, 101, 116])).1, WfQ q) /\ r5.2.err = 0 := fun q => ⟨eqsL_wf hG _ _ _ (fun v hv => by simp at hv) q, by
  by_cases q1 : (want1 W r5.2 [108, 101, 116]).err = 0
  · exact zax q1
  · rw [zd5 q1] at q; exact absurd q q1⟩
 generalize eqsL W (W.length + 1) [] (want1 W r5.2 [108, 101, 116]) = r6 at *
 rw [zec] at h
 have h6 := zax h
 obtain ⟨a6, h5⟩ := k6 h6
 obtain ⟨a5, h4⟩ := k5 h5
 have h3 := k4 h4
 obtain ⟨a3, h2⟩ := k3 h3
 obtain ⟨a2, h1⟩ := k2 h2
 exact ⟨k1 h1, a2, a3, a5, a6⟩
theorem zif (hG : WsG W) : ∀ (k : Nat) (l : List Nd) (s : St), (∀ n ∈ l, WfN n) -> (l ≠ [] \/ k ≠ 0) -> (nodesL W k l s).2.err = 0 -> (nodesL W k l s).1 ≠ [] /\ ∀ n ∈ (nodesL W k l s).1, WfN n
 | 0, l, s, hl, hne, h => ⟨by
   rcases hne with hne | hne
   · exact hne
   · exact absurd rfl hne, hl⟩
 | k + 1, l, s, hl, hne, h => by
   rw [nodesL] at h ⊢
   by_cases c : s.err = 0 /\ (l = [] \/ Syn.kind W s ≠ 0)
   · rw [if_pos c] at h ⊢
     by_cases c32 : l.length = 32
     · rw [if_pos c32] at h
       rw [fail_err c.1] at h
       exact absurd h (by decide)
     · rw [if_neg c32] at h ⊢
       have key : (node W s).2.err = 0 -> WfN (node W s).1 := node_wf hG
       generalize node W s = r at *
       have h : (nodesL W k (l ++ [r.1]) r.2).2.err = 0 := h
       show (nodesL W k (l ++ [r.1]) r.2).1 ≠ [] /\ ∀ n ∈ (nodesL W k (l ++ [r.1]) r.2).1, WfN n
       have h2 : r.2.err = 0 := by
        by_cases q : r.2.err = 0
        · exact q
        · have : nodesL W k (l ++ [r.1]) r.2 = (l ++ [r.1], r.2) := by
           cases k with
           | zero => rw [nodesL]
           | succ k => rw [nodesL, if_neg fun x => q x.1]
          rw [this] at h; exact h
       refine zif hG k _ _ (fun n hn => ?_) (.inl (by simp)) h
       rcases List.mem_append.1 hn with hn | hn
       · exact hl n hn
       · rw [List.mem_singleton.1 hn]; exact key h2
   · rw [if_neg c] at h ⊢
     refine ⟨?_, hl⟩
     intro e
     exact c ⟨h, .inl e⟩
theorem wok_kind {w : Wd} (h : Wok w) : (w.kind = 1 -> w = nmW w.text) /\ (w.kind = 3 -> w.n < 9223372036854775808) := by
 obtain ⟨s, h⟩ := h
 cases s with
 | nil => simp [wordS] at h
 | cons c q =>
   simp only [wordS] at h
   split at h
   · split at h
     · simp only [Option.some.injEq] at h; subst h; exact ⟨fun e => by simp at e, fun e => by simp at e⟩
     · split at h
       · simp only [Option.some.injEq] at h; subst h; exact ⟨fun e => rfl, fun e => by simp at e⟩
       · simp at h
   · split at h
     · split at h
       · rename_i hn
         simp only [Option.some.injEq] at h; subst h; exact ⟨fun e => by simp at e, fun e => hn.1⟩
       · simp at h
     · split at h
       · simp only [Option.some.injEq] at h; subst h; exact ⟨fun e => by simp at e, fun e => by simp at e⟩
       · simp at h
theorem wsG_of {l : Ws} {n : Nat} (h : ∀ w ∈ l, Wok w.2) : WsG (l ++ [(n, ⟨0, [], 0⟩)]) := fun s => by
 have hx : (at_ (l ++ [(n, ⟨0, [], 0⟩)]) s).2 = ⟨0, [], 0⟩ \/ Wok (at_ (l ++ [(n, ⟨0, [], 0⟩)]) s).2 := by
  unfold at_
  rw [List.getD_eq_getElem?_getD]
  cases hg : (l ++ [(n, (⟨0, [], 0⟩ : Wd))])[s.i]? with
  | none => exact .inl rfl
  | some x =>
    have := List.mem_of_getElem? hg
    rcases List.mem_append.1 this with hm | hm
    · exact .inr (h x hm)
    · rw [List.mem_singleton.1 hm]; exact .inl rfl
 unfold Syn.kind Syn.text
 generalize (at_ (l ++ [(n, ⟨0, [], 0⟩)]) s).2 = x at *
 rcases hx with rfl | hx
 · exact ⟨fun e => by simp at e, fun e => by simp at e⟩
 · obtain ⟨h1, h2⟩ := wok_kind hx
   exact ⟨fun e => h1 e ▸ hx, h2⟩
theorem parse_wf {t : Bs} {l : List Nd} (h : parse t = .ok l) : l ≠ [] /\ ∀ n ∈ l, WfN n := by
 unfold parse at h
 by_cases hb : 16384 < t.length
 · rw [if_pos hb] at h; simp at h
 rw [if_neg hb] at h
 cases hc : cutS t.length t with
 | error e => rw [hc] at h; simp at h
 | ok ls =>
   rw [hc] at h
   simp only at h
   have hG : WsG (ls ++ [(t.length, ⟨0, [], 0⟩)]) := wsG_of (zes _ _ (Nat.lt_succ_self _) _ hc).1
   have key := zif hG 33 [] ⟨0, 0, 0, 0, 0⟩ (fun n hn => by simp at hn) (.inr (by decide))
   generalize nodesL (ls ++ [(t.length, ⟨0, [], 0⟩)]) 33 [] ⟨0, 0, 0, 0, 0⟩ = r at *
   by_cases he : r.2.err = 0
   · rw [if_pos he] at h
     simp only [Except.ok.injEq] at h
     subst h
     exact key he
   · rw [if_neg he] at h; simp at h
/-! Texts -/
def vT (v : Va) : Bs := v.name ++ (58 :: 32 :: ((if v.kind = 1 then sBool else sInt) ++ (if v.on = [] then [] else 32 :: (sWhen ++ (32 :: ((if v.neg then sNot ++ [32] else []) ++ v.on))))))
def vsT : List Va -> Bs
 | [] => []
 | [v] => vT v
 | v :: w :: l => vT v ++ (59 :: 32 :: vsT (w :: l))
theorem zfT {n : Nat} {q : Bs} {L : List Wd} (h : Cuts n q L) : Cuts n (10 :: q) L := Cuts.blanks [10] q (by decide) h
theorem zc8 {n : Nat} {q : Bs} {L : List Wd} (h : Cuts n q L) : Cuts n (59 :: q) (semi :: L) := Cuts.sg (by decide) h
theorem zgM {n : Nat} {q : Bs} {L : List Wd} (h : Cuts n q L) : Cuts n (58 :: q) (colon :: L) := Cuts.sg (by decide) h
theorem cuts_eq {n : Nat} {q : Bs} {L : List Wd} (h : Cuts n q L) : Cuts n (61 :: q) (eqs_ :: L) := Cuts.sg (by decide) h
theorem zfs {n : Nat} {v : Va} {w : List Wd} (h : Vd v w) {b : UInt8} (hb : zaC b = false) {q : Bs} {L : List Wd} (hq : Cuts n (b :: q) L) : Cuts n (vT v ++ (b :: q)) (w ++ L) := by
 cases h with
 | bool h =>
   simp only [vT, if_true, List.append_nil, List.append_assoc, List.cons_append]
   exact Cuts.ws h (by decide : (1 : Nat) ≠ 4) (by decide) (zgM (Cuts.blank (Cuts.ws (w := kw sBool) (Wok.kw (by decide)) (by decide) hb hq)))
 | int h =>
   simp only [vT, show ((2 : Nat) = 1) = False by simp, if_false, if_true, List.append_nil, List.append_assoc, List.cons_append]
   exact Cuts.ws h (by decide : (1 : Nat) ≠ 4) (by decide) (zgM (Cuts.blank (Cuts.ws (w := kw sInt) (Wok.kw (by decide)) (by decide) hb hq)))
theorem wok_ne {nm : Bs} (h : Wok (nmW nm)) : nm ≠ [] := by
 rintro rfl
 have := (ze1 h (b := 32) (by decide) []).2.2
 exact this rfl
theorem vl_cuts {n : Nat} {v : Va} {w : List Wd} (h : Vl v w) {b : UInt8} (hb : zaC b = false) {q : Bs} {L : List Wd} (hq : Cuts n (b :: q) L) : Cuts n (vT v ++ (b :: q)) (w ++ L) := by
 cases h with
 | no h => exact zfs h hb hq
 | @on nm on k pos w h ho =>
   have e : vT ⟨nm, k, on, false, pos⟩ ++ (b :: q) = vT ⟨nm, k, [], false, pos⟩ ++ (32 :: (sWhen ++ (32 :: (on ++ (b :: q))))) := by
    simp only [vT, if_neg (wok_ne ho), if_true, List.append_nil, List.append_assoc, List.cons_append, List.nil_append, Bool.false_eq_true, if_false]
   rw [e, List.append_assoc]
   exact zfs h (by decide) (Cuts.blank (Cuts.wb (w := kw sWhen) (Wok.kw (by decide)) (Cuts.ws ho (by decide : (1 : Nat) ≠ 4) hb hq)))
 | @off nm on k pos w h ho =>
   have e : vT ⟨nm, k, on, true, pos⟩ ++ (b :: q) = vT ⟨nm, k, [], false, pos⟩ ++ (32 :: (sWhen ++ (32 :: (sNot ++ (32 :: (on ++ (b :: q))))))) := by
    simp only [vT, if_neg (wok_ne ho), if_true, List.append_nil, List.append_assoc, List.cons_append, List.nil_append]
   rw [e, List.append_assoc]
   exact zfs h (by decide) (Cuts.blank (Cuts.wb (w := kw sWhen) (Wok.kw (by decide)) (Cuts.wb (w := kw sNot) (Wok.kw (by decide)) (Cuts.ws ho (by decide : (1 : Nat) ≠ 4) hb hq))))
theorem zja {n : Nat} : ∀ (l : List Va), (∀ v ∈ l, WfV v) -> ∃ w, Vs0 l w /\ ∀ {q : Bs} {L : List Wd}, Cuts n (41 :: q) L -> Cuts n (vsT l ++ (41 :: q)) (w ++ L)
 | [], _ => ⟨[], .nil, fun h => h⟩
 | [v], h => by
   obtain ⟨w, hw⟩ := h v (by simp)
   exact ⟨w, .of (.one hw), fun hq => zfs hw (by decide) hq⟩
 | v :: x :: l, h => by
   obtain ⟨w, hw⟩ := h v (by simp)
   obtain ⟨ws, hs, hc⟩ := zja (n := n) (x :: l) fun y hy => h y (List.mem_cons_of_mem _ hy)
   cases hs with
   | of hs =>
     refine ⟨_, .of (.cons hw hs), fun {q L} hq => ?_⟩
     rw [vsT]
     simp only [List.append_assoc, List.cons_append]
     exact zfs hw (by decide) (zc8 (Cuts.blank (hc hq)))
theorem vls_cuts {n : Nat} : ∀ (v : Va) (l : List Va), (∀ x ∈ v :: l, WfL x) -> ∃ w, Vse (v :: l) w /\ ∀ {q : Bs} {L : List Wd}, Cuts n q L -> Cuts n (vsT (v :: l) ++ (59 :: q)) (w ++ L)
 | v, [], h => by
   obtain ⟨w, hw⟩ := h v (by simp)
   refine ⟨_, .cons hw .nil, fun {q L} hq => ?_⟩
   simp only [List.append_assoc, List.cons_append, List.nil_append]
   exact vl_cuts hw (by decide) (zc8 hq)
 | v, x :: l, h => by
   obtain ⟨w, hw⟩ := h v (by simp)
   obtain ⟨ws, hs, hc⟩ := vls_cuts (n := n) x l fun y hy => h y (List.mem_cons_of_mem _ hy)
   refine ⟨_, .cons hw hs, fun {q L} hq => ?_⟩
   rw [vsT]
   simp only [List.append_assoc, List.cons_append]
   exact vl_cuts hw (by decide) (zc8 (Cuts.blank (hc hq)))
def headT (n : Nd) : Bs := sNode ++ (32 :: (n.name ++ (40 :: (vsT n.ins ++ (41 :: 32 :: (sReturns ++ (32 :: 40 :: (vsT n.outs ++ (41 :: 59 :: 10 :: ((if n.locals = [] then [] else sVar ++ (32 :: (vsT n.locals ++ (59 :: [10])))) ++ (sLet ++ [10])))))))))))
theorem head_cuts {n : Nat} {d : Nd} (hw : WfN d) (b : Bool) : ∃ f : List Wd -> List Wd, (∀ we, Es d.eqs we -> Nw d (f we)) /\ ∀ (te tl : Bs) (we : List Wd) (L : List Wd), Cuts n (te ++ tl) (we ++ (kw sTel :: ((if b then [semi] else []) ++ L))) -> Cuts n (headT d ++ (te ++ tl)) (f we ++ L) := by
 obtain ⟨wi, hi, ci⟩ := zja (n := n) d.ins hw.ins
 obtain ⟨wo, ho, co⟩ := zja (n := n) d.outs hw.outs
 have hl : ∃ wl, (d.locals = [] /\ wl = [] \/ d.locals ≠ [] /\ ∃ u, Vse d.locals u /\ wl = kw sVar :: u) /\ ∀ {q : Bs} {L : List Wd}, Cuts n q L -> Cuts n ((if d.locals = [] then [] else sVar ++ (32 :: (vsT d.locals ++ (59 :: [10])))) ++ q) (wl ++ L) := by
  cases hd : d.locals with
  | nil => exact ⟨[], .inl ⟨rfl, rfl⟩, fun h => by simpa using h⟩
  | cons v l =>
    have hl := hw.locals
    rw [hd] at hl
    obtain ⟨u, hu, cu⟩ := vls_cuts (n := n) v l hl
    refine ⟨kw sVar :: u, .inr ⟨by simp, u, hu, rfl⟩, fun {q L} h => ?_⟩
    rw [if_neg (by simp)]
    simp only [List.append_assoc, List.cons_append, List.nil_append]
    exact Cuts.wb (w := kw sVar) (Wok.kw (by decide)) (cu (zfT h))
 obtain ⟨wl, hl, cl⟩ := hl
 refine ⟨fun we => kw sNode :: nmW d.name :: lp :: (wi ++ (rp :: kw sReturns :: lp :: (wo ++ (rp :: semi :: (wl ++ (kw sLet :: (we ++ (kw sTel :: (if b then [semi] else []))))))))), fun we he => ⟨wi, wo, wl, we, b, hw.name, hi, ho, hl, he, rfl⟩, fun te tl we L h => ?_⟩
 simp only [headT, List.append_assoc, List.cons_append, List.nil_append]
 exact Cuts.wb (w := kw sNode) (Wok.kw (by decide)) (Cuts.ws hw.name (by decide : (1 : Nat) ≠ 4) (by decide) (zck (ci (zdr (Cuts.blank (Cuts.wb (w := kw sReturns) (Wok.kw (by decide)) (zck (co (zdr (zc8 (zfT (cl (Cuts.of (w := kw sLet) (ze1 (Wok.kw (by decide)) (b := 10) (by decide) _) (zfT h))))))))))))))
variable {W : Ws}
mutual
def Ex.wt : Ex -> Nat
 | .mk _ _ _ _ kids => 1 + Ex.wts kids
def Ex.wts : List Ex -> Nat
 | [] => 0
 | e :: l => e.wt + Ex.wts l
end
theorem zgr : ∀ a b : List Ex, Ex.wts (a ++ b) = Ex.wts a + Ex.wts b
 | [], b => by simp [Ex.wts]
 | e :: a, b => by simp only [List.cons_append, Ex.wts, zgr a b]; omega
def nu (W : Ws) (s : St) : Nat := W.length - s.i
theorem zjr {s s' : St} (hk : Syn.kind W s ≠ 0) (hi : s'.i = s.i + 1) : nu W s' + 1 <= nu W s := by
 have : s.i < W.length := by
  by_cases q : s.i < W.length
  · exact q
  · exfalso
    apply hk
    unfold Syn.kind at_
    rw [List.getD_eq_getElem?_getD, List.getElem?_eq_none (by omega)]
    rfl
 unfold nu
 omega
theorem nu_le {s s' : St} (hi : s.i <= s'.i) : nu W s' <= nu W s := by unfold nu; omega
theorem zeq (e : Nat) (s : St) : (fail W e s).i = s.i := by unfold fail; split <;> rfl
theorem ze7 {s : St} (hk : Syn.kind W s ≠ 0) (h : (part W s).err = 0) : nu W (part W s) + 1 <= nu W s := by
 refine zjr hk ?_
 unfold part at h ⊢
 simp only at h ⊢
 generalize hs1 : (if 300 < wrap (s.parts + 1) then fail W 2 { s with parts := wrap (s.parts + 1) } else { s with parts := wrap (s.parts + 1) }) = s1 at h ⊢
 have h1 : s1.i = s.i := by
  rw [<- hs1]
  split
  · exact zeq _ _
  · rfl
 by_cases q : s1.err = 0
 · rw [if_pos q]
   show s1.i + 1 = s.i + 1
   rw [h1]
 · rw [if_neg q] at h
   exact absurd h q
theorem zbc (s : St) (t : Bs) : nu W (want1 W s t) <= nu W s := by
 refine nu_le ?_
 unfold want1
 split
 · simp
 · rw [zeq]; exact Nat.le_refl _
theorem zhj (s : St) (t : Bs) : nu W (take W s t).2 <= nu W s := by
 refine nu_le ?_
 unfold take
 split
 · simp
 · exact Nat.le_refl _
theorem zhk (s : St) : nu W (name W s).2 <= nu W s := by
 refine nu_le ?_
 unfold name
 simp only
 generalize hs1 : (if Syn.kind W s = 1 then s else fail W 7 s) = s1
 have h1 : s1.i = s.i := by
  rw [<- hs1]
  split
  · rfl
  · exact zeq _ _
 split
 · show s.i <= s1.i + 1
   omega
 · show s.i <= s1.i
   omega
theorem is_nz {s : St} {t : Bs} (h : Syn.is W s t = true) : Syn.kind W s ≠ 0 := by rcases is_kind h with e | e <;> rw [e] <;> decide
theorem one_nz {s : St} {ts : List Bs} (h : Syn.one W s ts = true) : Syn.kind W s ≠ 0 := by rcases (zd3 h).2.2 with e | e <;> rw [e] <;> decide
structure Gw (W : Ws) (f : P) : Prop where
 stk : Stk f
 ok : ∀ s, (f s).2.err = 0 -> (f s).1.wt + nu W (f s).2 <= nu W s
theorem zgs (op nm : Bs) (n pos : Nat) (a b : Ex) : (Ex.mk op nm n pos [a, b]).wt = 1 + (a.wt + b.wt) := by simp [Ex.wt, Ex.wts]
theorem zhL (op nm : Bs) (n pos : Nat) (a : Ex) : (Ex.mk op nm n pos [a]).wt = 1 + a.wt := by simp [Ex.wt, Ex.wts]
theorem zcv (op nm : Bs) (n pos : Nat) : (Ex.mk op nm n pos []).wt = 1 := by simp [Ex.wt, Ex.wts]
theorem rowL_wt {f : P} (hn : Gw W f) {ts : List Bs} : ∀ (k : Nat) (e : Ex) (s : St), (rowL W f ts k e s).2.err = 0 -> (rowL W f ts k e s).1.wt + nu W (rowL W f ts k e s).2 <= e.wt + nu W s
 | 0, e, s, h => Nat.le_refl _
 | k + 1, e, s, h => by
   rw [rowL] at h ⊢
   cases ho : Syn.one W s ts with
   | false => exact Nat.le_refl _
   | true =>
     rw [ho, if_pos rfl] at h
     rw [if_pos rfl]
     simp only at h ⊢
     have h2 : (f (part W s)).2.err = 0 := by
      by_cases q : (f (part W s)).2.err = 0
      · exact q
      · rw [zbV _ _ q] at h; exact h
     have h3 := ze7 (one_nz ho) (hn.stk.err0 h2)
     have h4 := hn.ok _ h2
     have h5 := rowL_wt hn k _ _ h
     rw [zgs] at h5
     omega
theorem Gw.row {f : P} (hn : Gw W f) (ts : List Bs) : Gw W (Syn.row W f ts) := ⟨zf0 hn.stk ts, fun s h => by
 unfold Syn.row at h ⊢
 simp only at h ⊢
 have h1 : (f s).2.err = 0 := by
  by_cases q : (f s).2.err = 0
  · exact q
  · rw [zbV _ _ q] at h; exact h
 have h2 := rowL_wt hn _ _ _ h
 have h3 := hn.ok s h1
 omega⟩
theorem Gw.right {f : P} (hn : Gw W f) {t : Bs} {last : Bool} {below : P} (hb : last = false -> Gw W below) : Gw W (Syn.right W f t last below) := ⟨zf1 hn.stk _ _ _, fun s h => by
 unfold Syn.right at h ⊢
 simp only at h ⊢
 cases hi : Syn.is W (f s).2 t with
 | false =>
   rw [hi, if_neg (by decide)] at h
   exact hn.ok s h
 | true =>
   rw [hi, if_pos rfl] at h
   rw [if_pos rfl]
   have h1 := (zcP hi).1
   by_cases q : (deeper W last (part W (f s).2)).2.err = 0
   · obtain ⟨hp, hl, hd⟩ := zb8 q
     rw [hd] at h ⊢
     simp only [if_true] at h ⊢
     have a := hn.ok s h1
     have b := (hb hl).ok _ h
     have c := ze7 (is_nz hi) hp
     rw [zgs]
     omega
   · have hd : (deeper W last (part W (f s).2)).1 = false := by
      unfold deeper at q ⊢
      simpa using q
     rw [hd] at h
     exact absurd h q⟩
theorem Gw.cmp {f : P} (hn : Gw W f) : Gw W (Syn.cmp W f) := ⟨zjC hn.stk, fun s h => by
 unfold Syn.cmp at h ⊢
 simp only at h ⊢
 cases ho : Syn.one W (f s).2 [[61], [60, 62], [60], [60, 61], [62], [62, 61]] with
 | false =>
   rw [ho, if_neg (by decide)] at h
   exact hn.ok s h
 | true =>
   rw [ho, if_pos rfl] at h
   rw [if_pos rfl]
   simp only at h ⊢
   have a := hn.ok s (zd3 ho).1
   have b := hn.ok _ h
   have c := ze7 (one_nz ho) (hn.stk.err0 h)
   rw [zgs]
   omega⟩
theorem whenL_wt : ∀ (k : Nat) (e : Ex) (s : St), (whenL W k e s).2.err = 0 -> (whenL W k e s).1.wt + nu W (whenL W k e s).2 <= e.wt + nu W s
 | 0, e, s, h => Nat.le_refl _
 | k + 1, e, s, h => by
   rw [whenL] at h ⊢
   cases hi : Syn.is W s [119, 104, 101, 110] with
   | false => exact Nat.le_refl _
   | true =>
     rw [hi, if_pos rfl] at h
     rw [if_pos rfl]
     simp only at h ⊢
     have h1 : (name W (take W (part W s) [110, 111, 116]).2).2.err = 0 := by
      by_cases q : (name W (take W (part W s) [110, 111, 116]).2).2.err = 0
      · exact q
      · rw [zbg q] at h; exact h
     have h2 := (zem h1).1
     rw [zec] at h2
     have a := ze7 (is_nz hi) h2
     have b := zhj (W := W) (part W s) [110, 111, 116]
     have c := zhk (W := W) (take W (part W s) [110, 111, 116]).2
     have d := whenL_wt k _ _ h
     rw [zhL] at d
     omega
theorem Gw.when_ {f : P} (hn : Gw W f) : Gw W (Syn.when_ W f) := ⟨zgY hn.stk, fun s h => by
 unfold Syn.when_ at h ⊢
 simp only at h ⊢
 have h1 : (f s).2.err = 0 := by
  by_cases q : (f s).2.err = 0
  · exact q
  · rw [zbg q] at h; exact h
 have a := hn.ok s h1
 have b := whenL_wt _ _ _ h
 omega⟩
theorem Gw.inner {last : Bool} {below : P} (hb : last = false -> Gw W below) : Gw W (Syn.inner W last below) := ⟨zep _ _, fun s h => by
 unfold Syn.inner at h ⊢
 simp only at h ⊢
 by_cases q : (deeper W last s).2.err = 0
 · obtain ⟨_, hl, hd⟩ := zb8 q
   rw [hd] at h ⊢
   simp only [if_true] at h ⊢
   exact (hb hl).ok _ h
 · have hd : (deeper W last s).1 = false := by
    unfold deeper at q ⊢
    simpa using q
   rw [hd] at h
   exact absurd h q⟩
theorem Gw.un {pr below : P} {last : Bool} (hp : Gw W pr) (hb : last = false -> Gw W below) : Gw W (Syn.un W pr last below) := ⟨un_stk hp.stk _ _, fun s h => by
 unfold Syn.un at h ⊢
 cases ho : Syn.one W s [[110, 111, 116], [45], [112, 114, 101]] with
 | false =>
   rw [ho, if_neg (by decide)] at h
   exact hp.ok s h
 | true =>
   rw [ho, if_pos rfl] at h
   rw [if_pos rfl]
   simp only at h ⊢
   by_cases q : (deeper W last (part W s)).2.err = 0
   · obtain ⟨hq, hl, hd⟩ := zb8 q
     rw [hd] at h ⊢
     simp only [if_true] at h ⊢
     have a := (hb hl).ok _ h
     have c := ze7 (one_nz ho) hq
     rw [zhL]
     omega
   · have hd : (deeper W last (part W s)).1 = false := by
      unfold deeper at q ⊢
      simpa using q
     rw [hd] at h
     exact absurd h q⟩
theorem argsL_wt {inn : P} (hi : Gw W inn) : ∀ (k : Nat) (l : List Ex) (s : St), (argsL W inn k l s).2.err = 0 -> Ex.wts (argsL W inn k l s).1 + nu W (argsL W inn k l s).2 <= Ex.wts l + nu W s
 | 0, l, s, h => Nat.le_refl _
 | k + 1, l, s, h => by
   rw [argsL] at h ⊢
   cases hq : Syn.is W s [44] with
   | false => exact Nat.le_refl _
   | true =>
     rw [hq, if_pos rfl] at h
     rw [if_pos rfl]
     simp only at h ⊢
     have h2 : (inn { s with i := s.i + 1 }).2.err = 0 := by
      by_cases q : (inn { s with i := s.i + 1 }).2.err = 0
      · exact q
      · rw [zcA _ q] at h; exact h
     have a := hi.ok _ h2
     have b := argsL_wt hi k _ _ h
     have c : nu W { s with i := s.i + 1 } <= nu W s := nu_le (Nat.le_succ _)
     rw [zgr] at b
     simp only [Ex.wts] at b
     omega
theorem ziJ {inn : P} (hi : Gw W inn) {s : St} (h : (arguments W inn s).2.err = 0) : Ex.wts (arguments W inn s).1 + nu W (arguments W inn s).2 <= nu W s := by
 unfold arguments at h ⊢
 cases hq : Syn.is W s [41] with
 | true =>
   rw [if_pos rfl]
   have c : nu W { s with i := s.i + 1 } <= nu W s := nu_le (Nat.le_succ _)
   simpa [Ex.wts] using c
 | false =>
   rw [hq, if_neg (by decide)] at h
   rw [if_neg (by decide)]
   simp only at h ⊢
   have h1 := zax h
   have h2 : (inn s).2.err = 0 := by
    by_cases q : (inn s).2.err = 0
    · exact q
    · rw [zcA _ q] at h1; exact h1
   have a := hi.ok _ h2
   have b := argsL_wt hi _ _ _ h1
   have c := zbc (W := W) (argsL W inn (W.length + 1) [(inn s).1] (inn s).2).2 [41]
   simp only [Ex.wts] at b
   omega
theorem rest_wt {inn mer : P} (hi : Gw W inn) (hm : Gw W mer) {x : Nat × Wd} {s : St} (h : (rest W inn mer x s).2.err = 0) : (rest W inn mer x s).1.wt + nu W (rest W inn mer x s).2 <= 1 + nu W s := by
 unfold rest at h ⊢
 by_cases c3 : x.2.kind = 3
 · rw [if_pos c3, zcv]; exact Nat.le_refl _
 rw [if_neg c3] at h ⊢
 by_cases ct : x.2.text = [116, 114, 117, 101]
 · rw [if_pos ct, zcv]; exact Nat.le_refl _
 rw [if_neg ct] at h ⊢
 by_cases cf : x.2.text = [102, 97, 108, 115, 101]
 · rw [if_pos cf, zcv]; exact Nat.le_refl _
 rw [if_neg cf] at h ⊢
 by_cases c1 : x.2.kind = 1
 · rw [if_pos c1] at h ⊢
   cases hq : Syn.is W s [40] with
   | false => rw [if_neg (by decide), zcv]; exact Nat.le_refl _
   | true =>
     rw [hq, if_pos rfl] at h
     rw [if_pos rfl]
     have a := ziJ hi h
     have c : nu W { s with i := s.i + 1 } <= nu W s := nu_le (Nat.le_succ _)
     show (Ex.mk _ _ _ _ (arguments W inn { s with i := s.i + 1 }).1).wt + nu W (arguments W inn { s with i := s.i + 1 }).2 <= _
     simp only [Ex.wt]
     omega
 rw [if_neg c1] at h ⊢
 by_cases ci : x.2.text = [105, 102]
 · rw [if_pos ci] at h ⊢
   simp only at h ⊢
   have h3 := zax (hi.stk.err0 h)
   have h2 := zax (hi.stk.err0 h3)
   have a := hi.ok _ h2
   have b := hi.ok _ h3
   have c := hi.ok _ h
   have d := zbc (W := W) (inn s).2 [116, 104, 101, 110]
   have e := zbc (W := W) (inn (want1 W (inn s).2 [116, 104, 101, 110])).2 [101, 108, 115, 101]
   simp only [Ex.wt, Ex.wts]
   omega
 rw [if_neg ci] at h ⊢
 simp only at h ⊢
 have h2 := hm.stk.err0 h
 have a := hm.ok _ h2
 have b := hm.ok _ h
 have c := zhk (W := W) s
 rw [zgs]
 omega
theorem Gw.prim {inn mer : P} (hi : Gw W inn) (hm : Gw W mer) : Gw W (Syn.prim W inn mer) := ⟨zhi _ _, fun s h => by
 unfold Syn.prim at h ⊢
 simp only at h ⊢
 by_cases c0 : s.err ≠ 0
 · rw [if_pos c0] at h; exact absurd h c0
 rw [if_neg c0] at h ⊢
 cases hq : Syn.is W s [40] with
 | true =>
   rw [hq, if_pos rfl] at h
   rw [if_pos rfl]
   have a := hi.ok _ (zax h)
   have b := zbc (W := W) (inn { s with i := s.i + 1 }).2 [41]
   have c : nu W { s with i := s.i + 1 } <= nu W s := nu_le (Nat.le_succ _)
   show (inn { s with i := s.i + 1 }).1.wt + nu W (want1 W (inn { s with i := s.i + 1 }).2 [41]) <= _
   omega
 | false =>
   rw [hq, if_neg (by decide)] at h
   rw [if_neg (by decide)]
   by_cases c : (at_ W s).2.kind = 3 \/ (at_ W s).2.kind = 1 \/ Syn.one W s [[116, 114, 117, 101], [102, 97, 108, 115, 101], [105, 102], [109, 101, 114, 103, 101]] = true
   · rw [if_pos c] at h ⊢
     have hk : Syn.kind W s ≠ 0 := by
      rcases c with c | c | c
      · show (at_ W s).2.kind ≠ 0
        omega
      · show (at_ W s).2.kind ≠ 0
        omega
      · exact one_nz c
     have hp : (part W s).err = 0 := by
      by_cases q : (part W s).err = 0
      · exact q
      · exfalso
        have : (rest W inn mer (at_ W s) (part W s)).2.err = (part W s).err := by
         unfold rest
         split
         · rfl
         split
         · rfl
         split
         · rfl
         split
         · rw [zbp q]; rfl
         split
         · simp only
           have a := hi.stk _ q
           rw [zaA (s := (inn (part W s)).2) (by rw [a]; exact q)]
           have b := hi.stk (inn (part W s)).2 (by rw [a]; exact q)
           rw [zaA (s := (inn (inn (part W s)).2).2) (by rw [b, a]; exact q)]
           have c := hi.stk (inn (inn (part W s)).2).2 (by rw [b, a]; exact q)
           rw [c, b, a]
         · simp only
           rw [zcM q]
           simp only
           have a := hm.stk _ q
           have b := hm.stk (mer (part W s)).2 (by rw [a]; exact q)
           rw [b, a]
        rw [this] at h
        exact q h
     have a := rest_wt hi hm h
     have b := ze7 hk hp
     omega
   · rw [if_neg c] at h
     have e : s.err = 0 := Decidable.not_not.1 c0
     have e2 : (fail W 7 s).err = 7 := fail_err e 7
     rw [e2] at h
     exact absurd h (by decide)⟩
structure LvGw (W : Ws) (L : Lv) : Prop where
 expr : Gw W L.expr
 fby : Gw W L.fby
 un : Gw W L.un
 prim : Gw W L.prim
theorem lvOf_gw {last : Bool} {b : Lv} (hb : last = false -> LvGw W b) : LvGw W (lvOf W last b) := by
 have hp : Gw W (primF W last b) := Gw.prim (Gw.inner fun h => (hb h).expr) (Gw.inner fun h => (hb h).prim)
 have hu : Gw W (unF W last b) := Gw.un hp fun h => (hb h).un
 have hw : Gw W (whnF W (unF W last b)) := Gw.when_ hu
 have hf : Gw W (fbyF W last b (unF W last b)) := Gw.right hw fun h => (hb h).fby
 have hm : Gw W (mulF W last b (unF W last b)) := Gw.row hf _
 have ha : Gw W (addF W last b (unF W last b)) := Gw.row hm _
 have hc : Gw W (cmpF W last b (unF W last b)) := Gw.cmp ha
 have hn : Gw W (andF W last b (unF W last b)) := Gw.row hc _
 have ho : Gw W (orF W last b (unF W last b)) := Gw.row hn _
 have he : Gw W (exprF W last b (unF W last b)) := Gw.right ho fun h => (hb h).expr
 rw [zho]
 generalize exprF W last b (unF W last b) = f1 at *
 generalize fbyF W last b (unF W last b) = f2 at *
 generalize unF W last b = f3 at *
 generalize primF W last b = f4 at *
 exact ⟨he, hf, hu, hp⟩
theorem lv_gw : ∀ d, LvGw W (lv W d)
 | 0 => lvOf_gw (fun h => by cases h)
 | d + 1 => lvOf_gw fun _ => lv_gw d
/-! How long the texts are -/
theorem nm_len {nm : Bs} (h : Wok (nmW nm)) : nm.length <= 24 := by
 obtain ⟨s, h⟩ := h
 cases s with
 | nil => simp [wordS] at h
 | cons c q =>
   simp only [wordS] at h
   split at h
   · split at h
     · simp [nmW] at h
     · split at h
       · rename_i h24
         simp only [Option.some.injEq, nmW, Wd.mk.injEq, true_and, and_true] at h
         rw [<- h]; exact h24
       · simp at h
   · split at h
     · split at h
       · simp [nmW] at h
       · simp at h
     · split at h
       · simp [nmW] at h
       · simp at h
theorem dec_len (n : Nat) (h : n < 9223372036854775808) : (dec n).length <= 19 := by
 have key : ∀ (k n : Nat), n < 10 ^ k -> 0 < k -> (dec n).length <= k := by
  intro k
  induction k with
  | zero => intro n _ h; omega
  | succ k ih =>
    intro n hn _
    rw [dec]
    split
    · simp
    · rename_i h10
      have hk : 0 < k := by
       cases k with
       | zero => simp at hn; omega
       | succ k => omega
      have := ih (n / 10) (by rw [Nat.pow_succ] at hn; omega) hk
      simp only [List.length_append, List.length_singleton]
      omega
 exact key 19 n (Nat.lt_of_lt_of_le h (by decide)) (by decide)
theorem op_len {o : Wd} (h : o ∈ opsW) : o.text.length <= 3 := (by decide +kernel : ∀ o ∈ opsW, o.text.length <= 3) o h
theorem un_len {op : Bs} {o : Wd} (h : (op, o) ∈ unsW) : o.text.length <= 3 := (by decide +kernel : ∀ p ∈ unsW, p.2.text.length <= 3) _ h
mutual
theorem zcY : ∀ {e : Ex} {w : List Wd} {t : Bs}, Tr e w t -> t.length + 2 <= 64 * e.wt
 | _, _, _, .int h => by have := dec_len _ h; rw [zcv]; omega
 | _, _, _, .tt => by rw [zcv]; decide
 | _, _, _, .ff => by rw [zcv]; decide
 | _, _, _, .var h => by have := nm_len h; rw [zcv]; omega
 | _, _, _, .call0 h => by have := nm_len h; rw [zcv]; simp only [List.length_append, List.length_cons, List.length_nil]; omega
 | _, _, _, .call h he hl => by
   have a := nm_len h
   have b := zcY he
   have c := trs_len2 hl
   simp only [Ex.wt, Ex.wts, List.length_append, List.length_cons, List.length_nil]
   omega
 | _, _, _, .un ho hk => by
   have a := un_len ho
   have b := zcY hk
   rw [zhL]
   simp only [List.length_append, List.length_cons, List.length_nil]
   omega
 | _, _, _, .whn h hk => by
   have a := nm_len h
   have b := zcY hk
   rw [zhL]
   simp only [List.length_append, List.length_cons, List.length_nil, show sWhen.length = 4 from rfl]
   omega
 | _, _, _, .whnot h hk => by
   have a := nm_len h
   have b := zcY hk
   rw [zhL]
   simp only [List.length_append, List.length_cons, List.length_nil, show sWhen.length = 4 from rfl, show sNot.length = 3 from rfl]
   omega
 | _, _, _, .ite ha hb hc => by
   have a := zcY ha
   have b := zcY hb
   have c := zcY hc
   simp only [Ex.wt, Ex.wts, List.length_append, List.length_cons, List.length_nil, show sIf.length = 2 from rfl, show sThen.length = 4 from rfl, show sElse.length = 4 from rfl]
   omega
 | _, _, _, .merge h ha hb => by
   have n := nm_len h
   have a := trp_len ha
   have b := trp_len hb
   rw [zgs]
   simp only [List.length_append, List.length_cons, List.length_nil, show sMerge.length = 5 from rfl]
   omega
 | _, _, _, .bin ho ha hb => by
   have n := op_len ho
   have a := zcY ha
   have b := zcY hb
   rw [zgs]
   simp only [List.length_append, List.length_cons, List.length_nil]
   omega
theorem trs_len2 : ∀ {l : List Ex} {w : List Wd} {t : Bs}, Trs l w t -> t.length <= 64 * Ex.wts l
 | _, _, _, .nil => Nat.zero_le _
 | _, _, _, .cons he hl => by
   have a := zcY he
   have b := trs_len2 hl
   simp only [Ex.wts, List.length_append, List.length_cons]
   omega
theorem trp_len : ∀ {e : Ex} {w : List Wd} {t : Bs}, Trp e w t -> t.length + 2 <= 64 * e.wt
 | _, _, _, .var h => by have := nm_len h; rw [zcv]; simp only [List.length_append, List.length_cons, List.length_nil]; omega
 | _, _, _, .of _ h => zcY h
end
variable {W : Ws}
theorem name_wt {s : St} (h : (name W s).2.err = 0) : 1 + nu W (name W s).2 <= nu W s := by
 obtain ⟨h1, h2, h3⟩ := zem h
 have : (name W s).2.i = s.i + 1 := by
  unfold name
  simp only [h2, if_true, h1]
 have := zjr (W := W) (s := s) (s' := (name W s).2) (by rw [h2]; decide) this
 omega
theorem want1_wt {s : St} {t : Bs} (h : (want1 W s t).err = 0) : 1 + nu W (want1 W s t) <= nu W s := by
 cases hi : Syn.is W s t with
 | true =>
   have e : want1 W s t = { s with i := s.i + 1 } := by unfold want1; rw [hi]; rfl
   rw [e]
   have := zjr (W := W) (s := s) (s' := { s with i := s.i + 1 }) (is_nz hi) rfl
   omega
 | false =>
   exfalso
   have e : want1 W s t = fail W 7 s := by unfold want1; rw [hi]; rfl
   rw [e] at h
   by_cases q : s.err = 0
   · rw [fail_err q] at h; exact absurd h (by decide)
   · rw [zbX q] at h; exact q h
theorem zjq : ∀ (ts : List Bs) (s : St), nu W (want W s ts) <= nu W s
 | [], s => Nat.le_refl _
 | t :: ts, s => Nat.le_trans (zjq ts (want1 W s t)) (zbc s t)
theorem zfP {s : St} (h : (declared W s).2.err = 0) : 1 + nu W (declared W s).2 <= nu W s := by
 unfold declared at h ⊢
 simp only at h ⊢
 generalize hs1 : (if (at_ W s).2.kind = 1 then (if 64 < wrap (s.names + 1) then fail W 2 { s with names := wrap (s.names + 1) } else { s with names := wrap (s.names + 1) }) else s) = s1 at h ⊢
 have h1 : s1.i = s.i := by
  rw [<- hs1]
  split
  · split
    · exact zeq _ _
    · rfl
  · rfl
 have a := name_wt h
 have b : nu W s1 <= nu W s := nu_le (by omega)
 show 1 + nu W (name W s1).2 <= nu W s
 omega
theorem declL_wt : ∀ (k : Nat) (l : List Va) (s : St), (declL W k l s).2.err = 0 -> (declL W k l s).1.length + nu W (declL W k l s).2 <= l.length + nu W s
 | 0, l, s, h => Nat.le_refl _
 | k + 1, l, s, h => by
   rw [declL] at h ⊢
   cases hq : Syn.is W s [44] with
   | false => exact Nat.le_refl _
   | true =>
     rw [hq, if_pos rfl] at h
     rw [if_pos rfl]
     simp only at h ⊢
     have h2 : (declared W { s with i := s.i + 1 }).2.err = 0 := by
      by_cases q : (declared W { s with i := s.i + 1 }).2.err = 0
      · exact q
      · rw [zc7 q] at h; exact h
     have a := zfP h2
     have b := declL_wt k _ _ h
     have c : nu W { s with i := s.i + 1 } <= nu W s := nu_le (Nat.le_succ _)
     simp only [List.length_append, List.length_singleton] at b
     omega
theorem zj6 {s : St} (h : (decl W s).2.err = 0) : (decl W s).1.length + nu W (decl W s).2 <= nu W s := by
 unfold decl at h ⊢
 simp only at h ⊢
 have key : (want1 W (declL W (W.length + 1) [(declared W s).1] (declared W s).2).2 [58]).err = 0 -> (declL W (W.length + 1) [(declared W s).1] (declared W s).2).1.length + nu W (want1 W (declL W (W.length + 1) [(declared W s).1] (declared W s).2).2 [58]) <= nu W s := by
  intro q
  have h1 := zax q
  have h2 : (declared W s).2.err = 0 := by
   by_cases q : (declared W s).2.err = 0
   · exact q
   · rw [zc7 q] at h1; exact h1
  have a := zfP h2
  have b := declL_wt _ _ _ h1
  have c := zbc (W := W) (declL W (W.length + 1) [(declared W s).1] (declared W s).2).2 [58]
  simp only [List.length_singleton] at b
  omega
 generalize want1 W (declL W (W.length + 1) [(declared W s).1] (declared W s).2).2 [58] = s2 at *
 generalize (declL W (W.length + 1) [(declared W s).1] (declared W s).2).1 = l at *
 have c : nu W { s2 with i := s2.i + 1 } <= nu W s2 := nu_le (Nat.le_succ _)
 by_cases c1 : Syn.is W s2 [98, 111, 111, 108] = true
 · rw [if_pos c1]
   have := key (zcP c1).1
   show (l.map _).length + nu W { s2 with i := s2.i + 1 } <= _
   rw [List.length_map]
   omega
 rw [if_neg c1] at h ⊢
 by_cases c2 : Syn.is W s2 [105, 110, 116] = true
 · rw [if_pos c2]
   have := key (zcP c2).1
   show (l.map _).length + nu W { s2 with i := s2.i + 1 } <= _
   rw [List.length_map]
   omega
 rw [if_neg c2] at h
 exfalso
 have h : (fail W 7 s2).err = 0 := h
 by_cases q : s2.err = 0
 · rw [fail_err q] at h; exact absurd h (by decide)
 · rw [zbX q] at h; exact q h
theorem zi0 : ∀ (k : Nat) (l : List Va) (s : St), (declsL W k l s).2.err = 0 -> (declsL W k l s).1.length + nu W (declsL W k l s).2 <= l.length + nu W s
 | 0, l, s, h => Nat.le_refl _
 | k + 1, l, s, h => by
   rw [declsL] at h ⊢
   cases hq : Syn.is W s [59] with
   | false => exact Nat.le_refl _
   | true =>
     rw [hq, if_pos rfl] at h
     rw [if_pos rfl]
     simp only at h ⊢
     have h2 : (decl W { s with i := s.i + 1 }).2.err = 0 := by
      by_cases q : (decl W { s with i := s.i + 1 }).2.err = 0
      · exact q
      · rw [zbd q] at h; exact h
     have a := zj6 h2
     have b := zi0 k _ _ h
     have c : nu W { s with i := s.i + 1 } <= nu W s := nu_le (Nat.le_succ _)
     simp only [List.length_append] at b
     omega
theorem decls_wt {s : St} (h : (decls W s).2.err = 0) : (decls W s).1.length + nu W (decls W s).2 <= nu W s := by
 unfold decls at h ⊢
 by_cases c : Syn.kind W s ≠ 1
 · rw [if_pos c]; simp
 rw [if_neg c] at h ⊢
 simp only at h ⊢
 have h2 : (decl W s).2.err = 0 := by
  by_cases q : (decl W s).2.err = 0
  · exact q
  · rw [zbd q] at h; exact h
 have a := zj6 h2
 have b := zi0 _ _ _ h
 omega
theorem local_wt {s : St} (h : (local_ W s).2.err = 0) : (local_ W s).1.length + nu W (local_ W s).2 <= nu W s := by
 unfold local_ at h ⊢
 simp only at h ⊢
 have key : (decl W s).2.err = 0 -> (decl W s).1.length + nu W (decl W s).2 <= nu W s := zj6
 generalize decl W s = r at *
 cases hq : Syn.is W r.2 [119, 104, 101, 110] with
 | false =>
   rw [hq, if_neg (by decide)] at h
   rw [if_neg (by decide)]
   exact key h
 | true =>
   rw [hq, if_pos rfl] at h
   rw [if_pos rfl]
   have a := key (zcP hq).1
   have b := zhk (W := W) (take W { r.2 with i := r.2.i + 1 } [110, 111, 116]).2
   have c := zhj (W := W) { r.2 with i := r.2.i + 1 } [110, 111, 116]
   have d : nu W { r.2 with i := r.2.i + 1 } <= nu W r.2 := nu_le (Nat.le_succ _)
   show (r.1.map _).length + nu W (name W (take W { r.2 with i := r.2.i + 1 } [110, 111, 116]).2).2 <= _
   rw [List.length_map]
   omega
theorem zg5 : ∀ (k : Nat) (l : List Va) (s : St), (localsL W k l s).2.err = 0 -> (localsL W k l s).1.length + nu W (localsL W k l s).2 <= l.length + nu W s
 | 0, l, s, h => Nat.le_refl _
 | k + 1, l, s, h => by
   rw [localsL] at h ⊢
   by_cases c : s.err = 0 /\ Syn.kind W s = 1
   · rw [if_pos c] at h ⊢
     simp only at h ⊢
     have h2 : (want1 W (local_ W s).2 [59]).err = 0 := by
      by_cases q : (want1 W (local_ W s).2 [59]).err = 0
      · exact q
      · rw [zbk q] at h; exact h
     have a := local_wt (zax h2)
     have b := zg5 k _ _ h
     have c := zbc (W := W) (local_ W s).2 [59]
     simp only [List.length_append] at b
     omega
   · rw [if_neg c]; exact Nat.le_refl _
theorem locals_wt {s : St} (h : (locals_ W s).2.err = 0) : (locals_ W s).1.length + nu W (locals_ W s).2 <= nu W s := by
 unfold locals_ at h ⊢
 simp only at h ⊢
 have key : (if Syn.kind W s = 1 then local_ W s else ([], s)).2.err = 0 -> (if Syn.kind W s = 1 then local_ W s else ([], s)).1.length + nu W (if Syn.kind W s = 1 then local_ W s else ([], s)).2 <= nu W s := by
  split
  · exact local_wt
  · intro _; simp
 generalize (if Syn.kind W s = 1 then local_ W s else ([], s)) = r at *
 have h2 : (want1 W r.2 [59]).err = 0 := by
  by_cases q : (want1 W r.2 [59]).err = 0
  · exact q
  · rw [zbk q] at h; exact h
 have a := key (zax h2)
 have b := zg5 _ _ _ h
 have c := zbc (W := W) r.2 [59]
 omega
def eqsWt : List Eqn -> Nat
 | [] => 0
 | q :: l => (1 + q.e.wt) + eqsWt l
theorem zeV : ∀ a b : List Eqn, eqsWt (a ++ b) = eqsWt a + eqsWt b
 | [], b => by simp [eqsWt]
 | q :: a, b => by simp only [List.cons_append, eqsWt, zeV a b]; omega
theorem eqsL_wt : ∀ (k : Nat) (l : List Eqn) (s : St), (eqsL W k l s).2.err = 0 -> eqsWt (eqsL W k l s).1 + nu W (eqsL W k l s).2 <= eqsWt l + nu W s
 | 0, l, s, h => Nat.le_refl _
 | k + 1, l, s, h => by
   rw [eqsL] at h ⊢
   by_cases c : s.err = 0 /\ Syn.kind W s = 1
   · rw [if_pos c] at h ⊢
     simp only at h ⊢
     have key : (if (want1 W (name W s).2 [61]).err = 0 then (lv W 29).expr { want1 W (name W s).2 [61] with parts := 0 } else (.zero, { want1 W (name W s).2 [61] with parts := 0 })).2.err = 0 ->
       1 + (if (want1 W (name W s).2 [61]).err = 0 then (lv W 29).expr { want1 W (name W s).2 [61] with parts := 0 } else (.zero, { want1 W (name W s).2 [61] with parts := 0 })).1.wt + nu W (if (want1 W (name W s).2 [61]).err = 0 then (lv W 29).expr { want1 W (name W s).2 [61] with parts := 0 } else (.zero, { want1 W (name W s).2 [61] with parts := 0 })).2 <= nu W s := by
      by_cases q : (want1 W (name W s).2 [61]).err = 0
      · rw [if_pos q]
        intro q2
        have a := name_wt (zax q)
        have b := zbc (W := W) (name W s).2 [61]
        have c := ((lv_gw (W := W) 29).expr).ok _ q2
        have d : nu W { want1 W (name W s).2 [61] with parts := 0 } <= nu W (want1 W (name W s).2 [61]) := nu_le (Nat.le_refl _)
        omega
      · rw [if_neg q]
        intro q2
        exact absurd q2 q
     generalize (if (want1 W (name W s).2 [61]).err = 0 then (lv W 29).expr { want1 W (name W s).2 [61] with parts := 0 } else (.zero, { want1 W (name W s).2 [61] with parts := 0 })) = r at *
     have h2 : (want1 W r.2 [59]).err = 0 := by
      by_cases q : (want1 W r.2 [59]).err = 0
      · exact q
      · rw [zd5 q] at h; exact h
     have a := key (zax h2)
     have b := eqsL_wt k _ _ h
     have c := zbc (W := W) r.2 [59]
     rw [zeV] at b
     simp only [eqsWt] at b
     omega
   · rw [if_neg c]; exact Nat.le_refl _
def Nd.wt (n : Nd) : Nat := 1 + (n.ins.length + n.outs.length + n.locals.length + eqsWt n.eqs)
theorem node_wt {s : St} (h : (node W s).2.err = 0) : (node W s).1.wt + nu W (node W s).2 <= nu W s := by
 unfold node at h ⊢
 simp only at h ⊢
 have k0 : (want1 W { s with names := 0 } [110, 111, 100, 101]).err = 0 -> 1 + nu W (want1 W { s with names := 0 } [110, 111, 100, 101]) <= nu W s := fun q => by
  have a := want1_wt q
  have b : nu W { s with names := 0 } <= nu W s := nu_le (Nat.le_refl _)
  omega
 generalize want1 W { s with names := 0 } [110, 111, 100, 101] = s1 at *
 have k1 : (name W s1).2.err = 0 -> nu W (name W s1).2 <= nu W s1 /\ s1.err = 0 := fun q => ⟨zhk s1, (zem q).1⟩
 generalize name W s1 = r1 at *
 have k2 : (decls W (want1 W r1.2 [40])).2.err = 0 -> (decls W (want1 W r1.2 [40])).1.length + nu W (decls W (want1 W r1.2 [40])).2 <= nu W r1.2 /\ r1.2.err = 0 := fun q => ⟨by
  have a := decls_wt q
  have b := zbc (W := W) r1.2 [40]
  omega, by
  by_cases q1 : (want1 W r1.2 [40]).err = 0
  · exact zax q1
  · rw [zdo q1] at q; exact absurd q q1⟩
 generalize decls W (want1 W r1.2 [40]) = r2 at *
 have k3 : (decls W (want W r2.2 [[41], [114, 101, 116, 117, 114, 110, 115], [40]])).2.err = 0 -> (decls W (want W r2.2 [[41], [114, 101, 116, 117, 114, 110, 115], [40]])).1.length + nu W (decls W (want W r2.2 [[41], [114, 101, 116, 117, 114, 110, 115], [40]])).2 <= nu W r2.2 /\ r2.2.err = 0 := fun q => ⟨by
  have a := decls_wt q
  have b := zjq (W := W) [[41], [114, 101, 116, 117, 114, 110, 115], [40]] r2.2
  omega, by
  by_cases q1 : (want W r2.2 [[41], [114, 101, 116, 117, 114, 110, 115], [40]]).err = 0
  · exact zdz q1
  · rw [zdo q1] at q; exact absurd q q1⟩
 generalize decls W (want W r2.2 [[41], [114, 101, 116, 117, 114, 110, 115], [40]]) = r3 at *
 have k4 : (take W (want W r3.2 [[41], [59]]) [118, 97, 114]).2.err = 0 -> r3.2.err = 0 /\ nu W (take W (want W r3.2 [[41], [59]]) [118, 97, 114]).2 <= nu W r3.2 := fun q => by
  rw [zec] at q
  exact ⟨zdz q, Nat.le_trans (zhj _ _) (zjq _ _)⟩
 generalize take W (want W r3.2 [[41], [59]]) [118, 97, 114] = r4 at *
 have k5 : (if r4.1 = true then locals_ W r4.2 else ([], r4.2)).2.err = 0 -> (if r4.1 = true then locals_ W r4.2 else ([], r4.2)).1.length + nu W (if r4.1 = true then locals_ W r4.2 else ([], r4.2)).2 <= nu W r4.2 /\ r4.2.err = 0 := by
  split
  · intro q
    refine ⟨locals_wt q, ?_⟩
    by_cases q1 : r4.2.err = 0
    · exact q1
    · rw [zg4 q1] at q; exact q
  · intro q
    exact ⟨by simp, q⟩
 generalize (if r4.1 = true then locals_ W r4.2 else ([], r4.2)) = r5 at *
 have k6 : (eqsL W (W.length + 1) [] (want1 W r5.2 [108, 101, 116])).2.err = 0 -> eqsWt (eqsL W (W.length + 1) [] (want1 W r5.2 [108, 101, 116])).1 + nu W (eqsL W (W.length + 1) [] (want1 W r5.2 [108, 101, 116])).2 <= nu W r5.2 /\ r5.2.err = 0 := fun q => ⟨by
  have a := eqsL_wt _ _ _ q
  have b := zbc (W := W) r5.2 [108, 101, 116]
  simp only [eqsWt] at a
  omega, by
  by_cases q1 : (want1 W r5.2 [108, 101, 116]).err = 0
  · exact zax q1
  · rw [zd5 q1] at q; exact absurd q q1⟩
 generalize eqsL W (W.length + 1) [] (want1 W r5.2 [108, 101, 116]) = r6 at *
 have k7 : nu W (take W (want1 W r6.2 [116, 101, 108]) [59]).2 <= nu W r6.2 := Nat.le_trans (zhj _ _) (zbc _ _)
 rw [zec] at h
 have h6 := zax h
 obtain ⟨a6, h5⟩ := k6 h6
 obtain ⟨a5, h4⟩ := k5 h5
 obtain ⟨h3, a4⟩ := k4 h4
 obtain ⟨a3, h2⟩ := k3 h3
 obtain ⟨a2, h1⟩ := k2 h2
 obtain ⟨a1, h0⟩ := k1 h1
 have a0 := k0 h0
 simp only [Nd.wt]
 omega
def ndsWt : List Nd -> Nat
 | [] => 0
 | n :: l => n.wt + ndsWt l
theorem zeS : ∀ a b : List Nd, ndsWt (a ++ b) = ndsWt a + ndsWt b
 | [], b => by simp [ndsWt]
 | q :: a, b => by simp only [List.cons_append, ndsWt, zeS a b]; omega
theorem zie : ∀ (k : Nat) (l : List Nd) (s : St), (nodesL W k l s).2.err = 0 -> ndsWt (nodesL W k l s).1 + nu W (nodesL W k l s).2 <= ndsWt l + nu W s
 | 0, l, s, h => Nat.le_refl _
 | k + 1, l, s, h => by
   rw [nodesL] at h ⊢
   by_cases c : s.err = 0 /\ (l = [] \/ Syn.kind W s ≠ 0)
   · rw [if_pos c] at h ⊢
     by_cases c32 : l.length = 32
     · rw [if_pos c32] at h
       rw [fail_err c.1] at h
       exact absurd h (by decide)
     · rw [if_neg c32] at h ⊢
       have key : (node W s).2.err = 0 -> (node W s).1.wt + nu W (node W s).2 <= nu W s := node_wt
       generalize node W s = r at *
       have h : (nodesL W k (l ++ [r.1]) r.2).2.err = 0 := h
       show ndsWt (nodesL W k (l ++ [r.1]) r.2).1 + nu W (nodesL W k (l ++ [r.1]) r.2).2 <= _
       have h2 : r.2.err = 0 := by
        by_cases q : r.2.err = 0
        · exact q
        · have : nodesL W k (l ++ [r.1]) r.2 = (l ++ [r.1], r.2) := by
           cases k with
           | zero => rw [nodesL]
           | succ k => rw [nodesL, if_neg fun x => q x.1]
          rw [this] at h; exact h
       have a := key h2
       have b := zie k _ _ h
       rw [zeS] at b
       simp only [ndsWt] at b
       omega
   · rw [if_neg c]; exact Nat.le_refl _
theorem parse_wt {t : Bs} {l : List Nd} (h : parse t = .ok l) : ndsWt l <= 40000 := by
 unfold parse at h
 by_cases hb : 16384 < t.length
 · rw [if_pos hb] at h; simp at h
 rw [if_neg hb] at h
 cases hc : cutS t.length t with
 | error e => rw [hc] at h; simp at h
 | ok ls =>
   rw [hc] at h
   simp only at h
   have hlen := (zes _ _ (Nat.lt_succ_self _) _ hc).2.1
   have key := zie (W := ls ++ [(t.length, ⟨0, [], 0⟩)]) 33 [] ⟨0, 0, 0, 0, 0⟩
   have hn : nu (ls ++ [(t.length, ⟨0, [], 0⟩)]) ⟨0, 0, 0, 0, 0⟩ = ls.length + 1 := by simp [nu]
   rw [hn] at key
   generalize nodesL (ls ++ [(t.length, ⟨0, [], 0⟩)]) 33 [] ⟨0, 0, 0, 0, 0⟩ = r at *
   by_cases he : r.2.err = 0
   · rw [if_pos he] at h
     simp only [Except.ok.injEq] at h
     subst h
     have := key he
     simp only [ndsWt] at this
     omega
   · rw [if_neg he] at h; simp at h
/-! The texts' lengths -/
theorem vl_tlen {v : Va} (h : WfL v) : (vT v).length <= 64 := by
 obtain ⟨w, h⟩ := h
 have key : ∀ {nm : Bs} {k pos : Nat} {w : List Wd}, Vd ⟨nm, k, [], false, pos⟩ w -> nm.length <= 24 /\ (k = 1 \/ k = 2) := by
  intro nm k pos w h
  cases h with
  | bool h => exact ⟨nm_len h, .inl rfl⟩
  | int h => exact ⟨nm_len h, .inr rfl⟩
 cases h with
 | no h =>
   have : ∃ nm k pos, v = ⟨nm, k, [], false, pos⟩ := by cases h <;> exact ⟨_, _, _, rfl⟩
   obtain ⟨nm, k, pos, rfl⟩ := this
   obtain ⟨a, b⟩ := key h
   rcases b with rfl | rfl <;> simp [vT, sBool, sInt] <;> omega
 | on h ho =>
   obtain ⟨a, b⟩ := key h
   have c := nm_len ho
   rcases b with rfl | rfl <;> simp [vT, sBool, sInt, sWhen, wok_ne ho] <;> omega
 | off h ho =>
   obtain ⟨a, b⟩ := key h
   have c := nm_len ho
   rcases b with rfl | rfl <;> simp [vT, sBool, sInt, sWhen, sNot, wok_ne ho] <;> omega
theorem wfV_L {v : Va} (h : WfV v) : WfL v := by
 obtain ⟨w, h⟩ := h
 exact ⟨_, .no h⟩
theorem vs_tlen : ∀ {l : List Va}, (∀ v ∈ l, WfL v) -> (vsT l).length <= 70 * l.length
 | [], _ => Nat.le_refl _
 | [v], h => by have := vl_tlen (h v (by simp)); simp only [vsT, List.length_singleton]; omega
 | v :: w :: l, h => by
   have a := vl_tlen (h v (by simp))
   have b := vs_tlen (l := w :: l) fun x hx => h x (List.mem_cons_of_mem _ hx)
   simp only [vsT, List.length_append, List.length_cons] at b ⊢
   omega
theorem head_tlen {n : Nd} (h : WfN n) : (headT n).length <= 70 + 70 * (n.ins.length + n.outs.length + n.locals.length) := by
 have a := nm_len h.name
 have b := vs_tlen fun v hv => wfV_L (h.ins v hv)
 have c := vs_tlen fun v hv => wfV_L (h.outs v hv)
 have d := vs_tlen h.locals
 unfold headT
 split
 · simp [sNode, sReturns, sLet]
   omega
 · simp [sNode, sReturns, sLet, sVar]
   omega
def sepC : List Bs -> Bs
 | [] => []
 | t :: l => 44 :: 32 :: (t ++ sepC l)
def joinC : List Bs -> Bs
 | [] => []
 | t :: l => t ++ sepC l
def txO (op nm : Bs) (n : Nat) (l p : List Bs) : Bs :=
 if op = sInt then dec n else
 if op = sBool then (if n = 0 then sFalse else sTrue) else
 if op = sVar then nm else
 if op = sCall then nm ++ (40 :: (joinC l ++ [41])) else
 if op = sWhen then (match l with | [t] => 40 :: (t ++ (32 :: (sWhen ++ (32 :: ((if n = 0 then sNot ++ [32] else []) ++ (nm ++ [41])))))) | _ => []) else
 if op = sIf then (match l with | [ta, tb, tc] => 40 :: (sIf ++ (32 :: (ta ++ (32 :: (sThen ++ (32 :: (tb ++ (32 :: (sElse ++ (32 :: (tc ++ [41])))))))))))  | _ => []) else
 if op = sMerge then (match p with | [ta, tb] => 40 :: (sMerge ++ (32 :: (nm ++ (32 :: (ta ++ (32 :: (tb ++ [41]))))))) | _ => []) else
 match l with
 | [t] => 40 :: ((if op = sNeg then [45] else op) ++ (32 :: (t ++ [41])))
 | [ta, tb] => 40 :: (ta ++ (32 :: (op ++ (32 :: (tb ++ [41])))))
 | _ => []
def Ex.op : Ex -> Bs
 | .mk op _ _ _ _ => op
mutual
def tx : Ex -> Bs
 | .mk op nm n _ ks => txO op nm n (txs ks) (txps ks)
def txs : List Ex -> List Bs
 | [] => []
 | e :: l => tx e :: txs l
def txps : List Ex -> List Bs
 | [] => []
 | e :: l => (if e.op = sVar then 40 :: (tx e ++ [41]) else tx e) :: txps l
end
theorem er_op (e : Ex) : e.er.op = e.op := by cases e; simp [Ex.er, Ex.op]
mutual
theorem tx_er : ∀ e : Ex, tx e.er = tx e
 | .mk op nm n pos ks => by
   rw [Ex.er, tx, tx, txs_er ks, txps_er ks]
theorem txs_er : ∀ l : List Ex, txs (Ex.ers l) = txs l
 | [] => rfl
 | e :: l => by rw [Ex.ers, txs, txs, tx_er e, txs_er l]
theorem txps_er : ∀ l : List Ex, txps (Ex.ers l) = txps l
 | [] => rfl
 | e :: l => by rw [Ex.ers, txps, txps, tx_er e, txps_er l, er_op]
end
theorem ops_key {o : Wd} (h : o ∈ opsW) : o.text ≠ sInt /\ o.text ≠ sBool /\ o.text ≠ sVar /\ o.text ≠ sCall /\ o.text ≠ sWhen /\ o.text ≠ sIf /\ o.text ≠ sMerge := (by decide +kernel : ∀ o ∈ opsW, o.text ≠ sInt /\ o.text ≠ sBool /\ o.text ≠ sVar /\ o.text ≠ sCall /\ o.text ≠ sWhen /\ o.text ≠ sIf /\ o.text ≠ sMerge) o h
mutual
theorem tr_tx : ∀ {e : Ex} {w : List Wd} {t : Bs}, Tr e w t -> t = tx e
 | _, _, _, .int h => by simp [tx, txO]
 | _, _, _, .tt => by rw [tx]; rfl
 | _, _, _, .ff => by rw [tx]; rfl
 | _, _, _, .var h => by rw [tx]; rfl
 | _, _, _, .call0 h => by rw [tx, txs, txps]; rfl
 | _, _, _, @Tr.call nm pos e l w ws t ts h he hl => by
   have h1 := tr_tx he
   have h2 := trs_tx hl
   subst h1
   subst h2
   rw [tx, txs]
   show nm ++ (40 :: (tx e ++ (sepC (txs l) ++ [41]))) = nm ++ (40 :: (joinC (tx e :: txs l) ++ [41]))
   rw [joinC, List.append_assoc]
 | _, _, _, @Tr.un op o pos k w t ho hk => by
   have h := tr_tx hk
   subst h
   rw [tx, txs, txs, txps, txps]
   simp only [unsW, List.mem_cons, Prod.mk.injEq, List.not_mem_nil, or_false] at ho
   rcases ho with ⟨rfl, rfl⟩ | ⟨rfl, rfl⟩ | ⟨rfl, rfl⟩ <;> rfl
 | _, _, _, .whn h hk => by
   rw [tx, txs, txs, <- tr_tx hk]; rfl
 | _, _, _, .whnot h hk => by
   rw [tx, txs, txs, <- tr_tx hk]; rfl
 | _, _, _, .ite ha hb hc => by
   rw [tx, txs, txs, txs, txs, <- tr_tx ha, <- tr_tx hb, <- tr_tx hc]; rfl
 | _, _, _, .merge h ha hb => by
   rw [tx, txps, txps, txps, <- trp_tx ha, <- trp_tx hb]; rfl
 | _, _, _, @Tr.bin o pos a b u v ta tb ho ha hb => by
   obtain ⟨h1, h2, h3, h4, h5, h6, h7⟩ := ops_key ho
   rw [tx, txs, txs, txs, txps, txps, txps, <- tr_tx ha, <- tr_tx hb, txO, if_neg h1, if_neg h2, if_neg h3, if_neg h4, if_neg h5, if_neg h6, if_neg h7]
theorem trs_tx : ∀ {l : List Ex} {w : List Wd} {t : Bs}, Trs l w t -> t = sepC (txs l)
 | _, _, _, .nil => rfl
 | _, _, _, .cons he hl => by rw [txs, sepC, <- tr_tx he, <- trs_tx hl]
theorem trp_tx : ∀ {e : Ex} {w : List Wd} {t : Bs}, Trp e w t -> t = (if e.op = sVar then 40 :: (tx e ++ [41]) else tx e)
 | _, _, _, .var h => by rw [tx]; rfl
 | _, _, _, @Trp.of op nm n pos ks w t hn h => by
   rw [if_neg (show ¬ (Ex.mk op nm n pos ks).op = sVar from hn)]; exact tr_tx h
end
theorem vT_er (v : Va) : vT v.er = vT v := rfl
theorem vsT_er : ∀ l : List Va, vsT (l.map Va.er) = vsT l
 | [] => rfl
 | [v] => rfl
 | v :: w :: l => by
   have := vsT_er (w :: l)
   rw [List.map_cons] at this
   rw [List.map_cons, List.map_cons, vsT, vsT, this, vT_er]
theorem headT_er (n : Nd) : headT n.er = headT n := by
 obtain ⟨nm, a, b, c, d, e⟩ := n
 simp only [headT, Nd.er, vsT_er, List.map_eq_nil_iff]
def eqT (q : Eqn) : Bs := 32 :: 32 :: (q.name ++ (32 :: 61 :: 32 :: (tx q.e ++ [59, 10])))
def eqsT : List Eqn -> Bs
 | [] => []
 | q :: l => eqT q ++ eqsT l
def ndT (n : Nd) : Bs := headT n ++ (eqsT n.eqs ++ (sTel ++ [59, 10]))
def showT : List Nd -> Bs
 | [] => []
 | n :: l => ndT n ++ showT l
theorem zdQ : ∀ a b : List Eqn, eqsT (a ++ b) = eqsT a ++ eqsT b
 | [], b => rfl
 | q :: a, b => by rw [List.cons_append, eqsT, eqsT, zdQ a b, List.append_assoc]
theorem zdg : ∀ a b : List Nd, showT (a ++ b) = showT a ++ showT b
 | [], b => rfl
 | q :: a, b => by rw [List.cons_append, showT, showT, zdg a b, List.append_assoc]
theorem eqsT_er : ∀ l : List Eqn, eqsT (l.map Eqn.er) = eqsT l
 | [] => rfl
 | q :: l => by
   rw [List.map_cons, eqsT, eqsT, eqsT_er l]
   simp only [eqT, Eqn.er, tx_er]
theorem ndT_er (n : Nd) : ndT n.er = ndT n := by
 have h : n.er.eqs = n.eqs.map Eqn.er := rfl
 rw [ndT, ndT, headT_er, h, eqsT_er]
theorem zhg : ∀ l : List Nd, showT (l.map Nd.er) = showT l
 | [] => rfl
 | n :: l => by rw [List.map_cons, showT, showT, zhg l, ndT_er]
theorem zei {n : Nat} : ∀ (l : List Eqn), (∀ q ∈ l, WfQ q) -> ∃ we, Es l we /\ ∀ {q : Bs} {L : List Wd}, Cuts n q L -> Cuts n (eqsT l ++ q) (we ++ L)
 | [], _ => ⟨[], .nil, fun h => h⟩
 | ⟨nm, e, pos⟩ :: l, hw => by
   obtain ⟨h1, w, t, ht⟩ := hw ⟨nm, e, pos⟩ (by simp)
   obtain ⟨we, he, ce⟩ := zei (n := n) l fun q hq => hw q (by simp [hq])
   obtain rfl := tr_tx ht
   refine ⟨nmW nm :: eqs_ :: (w ++ (semi :: we)), .cons h1 (.inl ⟨_, ht⟩) he, fun {q L} h => ?_⟩
   have c0 : Cuts n (tx e ++ 59 :: 10 :: (eqsT l ++ q)) (w ++ (semi :: (we ++ L))) := zbJ ht 59 _ _ (by decide) (zc8 (zfT (ce h)))
   have c := (Cuts.wb (w := nmW nm) h1 (cuts_eq c0.blank)).blank.blank
   have e1 : eqsT (⟨nm, e, pos⟩ :: l) ++ q = 32 :: 32 :: ((nmW nm).text ++ 32 :: 61 :: 32 :: (tx e ++ 59 :: 10 :: (eqsT l ++ q))) := by
    simp [eqsT, eqT, nmW]
   have e2 : nmW nm :: eqs_ :: (w ++ (semi :: we)) ++ L = nmW nm :: eqs_ :: (w ++ (semi :: (we ++ L))) := by simp
   rw [e1, e2]
   exact c
theorem zhU {n : Nat} : ∀ (l : List Nd), (∀ d ∈ l, WfN d) -> ∃ w, Ns l w /\ Cuts n (showT l) w
 | [], _ => ⟨[], .nil, Cuts.nil⟩
 | d :: l, hw => by
   obtain ⟨w, h1, c1⟩ := zhU (n := n) l fun q hq => hw q (by simp [hq])
   have hd := hw d (by simp)
   obtain ⟨we, he, ce⟩ := zei (n := n) d.eqs hd.eqs
   obtain ⟨f, hf, cf⟩ := head_cuts (n := n) hd true
   refine ⟨f we ++ w, .cons (hf we he) h1, ?_⟩
   have c2 : Cuts n (sTel ++ 59 :: (10 :: showT l)) (kw sTel :: semi :: w) := Cuts.ws (w := kw sTel) (Wok.kw (by decide)) (by decide : (2 : Nat) ≠ 4) (by decide) (zc8 (zfT c1))
   have := cf (eqsT d.eqs) (sTel ++ 59 :: 10 :: showT l) we w (by simpa using ce c2)
   simpa [showT, ndT] using this
theorem show_back {t : Bs} {l : List Nd} (h : parse t = .ok l) : (∃ p, parse (showT l) = .error (2, p)) \/ ∃ l', parse (showT l) = .ok l' /\ l'.map Nd.er = l.map Nd.er /\ showT l' = showT l := by
 obtain ⟨h1, h2⟩ := parse_wf h
 obtain ⟨w, hn, hc⟩ := zhU (n := (showT l).length) l h2
 rcases parse_back hc hn h1 with h | ⟨l', h3, h4⟩
 · exact .inl h
 · exact .inr ⟨l', h3, h4, by rw [<- zhg l', h4, zhg]⟩
theorem eqT_len {q : Eqn} (h : WfQ q) : (eqT q).length <= 64 + 64 * q.e.wt := by
 obtain ⟨h1, w, t, ht⟩ := h
 have := zcY ht
 have := nm_len h1
 have h2 := tr_tx ht
 subst h2
 simp only [eqT, List.length_append, List.length_cons, List.length_nil]
 omega
theorem eqsT_len : ∀ {l : List Eqn}, (∀ q ∈ l, WfQ q) -> (eqsT l).length <= 128 * eqsWt l
 | [], _ => by simp [eqsT]
 | q :: l, h => by
   have h1 := eqT_len (h q (by simp))
   have h2 := eqsT_len (l := l) fun x hx => h x (by simp [hx])
   have h3 : 1 <= q.e.wt := by cases q.e; simp [Ex.wt]
   simp only [eqsT, eqsWt, List.length_append]
   omega
theorem ndT_len {n : Nd} (h : WfN n) : (ndT n).length <= 400 * n.wt := by
 have h1 := head_tlen h
 have h2 := eqsT_len h.eqs
 have h3 : sTel.length = 3 := rfl
 simp only [ndT, List.length_append, List.length_cons, List.length_nil, Nd.wt]
 omega
theorem showT_len : ∀ {l : List Nd}, (∀ q ∈ l, WfN q) -> (showT l).length <= 400 * ndsWt l
 | [], _ => by simp [showT]
 | q :: l, h => by
   have h1 := ndT_len (h q (by simp))
   have h2 := showT_len (l := l) fun x hx => h x (by simp [hx])
   simp only [showT, ndsWt, List.length_append]
   omega
theorem eqsT_take {l : List Eqn} {i : Nat} {q : Eqn} (h : l[i]? = some q) : eqsT (l.take (i + 1)) = eqsT (l.take i) ++ eqT q := by
 rw [List.take_add_one, h, zdQ]
 simp [eqsT]
theorem showT_take {l : List Nd} {i : Nat} {q : Nd} (h : l[i]? = some q) : showT (l.take (i + 1)) = showT (l.take i) ++ ndT q := by
 rw [List.take_add_one, h, zdg]
 simp [showT]
theorem eqsT_le (i : Nat) : ∀ (l : List Eqn), (eqsT (l.take i)).length <= (eqsT l).length := fun l => by
 have := zdQ (l.take i) (l.drop i)
 rw [List.take_append_drop] at this
 rw [this, List.length_append]
 omega
theorem showT_le (i : Nat) : ∀ (l : List Nd), (showT (l.take i)).length <= (showT l).length := fun l => by
 have := zdg (l.take i) (l.drop i)
 rw [List.take_append_drop] at this
 rw [this, List.length_append]
 omega
end Go.Syn
namespace Go.Abs
open Go Go.ChangeShapes
def zdc (P : Program) : List Field -> Nat -> Option Nat
 | [], o => some o
 | f :: r, o => if f.offset = o then zdc P r (o + P.cellsOf f.type) else none
def zbM (P : Program) : Nat -> TypeId -> Bool
 | 0, _ => false
 | n + 1, t => match P.underlying t with
   | some .bool => P.cellsOf t == 1
   | some (.int _) => P.cellsOf t == 1
   | some .string => P.cellsOf t == 1
   | some (.slice e) => P.cellsOf t == 1 && decide (0 < P.cellsOf e) && zbM P n e
   | some (.struct fs) => (zdc P fs.toList 0 == some (P.cellsOf t)) && fs.toList.all fun f => zbM P n f.type
   | _ => false
def Shp (P : Program) : Nat -> TypeId -> List AV -> Prop
 | 0, _, _ => False
 | n + 1, t, as_ => match P.underlying t with
   | some .bool => ∃ b, as_ = [.bool b]
   | some (.int k) => ∃ m, as_ = [.int k m] /\ (Lit.int k m).wf = true
   | some .string => ∃ s, as_ = [.str s] /\ s.length <= maxLen
   | some (.slice e) => as_ = [.nilsl] \/ ∃ es : List (List AV), as_ = [.vsl es.flatten es.length] /\ es.length <= maxLen /\ ∀ x ∈ es, Shp P n e x
   | some (.struct fs) => ∃ xs : List (List AV), as_ = xs.flatten /\ xs.length = fs.toList.length /\ ∀ (i : Nat) (f : Field) (x : List AV), fs.toList[i]? = some f -> xs[i]? = some x -> Shp P n f.type x
   | _ => False
theorem Shp.length {P : Program} : ∀ {n : Nat} {t : TypeId} {as_ : List AV}, zbM P n t = true -> Shp P n t as_ -> as_.length = P.cellsOf t
 | 0, _, _, h, _ => by simp [zbM] at h
 | n + 1, t, as_, h, hs => by
   unfold zbM at h
   unfold Shp at hs
   split at h
   · rename_i hu; rw [hu] at hs; obtain ⟨b, rfl⟩ := hs; simp at h; simp [h]
   · rename_i hu; rw [hu] at hs; obtain ⟨m, rfl, _⟩ := hs; simp at h; simp [h]
   · rename_i hu; rw [hu] at hs; obtain ⟨m, rfl, _⟩ := hs; simp at h; simp [h]
   · rename_i hu; rw [hu] at hs
     simp only [Bool.and_eq_true, beq_iff_eq] at h
     rcases hs with rfl | ⟨es, rfl, _⟩ <;> simp [h.1.1]
   · rename_i fs hu
     rw [hu] at hs
     simp only [Bool.and_eq_true, beq_iff_eq] at h
     obtain ⟨xs, rfl, hl, hx⟩ := hs
     have key : ∀ (l : List Field) (xs : List (List AV)) (o e : Nat), xs.length = l.length -> (∀ (i : Nat) (f : Field) (x : List AV), l[i]? = some f -> xs[i]? = some x -> x.length = P.cellsOf f.type) -> zdc P l o = some e -> o + xs.flatten.length = e := by
      intro l
      induction l with
      | nil => intro xs o e hxl _ hc; simp at hxl; subst hxl; simpa [zdc] using hc
      | cons f l ih =>
        intro xs o e hxl hx hc
        cases xs with
        | nil => simp at hxl
        | cons x xs =>
          simp only [zdc] at hc
          split at hc <;> try (simp at hc; done)
          have := ih xs _ _ (by simpa using hxl) (fun i f x hf hx' => hx (i + 1) f x (by simpa using hf) (by simpa using hx')) hc
          have h0 := hx 0 f x rfl rfl
          simp only [List.flatten_cons, List.length_append]
          omega
     have := key fs.toList xs 0 _ hl (fun i f x hf hx' => by
      have h2 := h.2
      rw [List.all_eq_true] at h2
      exact Shp.length (h2 f (List.mem_of_getElem? hf)) (hx i f x hf hx')) h.1
     omega
   · simp at h
theorem VRels.blocks {E : Env} {z : Nat} : ∀ (es : List (List AV)) (L : List Value), (∀ (i : Nat) (x : List AV), es[i]? = some x -> VRels E x ((L.drop (i * z)).take z)) -> VRels E es.flatten (L.take (es.length * z))
 | [], L, _ => by simpa using VRels.nil
 | x :: es, L, h => by
   have h0 := h 0 x rfl
   simp only [Nat.zero_mul, List.drop_zero] at h0
   have ih := VRels.blocks (z := z) es (L.drop z) fun i y hy => by
    have := h (i + 1) y (by simpa using hy)
    rw [List.drop_drop]
    have e : z + i * z = (i + 1) * z := by rw [Nat.add_mul]; omega
    rw [e]; exact this
   have e : L.take ((x :: es).length * z) = L.take z ++ (L.drop z).take (es.length * z) := by
    rw [<- List.take_add]
    congr 1
    simp only [List.length_cons, Nat.add_mul]; omega
   rw [e, List.flatten_cons]
   exact h0.append ih
theorem zi6 {P : Program} : ∀ {l : List Field} {o e : Nat}, zdc P l o = some e -> o <= e
 | [], o, e, h => by simp [zdc] at h; omega
 | f :: l, o, e, h => by
   simp only [zdc] at h
   split at h <;> try (simp at h; done)
   have := zi6 h
   omega
theorem VRels.fields {P : Program} {E : Env} {cs : List Value} : ∀ (l : List Field) (xs : List (List AV)) (o e : Nat), zdc P l o = some e -> xs.length = l.length -> (∀ (i : Nat) (f : Field) (x : List AV), l[i]? = some f -> xs[i]? = some x -> VRels E x ((cs.drop f.offset).take (P.cellsOf f.type))) -> VRels E xs.flatten ((cs.drop o).take (e - o))
 | [], xs, o, e, hc, hl, _ => by
   simp at hl; subst hl
   simp [zdc] at hc; subst hc
   simpa using VRels.nil
 | f :: l, [], o, e, _, hl, _ => by simp at hl
 | f :: l, x :: xs, o, e, hc, hl, h => by
   simp only [zdc] at hc
   split at hc <;> try (simp at hc; done)
   rename_i ho
   have hle := zi6 hc
   have h0 := h 0 f x rfl rfl
   rw [ho] at h0
   have ih := VRels.fields l xs _ e hc (by simpa using hl) fun i f x hf hx => h (i + 1) f x (by simpa using hf) (by simpa using hx)
   have e1 : (cs.drop o).take (e - o) = (cs.drop o).take (P.cellsOf f.type) ++ (cs.drop (o + P.cellsOf f.type)).take (e - (o + P.cellsOf f.type)) := by
    rw [<- List.drop_drop, <- List.take_add]
    congr 1; omega
   rw [e1, List.flatten_cons]
   exact h0.append ih
theorem zfN {α : Type} {n : Nat} {Q : Nat -> α -> Prop} (h : ∀ i, i < n -> ∃ y, Q i y) : ∃ l : List α, l.length = n /\ ∀ (i : Nat) (x : α), l[i]? = some x -> Q i x := by
 induction n with
 | zero => exact ⟨[], rfl, fun i x h => by simp at h⟩
 | succ n ih =>
   obtain ⟨l, h1, h2⟩ := ih fun i hi => h i (by omega)
   obtain ⟨y, hy⟩ := h n (by omega)
   refine ⟨l ++ [y], by simp [h1], fun i x hx => ?_⟩
   rcases Nat.lt_or_ge i l.length with g | g
   · rw [List.getElem?_append_left g] at hx; exact h2 i x hx
   · rw [List.getElem?_append_right g] at hx
     have : i - l.length = 0 := by
      rcases Nat.eq_zero_or_pos (i - l.length) with e | e
      · exact e
      · rw [List.getElem?_eq_none (by simp; omega)] at hx; simp at hx
     have hin : i = n := by omega
     rw [this] at hx
     simp at hx; subst hx
     rw [hin]; exact hy
section
variable {H : Type} {enc : TypeId × Value -> H} {P : Program} {w : World} {base : Nat} {held : Bool}
theorem ze6 : ∀ {n : Nat} {t : TypeId} {fuel : Nat} {cs : List Value} {x : DataW H × List MemPlace}, zbM P n t = true -> DataW.trod enc P w base (fun _ => true) held fuel t cs = some x -> ∃ as_, VRels (Env.start w) as_ cs /\ Shp P n t as_
 | 0, _, _, _, _, h, _ => by simp [zbM] at h
 | n + 1, t, fuel, cs, x, h, hx => by
   have h0 := h
   unfold zbM at h
   split at h <;> rename_i hu
   · obtain ⟨b, rfl, _⟩ := DataW.trod_bool hu hx
     exact ⟨[.bool b], .cons (.bool b) .nil, by unfold Shp; rw [hu]; exact ⟨b, rfl⟩⟩
   · obtain ⟨m, rfl, _, hwf⟩ := DataW.trod_int hu hx
     exact ⟨[.int _ m], .cons (.int _ m) .nil, by unfold Shp; rw [hu]; exact ⟨m, rfl, hwf⟩⟩
   · obtain ⟨s, rfl, _, hs⟩ := DataW.trod_string hu hx
     refine ⟨[.str s.data.toList], .cons ?_ .nil, by unfold Shp; rw [hu]; exact ⟨_, rfl, by simpa using hs⟩⟩
     have := VRel.str (E := Env.start w) s.data.toList
     simpa using this
   · rename_i e
     simp only [Bool.and_eq_true, beq_iff_eq, decide_eq_true_eq] at h
     obtain ⟨⟨_, hz⟩, he⟩ := h
     rcases DataW.trod_slice hu hx with ⟨rfl, _⟩ | ⟨a, len, cap, elems, rest, m, _, rfl, _, _, hl, hm, hlen, hel, hsp, _⟩
     · exact ⟨[.nilsl], .cons .nilsl .nil, by unfold Shp; rw [hu]; exact .inl rfl⟩
     · have hq : ∀ i, i < len -> ∃ as_ : List AV, ∃ ci, w.cells? base (a.add (i * P.cellsOf e)) (P.cellsOf e) = some ci /\ VRels (Env.start w) as_ ci /\ Shp P n e as_ := by
        intro i hi
        have h1 := hel i hi
        rw [List.getElem?_eq_getElem (by omega)] at h1
        cases hc : w.cells? base (a.add (i * P.cellsOf e)) (P.cellsOf e) with
        | none => rw [hc] at h1; simp at h1
        | some ci =>
          rw [hc] at h1
          obtain ⟨as_, h2, h3⟩ := ze6 he h1
          exact ⟨as_, ci, rfl, h2, h3⟩
       obtain ⟨es, hes, hq⟩ := zfN hq
       have hshp : Shp P (n + 1) t [.vsl es.flatten es.length] := by
        unfold Shp; rw [hu]
        refine .inr ⟨es, rfl, by omega, fun x hx => ?_⟩
        obtain ⟨i, hi⟩ := List.getElem?_of_mem hx
        obtain ⟨_, _, _, h3⟩ := hq i x hi
        exact h3
       refine ⟨_, ?_, hshp⟩
       by_cases hcap : cap = 0
       · have : len = 0 := by omega
         subst hcap; subst this
         have : es = [] := List.eq_nil_of_length_eq_zero hes
         subst this
         exact .cons .vsl0 .nil
       · -- a cell is there, so the address is a plain one
         have hspot : a.spot = none := by
          have key : ∀ ci, w.cells? base (a.add 0) (P.cellsOf e) = some ci -> a.spot = none := by
           intro ci hc
           obtain ⟨_, h1, h2⟩ := World.cells?_some hc
           have h3 := h2 0 hz
           rw [List.getElem?_eq_getElem (by omega)] at h3
           have e0 : (a.add 0).add 0 = a := by simp [Addr.add]
           rw [e0] at h3
           unfold World.cell? at h3
           split at h3
           · split at h3
             · simp at h3
             · rename_i hsn; simpa using hsn
           · simp at h3
          by_cases h1 : 0 < len
          · have h2 := hel 0 h1
            rw [List.getElem?_eq_getElem (by omega), Nat.zero_mul] at h2
            cases hc : w.cells? base (a.add 0) (P.cellsOf e) with
            | none => rw [hc] at h2; simp at h2
            | some ci => exact key ci hc
          · have h2 := (hsp rfl).2 0 (by omega)
            have hr := (hsp rfl).1
            have hl0 : len = 0 := by omega
            rw [hl0] at h2
            rw [List.getElem?_eq_getElem (by omega)] at h2
            simp only [Nat.add_zero, Nat.zero_mul] at h2
            cases hc : w.cells? base (a.add 0) (P.cellsOf e) with
            | none => rw [hc] at h2; simp at h2
            | some ci => exact key ci hc
         obtain ⟨B, o, sp⟩ := a
         simp only at hspot
         subst hspot
         refine .cons ?_ .nil
         rw [hes]
         by_cases hl0 : len = 0
         · subst hl0
           have : es = [] := List.eq_nil_of_length_eq_zero hes
           subst this
           exact .vsl InK.nil .nil (Nat.zero_le _)
         · have hadd : ∀ k, (Addr.mk B o none).add k = ⟨B, o + k, none⟩ := fun k => by
            unfold Addr.add
            split
            · rename_i h; subst h; rfl
            · rfl
           -- the block
           obtain ⟨x0, hx0⟩ : ∃ x0, es[0]? = some x0 := ⟨es[0]'(by omega), List.getElem?_eq_getElem (by omega)⟩
           obtain ⟨c0, hc0, _, _⟩ := hq 0 x0 hx0
           obtain ⟨_, hcl0, hce0⟩ := World.cells?_some hc0
           have hce := hce0 0 hz
           rw [List.getElem?_eq_getElem (by omega)] at hce
           have hblk : ∃ c e f, w.heap[B]? = some (.cells c e f) := by
            rw [Nat.zero_mul, hadd] at hce
            unfold World.cell? at hce
            have e0 : (Addr.add ⟨B, o + 0, none⟩ 0).block = B := by simp [Addr.add]
            rw [e0] at hce
            split at hce
            · rename_i c e f hh; exact ⟨c, e, f, hh⟩
            · simp at hce
           obtain ⟨c, ce, cf, hh⟩ := hblk
           have hcell : ∀ k, w.cell? ⟨B, o + k, none⟩ = c[o + k]? := fun k => by
            unfold World.cell?; simp [hh]
           have hb : VRels (Env.start w) es.flatten ((c.toList.drop o).take (es.length * P.cellsOf e)) := VRels.blocks es (c.toList.drop o) fun i x hi => by
            obtain ⟨ci, hci, hv, _⟩ := hq i x hi
            obtain ⟨_, hcl, hcc⟩ := World.cells?_some hci
            have : ci = ((c.toList.drop o).drop (i * P.cellsOf e)).take (P.cellsOf e) := by
             apply List.ext_getElem?
             intro j
             by_cases hj : j < P.cellsOf e
             · rw [<- hcc j hj, hadd]
               have e1 : (Addr.mk B (o + i * P.cellsOf e) none).add j = ⟨B, o + (i * P.cellsOf e + j), none⟩ := by
                unfold Addr.add
                split
                · rename_i h; subst h; rfl
                · simp [Nat.add_assoc]
               rw [e1, hcell]
               simp only [List.getElem?_take, if_pos hj, List.getElem?_drop, Array.getElem?_toList]
             · rw [List.getElem?_eq_none (by omega), List.getElem?_take, if_neg hj]
            rw [<- this]; exact hv
           exact .vsl (.inr ⟨c, ce, cf, hh, List.take_prefix _ _⟩) hb hl
   · rename_i fs
     simp only [Bool.and_eq_true, beq_iff_eq] at h
     obtain ⟨hc, hall⟩ := h
     rw [List.all_eq_true] at hall
     obtain ⟨xs, m, _, _, hcl, hxl, hf⟩ := DataW.trod_struct hu hx
     have hq : ∀ i, i < fs.size -> ∃ as_ : List AV, ∀ f, fs.toList[i]? = some f -> VRels (Env.start w) as_ ((cs.drop f.offset).take (P.cellsOf f.type)) /\ Shp P n f.type as_ := by
      intro i hi
      have hfi : fs[i]? = some fs[i] := Array.getElem?_eq_getElem hi
      have h1 := hf i _ hfi
      rw [List.getElem?_eq_getElem (by omega)] at h1
      obtain ⟨as_, h2, h3⟩ := ze6 (hall _ (by simp)) h1
      refine ⟨as_, fun f hf' => ?_⟩
      have : fs[i]? = some f := by simpa using hf'
      rw [hfi] at this
      simp only [Option.some.injEq] at this
      subst this
      exact ⟨h2, h3⟩
     obtain ⟨ys, hyl, hq⟩ := zfN hq
     have hyl' : ys.length = fs.toList.length := by simpa using hyl
     refine ⟨ys.flatten, ?_, ?_⟩
     · have := VRels.fields (P := P) (E := Env.start w) (cs := cs) fs.toList ys 0 _ hc hyl' fun i f x hf hx => (hq i x hx f hf).1
       rw [List.drop_zero, Nat.sub_zero, List.take_of_length_le (by omega)] at this
       exact this
     · unfold Shp; rw [hu]
       exact ⟨ys, rfl, hyl', fun i f x hf hx => (hq i x hx f hf).2⟩
   · simp at h
end
def zfS (f : DataW Unit -> Option (List AV)) : List (DataW Unit) -> Option (List (List AV))
 | [] => some []
 | d :: r => match f d, zfS f r with
   | some x, some xs => some (x :: xs)
   | _, _ => none
def zb9 (f : TypeId -> DataW Unit -> Option (List AV)) : List Field -> List (DataW Unit) -> Option (List (List AV))
 | [], [] => some []
 | fd :: fs, d :: r => match f fd.type d, zb9 f fs r with
   | some x, some xs => some (x :: xs)
   | _, _ => none
 | _, _ => none
def zeX (P : Program) (N : String -> Option TypeId) : Nat -> Bool -> TypeId -> DataW Unit -> Option (List AV)
 | 0, _, _, _ => none
 | n + 1, top, t, d => match P.underlying t, d with
   | some .bool, .lit (.bool b) => some [.bool b]
   | some (.int k), .lit (.int k' m) => if k' = k then some [.int k m] else none
   | some .string, .lit (.string l) => some [.str l]
   | some (.pointer _), .nil => some [.nilptr]
   | some (.pointer e), .ptr d => if 0 < P.cellsOf e then (zeX P N n false e d).map fun as_ => [.vptr as_] else none
   | some (.array len e), .agg ds => if ds.length = len /\ P.cellsOf t = len * P.cellsOf e then (zfS (zeX P N n top e) ds).map List.flatten else none
   | some (.struct fs), .agg ds => if zdc P fs.toList 0 = some (P.cellsOf t) then (zb9 (zeX P N n top) fs.toList ds).map List.flatten else none
   | some (.interface _), .nil => some [.niliface]
   | some (.interface _), .iface name d => if top = true then match N name with
     | some u => match P.underlying u with
       | some (.pointer _) => match zeX P N n false u d with
         | some [a] => some [.iface u a]
         | _ => none
       | _ => none
     | none => none
    else none
   | _, _ => none
theorem zeW {f : DataW Unit -> Option (List AV)} : ∀ {ds : List (DataW Unit)} {xs : List (List AV)}, zfS f ds = some xs -> xs.length = ds.length /\ ∀ (i : Nat) (x : List AV), xs[i]? = some x -> ∃ d, ds[i]? = some d /\ f d = some x
 | [], xs, h => by simp [zfS] at h; subst h; simp
 | d :: r, xs, h => by
   simp only [zfS] at h
   split at h <;> try (simp at h; done)
   rename_i x ys h1 h2
   simp only [Option.some.injEq] at h; subst h
   obtain ⟨hl, hx⟩ := zeW h2
   refine ⟨by simp [hl], fun i y hy => ?_⟩
   cases i with
   | zero => simp at hy; subst hy; exact ⟨d, rfl, h1⟩
   | succ i => simpa using hx i y (by simpa using hy)
theorem zdq {f : TypeId -> DataW Unit -> Option (List AV)} : ∀ {fs : List Field} {ds : List (DataW Unit)} {xs : List (List AV)}, zb9 f fs ds = some xs -> xs.length = fs.length /\ ds.length = fs.length /\ ∀ (i : Nat) (fd : Field) (x : List AV), fs[i]? = some fd -> xs[i]? = some x -> ∃ d, ds[i]? = some d /\ f fd.type d = some x
 | [], [], xs, h => by simp [zb9] at h; subst h; simp
 | [], _ :: _, _, h => by simp [zb9] at h
 | _ :: _, [], _, h => by simp [zb9] at h
 | fd :: fs, d :: r, xs, h => by
   simp only [zb9] at h
   split at h <;> try (simp at h; done)
   rename_i x ys h1 h2
   simp only [Option.some.injEq] at h; subst h
   obtain ⟨hl, hd, hx⟩ := zdq h2
   refine ⟨by simp [hl], by simp [hd], fun i fd' y hf hy => ?_⟩
   cases i with
   | zero => simp at hf hy; subst hf; subst hy; exact ⟨d, rfl, h1⟩
   | succ i => simpa using hx i fd' y (by simpa using hf) (by simpa using hy)
section
variable {P : Program} {w : World} {N : String -> Option TypeId} {sp : Nat -> Bool}
theorem add_none (B o k : Nat) : (Addr.mk B o none).add k = ⟨B, o + k, none⟩ := by
 unfold Addr.add
 split
 · rename_i h; subst h; rfl
 · rfl
theorem zdp (hN : ∀ name u u', N name = some u -> P.typeName? 3 u' = some name -> u' = u) : ∀ {n : Nat} {top : Bool} {t : TypeId} {d : DataW Unit} {as_ : List AV} {fuel : Nat} {cs : List Value} {p : List MemPlace},
  zeX P N n top t d = some as_ -> DataW.trod (fun _ => ()) P w 0 sp false fuel t cs = some (d, p) ->
  (top = true -> ∀ u v, Value.iface u v ∈ cs -> Value.okWide P w .any 0 u v) -> VRels (Env.start w) as_ cs
 | 0, _, _, _, _, _, _, _, h, _, _ => by simp [zeX] at h
 | n + 1, top, t, d, as_, fuel, cs, p, h, hx, ok => by
   unfold zeX at h
   split at h <;> rename_i hu
   · simp only [Option.some.injEq] at h; subst h
     obtain ⟨b, rfl, he⟩ := DataW.trod_bool hu hx
     simp at he; obtain ⟨rfl, rfl⟩ := he
     exact .cons (.bool _) .nil
   · obtain ⟨m, rfl, he, _⟩ := DataW.trod_int hu hx
     simp at he; obtain ⟨⟨rfl, rfl⟩, rfl⟩ := he
     simp at h; subst h
     exact .cons (.int _ _) .nil
   · simp only [Option.some.injEq] at h; subst h
     obtain ⟨s, rfl, he, _⟩ := DataW.trod_string hu hx
     simp at he; obtain ⟨rfl, rfl⟩ := he
     have := VRel.str (E := Env.start w) s.data.toList
     exact .cons (by simpa using this) .nil
   · simp only [Option.some.injEq] at h; subst h
     cases fuel with
     | zero => simp [DataW.trod] at hx
     | succ m =>
       match cs with
       | [] => simp [DataW.trod, hu] at hx
       | _ :: _ :: _ => simp [DataW.trod, hu] at hx
       | [c] =>
         cases c <;> simp [DataW.trod, hu] at hx
         rename_i o
         cases o with
         | none => exact .cons .nilptr .nil
         | some a =>
           simp only [Option.bind_eq_some_iff, Function.comp, Option.map_eq_some_iff] at hx
           obtain ⟨_, _, _, _, hx⟩ := hx
           simp at hx
   · rename_i e d'
     split at h <;> try (simp at h; done)
     rename_i hz
     simp only [Option.map_eq_some_iff] at h
     obtain ⟨xs, h, rfl⟩ := h
     obtain ⟨m, a, cs', q, rfl, hc, h2, rfl⟩ := ptr_of_trod hu hx
     have hv := zdp hN h h2 (by simp)
     obtain ⟨_, hcl, hce⟩ := World.cells?_some hc
     have h0 := hce 0 hz
     rw [List.getElem?_eq_getElem (by omega)] at h0
     have hspot : a.spot = none := by
      unfold World.cell? at h0
      split at h0
      · split at h0
        · simp at h0
        · rename_i hsn
          have : (a.add 0).spot = a.spot := rfl
          rw [this] at hsn
          simpa using hsn
      · simp at h0
     obtain ⟨B, o, s⟩ := a
     simp only at hspot; subst hspot
     have hblk : ∃ c e f, w.heap[B]? = some (.cells c e f) := by
      rw [add_none] at h0
      unfold World.cell? at h0
      simp only at h0
      split at h0
      · rename_i c e f hh; exact ⟨c, e, f, hh⟩
      · simp at h0
     obtain ⟨c, ce, cf, hh⟩ := hblk
     have hcell : ∀ k, w.cell? ⟨B, o + k, none⟩ = c[o + k]? := fun k => by
      unfold World.cell?; simp [hh]
     have he : cs' = (c.toList.drop o).take (P.cellsOf e) := by
      apply List.ext_getElem?
      intro j
      by_cases hj : j < P.cellsOf e
      · rw [<- hce j hj, add_none, hcell]
        simp only [List.getElem?_take, if_pos hj, List.getElem?_drop, Array.getElem?_toList]
      · rw [List.getElem?_eq_none (by omega), List.getElem?_take, if_neg hj]
     refine .cons (.vptr (.inr ⟨c, ce, cf, hh, ?_⟩) hv) .nil
     rw [he]
     exact List.take_prefix _ _
   · rename_i len e ds
     split at h <;> try (simp at h; done)
     rename_i hz
     simp only [Option.map_eq_some_iff] at h
     obtain ⟨xs, h, rfl⟩ := h
     obtain ⟨ys, m, _, hd, hcl, hyl, hy⟩ := DataW.trod_array hu hx
     simp only [Prod.mk.injEq, DataW.agg.injEq] at hd
     obtain ⟨rfl, rfl⟩ := hd
     obtain ⟨hxl, hxs⟩ := zeW h
     have hxl' : xs.length = len := by simpa [hyl] using hxl
     have := VRels.blocks (E := Env.start w) (z := P.cellsOf e) xs cs fun i x hi => by
      obtain ⟨d, hd, hf⟩ := hxs i x hi
      have hlt : i < len := by rw [<- hxl']; exact (List.getElem?_eq_some_iff.1 hi).1
      have h3 := hy i hlt
      rw [List.getElem?_eq_getElem (by omega)] at h3
      have hd' : (ys[i]'(by omega)).1 = d := by simpa [List.getElem?_eq_getElem (show i < ys.length by omega)] using hd
      rw [<- hd'] at hf
      exact zdp hN hf h3 fun ht u v hm => ok ht u v (List.mem_of_mem_drop (List.mem_of_mem_take hm))
     rw [hxl', List.take_of_length_le (by omega)] at this
     exact this
   · rename_i fs ds
     split at h <;> try (simp at h; done)
     rename_i hz
     simp only [Option.map_eq_some_iff] at h
     obtain ⟨xs, h, rfl⟩ := h
     obtain ⟨ys, m, _, hd, hcl, hyl, hy⟩ := DataW.trod_struct hu hx
     simp only [Prod.mk.injEq, DataW.agg.injEq] at hd
     obtain ⟨rfl, rfl⟩ := hd
     obtain ⟨hxl, _, hxs⟩ := zdq h
     have := VRels.fields (P := P) (E := Env.start w) (cs := cs) fs.toList xs 0 _ hz hxl fun i f x hf hi => by
      obtain ⟨d, hd, hff⟩ := hxs i f x hf hi
      have hlt : i < ys.length := by
       have := (List.getElem?_eq_some_iff.1 hd).1
       simpa using this
      have h3 := hy i f (by simpa using hf)
      rw [List.getElem?_eq_getElem hlt] at h3
      have hd' : (ys[i]).1 = d := by simpa [List.getElem?_eq_getElem hlt] using hd
      rw [<- hd'] at hff
      exact zdp hN hff h3 fun ht u v hm => ok ht u v (List.mem_of_mem_drop (List.mem_of_mem_take hm))
     rw [List.drop_zero, Nat.sub_zero, List.take_of_length_le (by omega)] at this
     exact this
   · simp only [Option.some.injEq] at h; subst h
     cases fuel with
     | zero => simp [DataW.trod] at hx
     | succ m =>
       match cs with
       | [] => simp [DataW.trod, hu] at hx
       | _ :: _ :: _ => simp [DataW.trod, hu] at hx
       | [c] =>
         cases c <;> simp [DataW.trod, hu] at hx
         · split at hx <;> simp at hx
         · exact .cons .niliface .nil
   · rename_i name d'
     split at h <;> try (simp at h; done)
     rename_i htop
     split at h <;> try (simp at h; done)
     rename_i u hnu
     split at h <;> try (simp at h; done)
     rename_i e hpu
     split at h <;> try (simp at h; done)
     rename_i a ha
     simp only [Option.some.injEq] at h; subst h
     obtain ⟨m, u', v, rfl, hname, h2⟩ := iface_of_trod hu hx
     obtain rfl := hN _ _ _ hnu hname
     have hok := ok htop u' v (by simp)
     have hvs := zdp hN ha h2 (by simp)
     have hv' : ∃ c, v = .pointer c := by
      unfold Value.okWide at hok
      simp only [hpu] at hok
      unfold Cell.okWide at hok
      cases v <;> simp [Cell.ok, hpu] at hok
      exact ⟨_, rfl⟩
     obtain ⟨c, rfl⟩ := hv'
     have hcl : (Value.pointer c).cells.toList = [.pointer c] := rfl
     rw [hcl] at hvs
     cases hvs with | cons hv _ => exact .cons (.iface hv) .nil
   · simp at h
def laidAV (P : Program) (N : String -> Option TypeId) (n : Nat) (name : String) (d : DataW Unit) : Option (Nat × List AV) :=
 match P.globalNamed name with
 | some g => match (P.globals[g]?).map (·.type) with
   | some t => (zeX P N n true t d).map fun as_ => (g, as_)
   | none => none
 | none => none
def zcO (P : Program) (N : String -> Option TypeId) (n : Nat) : List (String × DataW Unit) -> Option (List (Nat × List AV))
 | [] => some []
 | (name, d) :: r => match laidAV P N n name d, zcO P N n r with
   | some x, some xs => some (x :: xs)
   | _, _ => none
def Gof : List (Nat × List AV) -> Nat -> Option AV
 | [], _ => none
 | (g, as_) :: r, h => if h = g then some (.vptr as_) else Gof r h
theorem laid_rel (hN : ∀ name u u', N name = some u -> P.typeName? 3 u' = some name -> u' = u) {n : Nat} : ∀ {L : List (String × DataW Unit)} {T : List (Nat × List AV)} {ps : List MemPlace}, zcO P N n L = some T -> DataW.LaidVars P w L ps ->
  (∀ b off, MemPlace.cell b off ∈ ps -> ∀ u v, w.cell? ⟨b, off, none⟩ = some (.iface u v) -> Value.okWide P w .any 0 u v) -> GRel (Env.start w) (Gof T)
 | [], T, ps, h, _, _ => by
   simp [zcO] at h; subst h
   intro g a ha
   simp [Gof] at ha
 | (name, d) :: r, T, ps, h, hL, hok => by
   simp only [zcO] at h
   split at h <;> try (simp at h; done)
   rename_i x xs h1 h2
   simp only [Option.some.injEq] at h; subst h
   obtain ⟨g, t, cs, fuel, p, q, hg, ht, hv, hd, hr, rfl⟩ := hL
   simp only [laidAV, hg, ht, Option.map_eq_some_iff] at h1
   obtain ⟨as_, h1, rfl⟩ := h1
   have hrest := laid_rel hN h2 hr fun b off hm => hok b off (by simp [hm])
   intro k a ha
   simp only [Gof] at ha
   split at ha
   · rename_i he; subst he
     simp only [Option.some.injEq] at ha; subst ha
     have hvs := zdp hN h1 hd fun _ u v hm => by
      obtain ⟨i, hi⟩ := List.getElem?_of_mem hm
      refine hok k i ?_ u v ?_
      · simp only [List.mem_append, MemPlace.row, List.mem_map, List.mem_range]
        refine .inl (.inl ⟨i, ?_, by simp⟩)
        have := (List.getElem?_eq_some_iff.1 hi).1
        simpa using this
      · rw [World.var?_cell hg hv i]
        simpa using hi
     have hb : ∃ c e, w.heap[k]? = some (.cells cs c e) := by
      simp only [World.var?, hg, Option.bind_some] at hv
      split at hv <;> simp at hv
      subst hv
      rename_i hh; exact ⟨_, _, hh⟩
     obtain ⟨c, e, hb⟩ := hb
     exact ⟨.vptr (.inr ⟨cs, c, e, hb, by simp⟩) hvs, fun cs' e' => by cases e'; exact ⟨cs, c, e, hb, hvs⟩⟩
   · exact hrest k a ha
theorem laid_met (hN : ∀ name u u', N name = some u -> P.typeName? 3 u' = some name -> u' = u) {n : Nat} {L : List (String × DataW Unit)} (ht : (zcO P N n L).isSome = true) (h : laidMet P L w) : GRel (Env.start w) (Gof ((zcO P N n L).getD [])) := by
 obtain ⟨ps, h1, _, h3⟩ := h
 cases e : zcO P N n L with
 | none => rw [e] at ht; simp at ht
 | some T => exact laid_rel hN e h1 fun b off hm => (h3 b off hm).2
end
end Go.Abs
namespace Go.Rp
open Go
abbrev Bs := List UInt8
/-! ### numbers and texts in bytes -/
structure Rd where
 b : Bs
 bad : Bool
 deriving DecidableEq
/-! ### sums and frames -/
def crcBit (s : BitVec 32) : BitVec 32 := (s >>> 1) ^^^ (0xEDB88320#32 &&& -(s &&& 1#32))
def crcBits : Nat -> BitVec 32 -> BitVec 32
 | 0, s => s
 | k + 1, s => crcBits k (crcBit s)
def crcByte (s : BitVec 32) (x : UInt8) : BitVec 32 := crcBits 8 (s ^^^ BitVec.ofNat 32 x.toNat)
def crc (b : Bs) : BitVec 32 := ~~~ (b.foldl crcByte (~~~ 0#32))
def le : Nat -> Nat -> Bs
 | 0, _ => []
 | k + 1, u => UInt8.ofNat (u % 256) :: le k (u / 256)
def unle : Bs -> Nat
 | [] => 0
 | x :: r => x.toNat + 256 * unle r
def head (n m : Nat) : Bs := le 4 m ++ le 8 n
def frame (n : Nat) (b : Bs) : Bs := 90 :: (head n b.length ++ (le 4 (crc (head n b.length ++ b)).toNat ++ b))
def take (b : Bs) : Nat × Bs × Nat :=
 if b.length < 17 \/ b[0]? ≠ some 90 then (0, [], 0)
 else
  let m := unle ((b.drop 1).take 4)
  if 60000 < m \/ b.length - 17 < m then (0, [], 0)
  else
   let t := (b.drop 17).take m
   if unle ((b.drop 13).take 4) ≠ (crc ((b.drop 1).take 12 ++ t)).toNat then (0, [], 0)
   else (unle ((b.drop 5).take 8), t, 17 + m)
def all : Nat -> Nat -> Bs -> List Bs × Nat
 | 0, _, _ => ([], 0)
 | k + 1, next, b =>
   let x := take b
   if x.2.2 = 0 \/ x.1 ≠ next then ([], 0)
   else if next = 18446744073709551615 then ([x.2.1], x.2.2)
   else
    let y := all k (next + 1) (b.drop x.2.2)
    (x.2.1 :: y.1, x.2.2 + y.2)
def frames : Nat -> List Bs -> Bs
 | _, [] => []
 | n, b :: l => frame n b ++ frames (n + 1) l
end Go.Rp
namespace Go.Syn
open Go.Lex
def Nd.decl (n : Nd) : List Va := n.ins ++ n.outs ++ n.locals
def Nd.own (n : Nd) : List Va := n.outs ++ n.locals
def findN (l : List Nd) (nm : Bs) : Option Nd := l.find? fun d => d.name == nm
def findV (l : List Va) (nm : Bs) : Option Va := l.find? fun v => v.name == nm
/-! ### names -/
def seeIO : List Va -> List Bs -> Option (List Bs)
 | [], s => some s
 | v :: l, s => if s.contains v.name then none else seeIO l (s ++ [v.name])
def seeL : List Va -> List Bs -> Option (List Bs)
 | [], s => some s
 | v :: l, s => if s.contains v.name || (v.on != [] && !s.contains v.on) then none else seeL l (s ++ [v.name])
def zbQ (n : Nd) : Option (List Bs) := match seeIO (n.ins ++ n.outs) [] with
 | none => none
 | some s => seeL n.locals s
def zdI (ah : List Nd) (nm : Bs) (k : Nat) : Bool := match findN ah nm with
 | none => false
 | some d => d.outs.length == 1 && d.ins.length == k
def zbP (ah : List Nd) (S : List Bs) (op nm : Bs) (k : Nat) : Bool :=
 if op = sVar \/ op = sWhen \/ op = sMerge then S.contains nm else if op = sCall then zdI ah nm k else true
mutual
def okE (ah : List Nd) (S : List Bs) : Ex -> Bool
 | .mk op nm _ _ ks => zbP ah S op nm ks.length && okEs ah S ks
def okEs (ah : List Nd) (S : List Bs) : List Ex -> Bool
 | [] => true
 | e :: l => okE ah S e && okEs ah S l
end
def eqsF (ah : List Nd) (S own : List Bs) : List Eqn -> List Bs -> Option (List Bs)
 | [], D => some D
 | q :: l, D => if D.contains q.name || !own.contains q.name then none else if okE ah S q.e then eqsF ah S own l (D ++ [q.name]) else none
def eqsOk (ah : List Nd) (S : List Bs) (n : Nd) : Bool := match eqsF ah S (n.own.map Va.name) n.eqs [] with
 | none => false
 | some D => n.own.all fun v => D.contains v.name
def zbG (ah : List Nd) (n : Nd) : Bool := (findN ah n.name).isNone && (n.outs.length != 0 && match zbQ n with
 | none => false
 | some S => eqsOk ah S n)
/-! ### kinds -/
def kindV (n : Nd) (nm : Bs) : Nat := match findV n.decl nm with
 | none => 0
 | some v => v.kind
def bothK (l : List Nat) (want thn : Nat) : Nat := if l = [want, want] then thn else 0
def zbb (l : List Nat) (n : Nat) : Bool := l.length == n && l.all fun k => k == l.headD 0
def headV : List Va -> Nat
 | v :: _ => v.kind
 | [] => 0
def zdE (ah : List Nd) (nm : Bs) (l : List Nat) : Nat := match findN ah nm with
 | none => 0
 | some d => if d.outs.length = 1 /\ d.ins.length = l.length /\ d.ins.map Va.kind = l then headV d.outs else 0
def lastK (ok : Bool) (kind : Nat) (l : List Nat) : Nat := if ok = false then 0 else if kind = 0 /\ 0 < l.length then l.getLastD 0 else kind
def ofK (ah : List Nd) (n : Nd) (op nm : Bs) (l : List Nat) : Nat :=
 if op = sInt then lastK (l.length == 0) 2 l else
 if op = sBool then lastK (l.length == 0) 1 l else
 if op = sVar then lastK (l.length == 0) (kindV n nm) l else
 if op = sNot then lastK (l == [1]) 1 l else
 if op = sNeg then lastK (l == [2]) 2 l else
 if op = sPre then lastK (l.length == 1) 0 l else
 if op = [43] \/ op = [45] \/ op = [42] \/ op = [47] \/ op = [109, 111, 100] then bothK l 2 2 else
 if op = [60] \/ op = [60, 61] \/ op = [62] \/ op = [62, 61] then bothK l 2 1 else
 if op = [97, 110, 100] \/ op = [111, 114] \/ op = [120, 111, 114] then bothK l 1 1 else
 if op = [61] \/ op = [60, 62] then lastK (zbb l 2) 1 l else
 if op = [45, 62] \/ op = sFby then lastK (zbb l 2) 0 l else
 if op = sWhen then lastK (l.length == 1 && kindV n nm == 1) 0 l else
 if op = sIf then lastK (l.length == 3 && (l.getD 0 0 == 1 && l.getD 1 0 == l.getD 2 0)) 0 l else
 if op = sMerge then lastK (zbb l 2 && kindV n nm == 1) 0 l else
 if op = sCall then zdE ah nm l else lastK false 0 l
def ziq (k : Nat) : Nat := if k = 1 \/ k = 2 then k else 0
mutual
def kindE (ah : List Nd) (n : Nd) : Ex -> Nat
 | .mk op nm _ _ ks => match zby ah n ks with
   | none => 0
   | some l => ziq (ofK ah n op nm l)
def zby (ah : List Nd) (n : Nd) : List Ex -> Option (List Nat)
 | [] => some []
 | e :: l => if kindE ah n e = 0 then none else (zby ah n l).map (kindE ah n e :: ·)
end
def typN (ah : List Nd) (n : Nd) : Bool := (n.locals.all fun v => v.on == [] || kindV n v.on == 1) && n.eqs.all fun q => kindE ah n q.e != 0 && kindE ah n q.e == kindV n q.name
/-! ### clocks -/
abbrev Clk := List (Bs × Bool)
def zaE (V : List Va) : Nat -> Bs -> Clk
 | 0, _ => []
 | k + 1, nm => match findV V nm with
   | none => []
   | some v => if v.on = [] then [] else (v.on, v.neg) :: zaE V k v.on
def clkOf (n : Nd) (nm : Bs) : Clk := (zaE n.decl n.locals.length nm).reverse
inductive Tm where
 | mk (op nm : Bs) (n pos : Nat) (clock : Clk) (kids : List Tm) (any : Bool)
def Tm.clock : Tm -> Clk | .mk _ _ _ _ c _ _ => c
def Tm.any : Tm -> Bool | .mk _ _ _ _ _ _ a => a
def fits (k : Tm) (c : Clk) : Bool := k.any || k.clock == c
def oneC (l : List Tm) : Clk × Bool × Bool := match l.find? fun k => !k.any with
 | none => ([], true, true)
 | some k => (k.clock, false, l.all fun x => fits x k.clock)
def fit1 : List Tm -> Clk -> Bool
 | [k], c => fits k c
 | _, _ => false
def fit2 : List Tm -> Clk -> Clk -> Bool
 | [a, b], c, d => fits a c && fits b d
 | _, _, _ => false
def ownC (n : Nd) (op nm : Bs) (num : Nat) (l : List Tm) : Clk × Bool × Bool :=
 if op = sInt \/ op = sBool then ([], true, true) else
 if op = sVar then (clkOf n nm, false, true) else
 if op = sWhen then (clkOf n nm ++ [(nm, num == 0)], false, fit1 l (clkOf n nm)) else
 if op = sMerge then (clkOf n nm, false, fit2 l (clkOf n nm ++ [(nm, false)]) (clkOf n nm ++ [(nm, true)])) else
 oneC l
mutual
def clkE (n : Nd) : Ex -> Option Tm
 | .mk op nm num pos ks => match clkEs n ks with
   | none => none
   | some l => if (ownC n op nm num l).2.2 then some (.mk op nm num pos (ownC n op nm num l).1 l (ownC n op nm num l).2.1) else none
def clkEs (n : Nd) : List Ex -> Option (List Tm)
 | [] => some []
 | e :: l => match clkE n e with
   | none => none
   | some x => match clkEs n l with
     | none => none
     | some r => some (x :: r)
end
def clkN (n : Nd) : Bool := n.eqs.all fun q => match clkE n q.e with
 | none => false
 | some x => fits x (clkOf n q.name)
/-! ### what is late -/
def zii (op : Bs) : Bool := op = sInt \/ op = sBool \/ op = [45, 62] \/ op = sFby \/ op = sMerge \/ op = sCall
mutual
def lateE (s : List Bs) : Ex -> Bool
 | .mk op nm _ _ ks => if op = sPre then true else if op = sVar then s.contains nm else if zii op then false else zdb s ks
def zdb (s : List Bs) : List Ex -> Bool
 | [] => false
 | e :: l => lateE s e || zdb s l
end
def lateR : List Eqn -> List Bs -> Bool -> List Bs × Bool
 | [], s, m => (s, m)
 | q :: l, s, m => if !s.contains q.name && lateE s q.e then lateR l (s ++ [q.name]) true else lateR l s m
def zeT (eqs : List Eqn) : Nat -> List Bs -> List Bs
 | 0, s => s
 | k + 1, s => if (lateR eqs s false).2 then zeT eqs k (lateR eqs s false).1 else (lateR eqs s false).1
def lates (n : Nd) : List Bs := zeT n.eqs (n.eqs.length + 1) []
def lateH (s : List Bs) : List Ex -> Bool
 | e :: _ => lateE s e
 | [] => false
def partE (s : List Bs) (op nm : Bs) (ks : List Ex) : Bool :=
 if op = sPre \/ op = sFby \/ op = sCall then zdb s ks else
 if op = [45, 62] then lateH s ks else
 if op = sWhen then s.contains nm else
 if op = sMerge then s.contains nm || zdb s ks else false
mutual
def zaV (s : List Bs) : Ex -> Bool
 | .mk op nm _ _ ks => zde s ks || partE s op nm ks
def zde (s : List Bs) : List Ex -> Bool
 | [] => false
 | e :: l => zaV s e || zde s l
end
def told (n : Nd) (nm : Bs) : Bool := (n.outs.any fun v => v.name == nm) || n.locals.any fun v => v.on == nm
def iniN (n : Nd) : Bool := n.eqs.all fun q => !zaV (lates n) q.e && !((lates n).contains q.name && told n q.name)
/-! ### who leans on whom -/
def addS (s : List Bs) (nm : Bs) : List Bs := if s.contains nm then s else s ++ [nm]
mutual
def leanE (s : List Bs) : Ex -> List Bs
 | .mk op nm _ _ ks => if op = sVar \/ op = sWhen \/ op = sMerge then zaL (addS s nm) ks else if op = sPre then s else if op = sFby then leanF s ks else zaL s ks
def zaL (s : List Bs) : List Ex -> List Bs
 | [] => s
 | e :: l => zaL (leanE s e) l
def leanF (s : List Bs) : List Ex -> List Bs
 | [] => s
 | e :: _ => leanE s e
end
def eqOf (n : Nd) (nm : Bs) : Option Eqn := n.eqs.find? fun q => q.name == nm
def zfC (n : Nd) (nm : Bs) (s : List Bs) : List Bs := (zaE n.decl n.locals.length nm).foldl (fun s c => addS s c.1) s
def zdD (n : Nd) (nm : Bs) : List Bs := zfC n nm (match eqOf n nm with | none => [] | some q => leanE [] q.e)
def za7 (n : Nd) (nm : Bs) : List Bs := if (n.own.map Va.name).contains nm then (n.own.map Va.name).filter fun s => (zdD n nm).contains s else []
def zda (g : Bs -> List Bs) (name : Bs) : Nat -> List Bs -> List Bs -> Bool
 | 0, _, _ => false
 | k + 1, seen, w => match w.getLast? with
   | none => false
   | some s => if s = name then true else if seen.contains s then zda g name k seen w.dropLast else zda g name k (seen ++ [s]) (w.dropLast ++ g s)
def zcZ (n : Nd) (nm : Bs) : Bool := zda (za7 n) nm ((n.own.length + 2) * (n.own.length + 2)) [] (za7 n nm)
def cauN (n : Nd) : Bool := n.eqs.all fun q => !zcZ n q.name
def allN (f : List Nd -> Nd -> Bool) : List Nd -> List Nd -> Bool
 | _, [] => true
 | ah, n :: l => f ah n && allN f (ah ++ [n]) l
def zbN (l : List Nd) : Bool := allN zbG [] l && (allN typN [] l && (l.all clkN && (l.all iniN && l.all cauN)))
end Go.Syn
namespace Go.Syn
def ixOf {X : Type} (p : X -> Bool) (l : List X) : Int := match l.findIdx? p with
 | some i => i
 | none => -1
theorem zcg {X : Type} {p : X -> Bool} {l : List X} (h : ∀ x ∈ l, p x = false) : ixOf p l = -1 := by
 unfold ixOf
 rw [List.findIdx?_eq_none_iff.2 h]
theorem zbH {X : Type} {p : X -> Bool} : ∀ {l : List X} {i : Nat} {x : X}, l[i]? = some x -> p x = true -> (∀ j y, j < i -> l[j]? = some y -> p y = false) -> ixOf p l = i
 | [], i, x, h, _, _ => by simp at h
 | a :: l, 0, x, h, hp, hn => by
   simp at h
   subst h
   simp [ixOf, List.findIdx?_cons, hp]
 | a :: l, i + 1, x, h, hp, hn => by
   have h0 := hn 0 a (by omega) rfl
   have ih := zbH (l := l) (i := i) (x := x) (by simpa using h) hp fun j y hj hy => hn (j + 1) y (by omega) (by simpa using hy)
   unfold ixOf at ih ⊢
   rw [List.findIdx?_cons, h0]
   cases hf : l.findIdx? p with
   | none => rw [hf] at ih; simp at ih
   | some k => rw [hf] at ih; simp at ih ⊢; omega
theorem zb5 {X : Type} (p : X -> Bool) (l : List X) : (ixOf p l = -1 /\ l.find? p = none) \/ ∃ (i : Nat) (x : X), ixOf p l = i /\ l[i]? = some x /\ l.find? p = some x /\ p x = true := by
 induction l with
 | nil => exact .inl ⟨rfl, rfl⟩
 | cons a l ih =>
   cases ha : p a with
   | true => exact .inr ⟨0, a, by simp [ixOf, List.findIdx?_cons, ha], rfl, by simp [ha], ha⟩
   | false =>
     rcases ih with ⟨h1, h2⟩ | ⟨i, x, h1, h2, h3, h4⟩
     · refine .inl ⟨?_, by simp [ha, h2]⟩
       unfold ixOf at h1 ⊢
       rw [List.findIdx?_cons, ha]
       cases hf : l.findIdx? p with
       | none => rfl
       | some k => rw [hf] at h1; simp at h1
     · refine .inr ⟨i + 1, x, ?_, by simpa using h2, by simp [ha, h3], h4⟩
       unfold ixOf at h1 ⊢
       rw [List.findIdx?_cons, ha]
       cases hf : l.findIdx? p with
       | none => rw [hf] at h1; simp at h1
       | some k => rw [hf] at h1; simp at h1 ⊢; omega
theorem zfn {X : Type} (p : X -> Bool) (l : List X) : decide (0 <= ixOf p l) = l.any p := by
 rcases zb5 p l with ⟨h1, h2⟩ | ⟨i, x, h1, h2, _, h4⟩
 · have : l.any p = false := by
    rw [List.any_eq_false]
    intro x hx
    simpa using List.find?_eq_none.1 h2 x hx
   rw [this, h1]; rfl
 · have : l.any p = true := List.any_eq_true.2 ⟨x, List.mem_of_getElem? h2, h4⟩
   rw [this, h1]
   simp
end Go.Syn
namespace Go.Syn
open Go.Lex
theorem zhy (l : List Nd) (nm : Bs) : findN (l.map Nd.er) nm = (findN l nm).map Nd.er := by
 induction l with
 | nil => rfl
 | cons d l ih =>
   have h : (d.er.name == nm) = (d.name == nm) := rfl
   simp only [findN, List.map_cons, List.find?_cons, h] at ih ⊢
   split
   · rfl
   · exact ih
theorem findV_er (l : List Va) (nm : Bs) : findV (l.map Va.er) nm = (findV l nm).map Va.er := by
 induction l with
 | nil => rfl
 | cons d l ih =>
   have h : (d.er.name == nm) = (d.name == nm) := rfl
   simp only [findV, List.map_cons, List.find?_cons, h] at ih ⊢
   split
   · rfl
   · exact ih
theorem zj8 (n : Nd) : n.er.decl = n.decl.map Va.er := by simp [Nd.decl, Nd.er]
theorem own_er (n : Nd) : n.er.own = n.own.map Va.er := by simp [Nd.own, Nd.er]
theorem names_er (l : List Va) : (l.map Va.er).map Va.name = l.map Va.name := by
 rw [List.map_map]; rfl
theorem seeIO_er : ∀ (l : List Va) (s : List Bs), seeIO (l.map Va.er) s = seeIO l s
 | [], s => rfl
 | v :: l, s => by
   show (if s.contains v.name then none else seeIO (l.map Va.er) (s ++ [v.name])) = _
   rw [seeIO_er l]; rfl
theorem seeL_er : ∀ (l : List Va) (s : List Bs), seeL (l.map Va.er) s = seeL l s
 | [], s => rfl
 | v :: l, s => by
   show (if s.contains v.name || (v.on != [] && !s.contains v.on) then none else seeL (l.map Va.er) (s ++ [v.name])) = _
   rw [seeL_er l]; rfl
theorem declsF_er (n : Nd) : zbQ n.er = zbQ n := by
 have h : n.er.ins ++ n.er.outs = (n.ins ++ n.outs).map Va.er := by simp [Nd.er]
 have h2 : n.er.locals = n.locals.map Va.er := rfl
 unfold zbQ
 rw [h, seeIO_er, h2]
 split
 · rfl
 · exact seeL_er _ _
theorem ers_len : ∀ l : List Ex, (Ex.ers l).length = l.length
 | [] => rfl
 | e :: l => by rw [Ex.ers, List.length_cons, List.length_cons, ers_len l]
theorem callOk_er (ah : List Nd) (nm : Bs) (k : Nat) : zdI (ah.map Nd.er) nm k = zdI ah nm k := by
 unfold zdI
 rw [zhy]
 cases findN ah nm with
 | none => rfl
 | some d => simp [Nd.er]
theorem headOk_er (ah : List Nd) (S : List Bs) (op nm : Bs) (k : Nat) : zbP (ah.map Nd.er) S op nm k = zbP ah S op nm k := by
 unfold zbP
 rw [callOk_er]
mutual
theorem okE_er (ah : List Nd) (S : List Bs) : ∀ e : Ex, okE (ah.map Nd.er) S e.er = okE ah S e
 | .mk op nm n pos ks => by rw [Ex.er, okE, okE, ers_len, headOk_er, okEs_er ah S ks]
theorem okEs_er (ah : List Nd) (S : List Bs) : ∀ l : List Ex, okEs (ah.map Nd.er) S (Ex.ers l) = okEs ah S l
 | [] => rfl
 | e :: l => by rw [Ex.ers, okEs, okEs, okE_er ah S e, okEs_er ah S l]
end
theorem eqsF_er (ah : List Nd) (S own : List Bs) : ∀ (l : List Eqn) (D : List Bs), eqsF (ah.map Nd.er) S own (l.map Eqn.er) D = eqsF ah S own l D
 | [], D => rfl
 | q :: l, D => by
   show (if D.contains q.name || !own.contains q.name then none else if okE (ah.map Nd.er) S q.e.er then eqsF (ah.map Nd.er) S own (l.map Eqn.er) (D ++ [q.name]) else none) = _
   rw [okE_er, eqsF_er ah S own l]; rfl
theorem all_er {α : Type} (f : Va -> Bool) (g : Va -> Bool) (h : ∀ v, f v.er = g v) : ∀ l : List Va, (l.map Va.er).all f = l.all g
 | [] => rfl
 | v :: l => by rw [List.map_cons, List.all_cons, List.all_cons, h, all_er (α := α) f g h l]
theorem eqsOk_er (ah : List Nd) (S : List Bs) (n : Nd) : eqsOk (ah.map Nd.er) S n.er = eqsOk ah S n := by
 have h : n.er.eqs = n.eqs.map Eqn.er := rfl
 unfold eqsOk
 rw [own_er, names_er, h, eqsF_er]
 split
 · rfl
 · exact all_er (α := Nat) _ _ (fun v => rfl) _
theorem namesN_er (ah : List Nd) (n : Nd) : zbG (ah.map Nd.er) n.er = zbG ah n := by
 have h : n.er.name = n.name := rfl
 have h2 : n.er.outs.length = n.outs.length := by simp [Nd.er]
 unfold zbG
 rw [h, h2, declsF_er, zhy]
 congr 1
 · cases findN ah n.name <;> rfl
 · congr 1
   split
   · rfl
   · exact eqsOk_er _ _ _
theorem zhu (n : Nd) (nm : Bs) : kindV n.er nm = kindV n nm := by
 unfold kindV
 rw [zj8, findV_er]
 cases findV n.decl nm <;> rfl
theorem kcallK_er (ah : List Nd) (nm : Bs) (l : List Nat) : zdE (ah.map Nd.er) nm l = zdE ah nm l := by
 unfold zdE
 rw [zhy]
 cases findN ah nm with
 | none => rfl
 | some d =>
   have e1 : d.er.outs.length = d.outs.length := by simp [Nd.er]
   have e2 : d.er.ins.length = d.ins.length := by simp [Nd.er]
   have e3 : d.er.ins.map Va.kind = d.ins.map Va.kind := by simp only [Nd.er, List.map_map]; rfl
   have e4 : headV d.er.outs = headV d.outs := by
    cases h : d.outs with
    | nil => simp [Nd.er, h, headV]
    | cons v l => simp [Nd.er, h, Va.er, headV]
   simp only [Option.map_some, e1, e2, e3, e4]
theorem ofK_er (ah : List Nd) (n : Nd) (op nm : Bs) (l : List Nat) : ofK (ah.map Nd.er) n.er op nm l = ofK ah n op nm l := by
 unfold ofK
 rw [zhu, kcallK_er]
mutual
theorem kindE_er (ah : List Nd) (n : Nd) : ∀ e : Ex, kindE (ah.map Nd.er) n.er e.er = kindE ah n e
 | .mk op nm k pos ks => by
   rw [Ex.er, kindE, kindE, zip ah n ks]
   cases zby ah n ks with
   | none => rfl
   | some l => simp only [ofK_er]
theorem zip (ah : List Nd) (n : Nd) : ∀ l : List Ex, zby (ah.map Nd.er) n.er (Ex.ers l) = zby ah n l
 | [] => rfl
 | e :: l => by rw [Ex.ers, zby, zby, kindE_er ah n e, zip ah n l]
end
theorem zge (f g : Eqn -> Bool) (h : ∀ q, f q.er = g q) : ∀ l : List Eqn, (l.map Eqn.er).all f = l.all g
 | [] => rfl
 | v :: l => by rw [List.map_cons, List.all_cons, List.all_cons, h, zge f g h l]
theorem typN_er (ah : List Nd) (n : Nd) : typN (ah.map Nd.er) n.er = typN ah n := by
 have h1 : n.er.locals = n.locals.map Va.er := rfl
 have h2 : n.er.eqs = n.eqs.map Eqn.er := rfl
 unfold typN
 rw [h1, h2]
 congr 1
 · exact all_er (α := Nat) _ _ (fun v => by rw [zhu]; rfl) _
 · exact zge _ _ (fun q => by
    show (kindE (ah.map Nd.er) n.er q.e.er != 0 && kindE (ah.map Nd.er) n.er q.e.er == kindV n.er q.name) = _
    rw [kindE_er, zhu]) _
theorem zfY (V : List Va) : ∀ (k : Nat) (nm : Bs), zaE (V.map Va.er) k nm = zaE V k nm
 | 0, nm => rfl
 | k + 1, nm => by
   rw [zaE, zaE, findV_er]
   cases findV V nm with
   | none => rfl
   | some v =>
     have := zfY V k v.on
     show (if v.on = [] then [] else (v.on, v.neg) :: zaE (V.map Va.er) k v.on) = _
     rw [this]
theorem clkOf_er (n : Nd) (nm : Bs) : clkOf n.er nm = clkOf n nm := by
 have h : n.er.locals.length = n.locals.length := by simp [Nd.er]
 unfold clkOf
 rw [zj8, h, zfY]
def Tm.like (a b : Tm) : Prop := a.clock = b.clock /\ a.any = b.any
inductive Likes : List Tm -> List Tm -> Prop
 | nil : Likes [] []
 | cons {a b : Tm} {l r : List Tm} (h : a.like b) (t : Likes l r) : Likes (a :: l) (b :: r)
theorem zdl {a b : Tm} (h : a.like b) (c : Clk) : fits a c = fits b c := by
 unfold fits
 rw [h.1, h.2]
theorem likes_all {l r : List Tm} (h : Likes l r) (c : Clk) : (l.all fun x => fits x c) = r.all fun x => fits x c := by
 induction h with
 | nil => rfl
 | cons h t ih => rw [List.all_cons, List.all_cons, ih, zdl h]
theorem likes_find {l r : List Tm} (h : Likes l r) : match l.find? fun k => !k.any, r.find? fun k => !k.any with
  | none, none => True
  | some a, some b => a.like b
  | _, _ => False := by
 induction h with
 | nil => trivial
 | @cons a b l r h t ih =>
   simp only [List.find?_cons, h.2]
   cases hb : b.any with
   | true => simpa using ih
   | false => exact h
theorem oneC_like {l r : List Tm} (h : Likes l r) : oneC l = oneC r := by
 have hf := likes_find h
 unfold oneC
 cases h1 : l.find? fun k => !k.any with
 | none =>
   cases h2 : r.find? fun k => !k.any with
   | none => rfl
   | some b => rw [h1, h2] at hf; exact hf.elim
 | some a =>
   cases h2 : r.find? fun k => !k.any with
   | none => rw [h1, h2] at hf; exact hf.elim
   | some b =>
     rw [h1, h2] at hf
     have hf : a.like b := hf
     show (a.clock, false, l.all fun x => fits x a.clock) = (b.clock, false, r.all fun x => fits x b.clock)
     rw [hf.1, likes_all h]
theorem ownC_like (n : Nd) (op nm : Bs) (num : Nat) {l r : List Tm} (h : Likes l r) : ownC n.er op nm num l = ownC n op nm num r := by
 unfold ownC
 rw [clkOf_er, oneC_like h]
 have e1 : fit1 l (clkOf n nm) = fit1 r (clkOf n nm) := by
  cases h with
  | nil => rfl
  | cons h t => cases t with
    | nil => exact zdl h _
    | cons _ _ => rfl
 have e2 : fit2 l (clkOf n nm ++ [(nm, false)]) (clkOf n nm ++ [(nm, true)]) = fit2 r (clkOf n nm ++ [(nm, false)]) (clkOf n nm ++ [(nm, true)]) := by
  cases h with
  | nil => rfl
  | cons h t => cases t with
    | nil => rfl
    | cons h2 t2 => cases t2 with
      | nil => simp only [fit2, zdl h, zdl h2]
      | cons _ _ => rfl
 rw [e1, e2]
def OLike : Option Tm -> Option Tm -> Prop
 | none, none => True
 | some a, some b => a.like b
 | _, _ => False
def OLikes : Option (List Tm) -> Option (List Tm) -> Prop
 | none, none => True
 | some a, some b => Likes a b
 | _, _ => False
mutual
theorem clkE_er (n : Nd) : ∀ e : Ex, OLike (clkE n.er e.er) (clkE n e)
 | .mk op nm num pos ks => by
   have h := clkEs_er n ks
   rw [Ex.er, clkE, clkE]
   cases h1 : clkEs n.er (Ex.ers ks) with
   | none =>
     cases h2 : clkEs n ks with
     | none => trivial
     | some r => rw [h1, h2] at h; exact h.elim
   | some l =>
     cases h2 : clkEs n ks with
     | none => rw [h1, h2] at h; exact h.elim
     | some r =>
       rw [h1, h2] at h
       have h : Likes l r := h
       simp only [ownC_like n op nm num h]
       split
       · exact ⟨rfl, rfl⟩
       · trivial
theorem clkEs_er (n : Nd) : ∀ l : List Ex, OLikes (clkEs n.er (Ex.ers l)) (clkEs n l)
 | [] => .nil
 | e :: l => by
   have h1 := clkE_er n e
   have h2 := clkEs_er n l
   rw [Ex.ers, clkEs, clkEs]
   cases e1 : clkE n.er e.er with
   | none =>
     cases e2 : clkE n e with
     | none => trivial
     | some y => rw [e1, e2] at h1; exact h1.elim
   | some x =>
     cases e2 : clkE n e with
     | none => rw [e1, e2] at h1; exact h1.elim
     | some y =>
       rw [e1, e2] at h1
       cases e3 : clkEs n.er (Ex.ers l) with
       | none =>
         cases e4 : clkEs n l with
         | none => trivial
         | some r => rw [e3, e4] at h2; exact h2.elim
       | some xs =>
         cases e4 : clkEs n l with
         | none => rw [e3, e4] at h2; exact h2.elim
         | some r => rw [e3, e4] at h2; exact .cons h1 h2
end
theorem clkN_er (n : Nd) : clkN n.er = clkN n := by
 have h2 : n.er.eqs = n.eqs.map Eqn.er := rfl
 unfold clkN
 rw [h2]
 refine zge _ _ (fun q => ?_) _
 have h := clkE_er n q.e
 have e1 : q.er.e = q.e.er := rfl
 have e2 : q.er.name = q.name := rfl
 rw [e1, e2]
 cases h1 : clkE n.er q.e.er with
 | none =>
   cases h2 : clkE n q.e with
   | none => rfl
   | some y => rw [h1, h2] at h; exact h.elim
 | some x =>
   cases h2 : clkE n q.e with
   | none => rw [h1, h2] at h; exact h.elim
   | some y =>
     rw [h1, h2] at h
     show fits x _ = fits y _
     rw [clkOf_er, zdl h]
mutual
theorem zhs (s : List Bs) : ∀ e : Ex, lateE s e.er = lateE s e
 | .mk op nm k pos ks => by rw [Ex.er, lateE, lateE, zfF s ks]
theorem zfF (s : List Bs) : ∀ l : List Ex, zdb s (Ex.ers l) = zdb s l
 | [] => rfl
 | e :: l => by rw [Ex.ers, zdb, zdb, zhs s e, zfF s l]
end
theorem zhr : ∀ (l : List Eqn) (s : List Bs) (m : Bool), lateR (l.map Eqn.er) s m = lateR l s m
 | [], s, m => rfl
 | q :: l, s, m => by
   show (if !s.contains q.name && lateE s q.e.er then lateR (l.map Eqn.er) (s ++ [q.name]) true else lateR (l.map Eqn.er) s m) = _
   rw [zhs, zhr l, zhr l]; rfl
theorem zil (l : List Eqn) : ∀ (k : Nat) (s : List Bs), zeT (l.map Eqn.er) k s = zeT l k s
 | 0, s => rfl
 | k + 1, s => by rw [zeT, zeT, zhr, zil l k]
theorem lates_er (n : Nd) : lates n.er = lates n := by
 have h2 : n.er.eqs = n.eqs.map Eqn.er := rfl
 unfold lates
 rw [h2, zil, List.length_map]
theorem partE_er (s : List Bs) (op nm : Bs) (ks : List Ex) : partE s op nm (Ex.ers ks) = partE s op nm ks := by
 unfold partE
 rw [zfF]
 have : lateH s (Ex.ers ks) = lateH s ks := by
  cases ks with
  | nil => rfl
  | cons e l => exact zhs s e
 rw [this]
mutual
theorem zhM (s : List Bs) : ∀ e : Ex, zaV s e.er = zaV s e
 | .mk op nm k pos ks => by rw [Ex.er, zaV, zaV, zgt s ks, partE_er]
theorem zgt (s : List Bs) : ∀ l : List Ex, zde s (Ex.ers l) = zde s l
 | [] => rfl
 | e :: l => by rw [Ex.ers, zde, zde, zhM s e, zgt s l]
end
theorem any_er (f g : Va -> Bool) (h : ∀ v, f v.er = g v) : ∀ l : List Va, (l.map Va.er).any f = l.any g
 | [] => rfl
 | v :: l => by rw [List.map_cons, List.any_cons, List.any_cons, h, any_er f g h l]
theorem told_er (n : Nd) (nm : Bs) : told n.er nm = told n nm := by
 have h1 : n.er.outs = n.outs.map Va.er := rfl
 have h2 : n.er.locals = n.locals.map Va.er := rfl
 unfold told
 rw [h1, h2]
 rw [any_er (fun v => v.name == nm) (fun v => v.name == nm) (fun v => rfl), any_er (fun v => v.on == nm) (fun v => v.on == nm) (fun v => rfl)]
theorem iniN_er (n : Nd) : iniN n.er = iniN n := by
 have h2 : n.er.eqs = n.eqs.map Eqn.er := rfl
 unfold iniN
 rw [h2]
 refine zge _ _ (fun q => ?_) _
 show (!zaV (lates n.er) q.e.er && !((lates n.er).contains q.name && told n.er q.name)) = _
 rw [lates_er, zhM, told_er]
mutual
theorem zhq : ∀ (e : Ex) (s : List Bs), leanE s e.er = leanE s e
 | .mk op nm k pos ks, s => by rw [Ex.er, leanE, leanE, zfD ks, zfD ks, leanF_er ks]
theorem zfD : ∀ (l : List Ex) (s : List Bs), zaL s (Ex.ers l) = zaL s l
 | [], s => rfl
 | e :: l, s => by rw [Ex.ers, zaL, zaL, zhq e, zfD l]
theorem leanF_er : ∀ (l : List Ex) (s : List Bs), leanF s (Ex.ers l) = leanF s l
 | [], s => rfl
 | e :: l, s => by rw [Ex.ers, leanF, leanF, zhq e]
end
theorem findQ_er (nm : Bs) : ∀ l : List Eqn, (l.map Eqn.er).find? (fun q => q.name == nm) = (l.find? fun q => q.name == nm).map Eqn.er
 | [] => rfl
 | q :: l => by
   have h : (q.er.name == nm) = (q.name == nm) := rfl
   rw [List.map_cons, List.find?_cons, List.find?_cons, h]
   split
   · rfl
   · exact findQ_er nm l
theorem leansS_er (n : Nd) (nm : Bs) : zdD n.er nm = zdD n nm := by
 have h : n.er.locals.length = n.locals.length := by simp [Nd.er]
 have h2 : eqOf n.er nm = (eqOf n nm).map Eqn.er := findQ_er nm n.eqs
 unfold zdD zfC
 rw [zj8, h, zfY, h2]
 cases eqOf n nm with
 | none => rfl
 | some q =>
   show List.foldl _ (leanE [] q.e.er) _ = _
   rw [zhq]
theorem zik (n : Nd) (nm : Bs) : za7 n.er nm = za7 n nm := by
 unfold za7
 rw [own_er, names_er, leansS_er]
theorem zhW {f g : Bs -> List Bs} (h : ∀ x, f x = g x) (name : Bs) : ∀ (k : Nat) (s w : List Bs), zda f name k s w = zda g name k s w
 | 0, s, w => rfl
 | k + 1, s, w => by
   rw [zda, zda]
   cases w.getLast? with
   | none => rfl
   | some x => simp only [zhW h name k, h x]
theorem roundN_er (n : Nd) (nm : Bs) : zcZ n.er nm = zcZ n nm := by
 have h : n.er.own.length = n.own.length := by rw [own_er, List.length_map]
 unfold zcZ
 rw [h, zik, zhW (fun x => zik n x)]
theorem cauN_er (n : Nd) : cauN n.er = cauN n := by
 have h2 : n.er.eqs = n.eqs.map Eqn.er := rfl
 unfold cauN
 rw [h2]
 refine zge _ _ (fun q => ?_) _
 show (!zcZ n.er q.name) = _
 rw [roundN_er]
theorem allN_er (f : List Nd -> Nd -> Bool) (h : ∀ ah n, f (ah.map Nd.er) n.er = f ah n) : ∀ (l ah : List Nd), allN f (ah.map Nd.er) (l.map Nd.er) = allN f ah l
 | [], ah => rfl
 | n :: l, ah => by
   have := allN_er f h l (ah ++ [n])
   rw [List.map_append, List.map_cons, List.map_nil] at this
   rw [List.map_cons, allN, allN, h, this]
theorem zhI (f : Nd -> Bool) (h : ∀ n, f n.er = f n) : ∀ l : List Nd, (l.map Nd.er).all f = l.all f
 | [] => rfl
 | n :: l => by rw [List.map_cons, List.all_cons, List.all_cons, h, zhI f h l]
theorem zhP (l : List Nd) : zbN (l.map Nd.er) = zbN l := by
 unfold zbN
 rw [<- allN_er zbG namesN_er l [], <- allN_er typN typN_er l [], zhI clkN clkN_er, zhI iniN iniN_er, zhI cauN cauN_er]
 rfl
theorem zje {l m : List Nd} (h : l.map Nd.er = m.map Nd.er) : zbN l = zbN m := by
 rw [<- zhP l, h, zhP]
mutual
def atE (ah : List Nd) (S : List Bs) : Ex -> Int
 | .mk op nm _ pos ks => if zbP ah S op nm ks.length then atEs ah S ks else pos
def atEs (ah : List Nd) (S : List Bs) : List Ex -> Int
 | [] => -1
 | e :: l => if atE ah S e = -1 then atEs ah S l else atE ah S e
end
mutual
theorem atE_ok (ah : List Nd) (S : List Bs) : ∀ e : Ex, (okE ah S e = true -> atE ah S e = -1) /\ (okE ah S e = false -> 0 <= atE ah S e)
 | .mk op nm n pos ks => by
   have h := atEs_ok ah S ks
   rw [okE, atE]
   cases zbP ah S op nm ks.length with
   | true => simpa using h
   | false => exact ⟨fun h => by simp at h, fun _ => by simp⟩
theorem atEs_ok (ah : List Nd) (S : List Bs) : ∀ l : List Ex, (okEs ah S l = true -> atEs ah S l = -1) /\ (okEs ah S l = false -> 0 <= atEs ah S l)
 | [] => ⟨fun _ => rfl, fun h => by simp [okEs] at h⟩
 | e :: l => by
   have h1 := atE_ok ah S e
   have h2 := atEs_ok ah S l
   rw [okEs, atEs]
   cases he : okE ah S e with
   | true =>
     rw [if_pos (h1.1 he)]
     simpa using h2
   | false =>
     have := h1.2 he
     rw [if_neg (by omega)]
     exact ⟨fun h => by simp at h, fun _ => this⟩
end
theorem zdv (ah : List Nd) (S : List Bs) {l : List Ex} {i : Nat} {e : Ex} (h : l[i]? = some e) : atEs ah S (l.drop i) = if atE ah S e = -1 then atEs ah S (l.drop (i + 1)) else atE ah S e := by
 have hlt := (List.getElem?_eq_some_iff.1 h).1
 rw [List.getElem?_eq_getElem hlt] at h
 simp only [Option.some.injEq] at h
 rw [List.drop_eq_getElem_cons hlt, h, atEs]
theorem zcn {e : Ex} : ∀ {l : List Ex}, e ∈ l -> e.wt <= Ex.wts l
 | [], h => by simp at h
 | a :: l, h => by
   rw [Ex.wts]
   rcases List.mem_cons.1 h with rfl | h
   · omega
   · have := zcn h; omega
theorem zcw : ∀ l : List Ex, l.length <= Ex.wts l
 | [] => by simp
 | a :: l => by
   have h1 := zcw l
   have h2 : 1 <= a.wt := by cases a; simp [Ex.wt]
   rw [Ex.wts, List.length_cons]; omega
theorem ex_ind {P : Ex -> Prop} (h : ∀ op nm n pos ks, (∀ k ∈ ks, P k) -> P (.mk op nm n pos ks)) : ∀ (w : Nat) (e : Ex), e.wt <= w -> P e
 | 0, .mk op nm n pos ks, hw => by simp [Ex.wt] at hw
 | w + 1, .mk op nm n pos ks, hw => h op nm n pos ks fun k hk => ex_ind h w k (by
     have := zcn hk
     rw [Ex.wt] at hw
     omega)
theorem zer {P : Ex -> Prop} (h : ∀ op nm n pos ks, (∀ k ∈ ks, P k) -> P (.mk op nm n pos ks)) (e : Ex) : P e := ex_ind h e.wt e (Nat.le_refl _)
def opsAll : List Bs := [sInt, sBool, sVar, sNot, sNeg, sPre, [43], [45], [42], [47], [109, 111, 100], [60], [60, 61], [62], [62, 61], [97, 110, 100], [111, 114], [120, 111, 114], [61], [60, 62], [45, 62], sFby, sWhen, sIf, sMerge, sCall]
mutual
def opsIn : Ex -> Bool
 | .mk op _ _ _ ks => opsAll.contains op && zaJ ks
def zaJ : List Ex -> Bool
 | [] => true
 | e :: l => opsIn e && zaJ l
end
theorem zg2 {e : Ex} : ∀ {l : List Ex}, zaJ l = true -> e ∈ l -> opsIn e = true
 | [], _, h => by simp at h
 | a :: l, h, hm => by
   rw [zaJ, Bool.and_eq_true] at h
   rcases List.mem_cons.1 hm with rfl | hm
   · exact h.1
   · exact zg2 h.2 hm
theorem opsW_in {o : Wd} (h : o ∈ opsW) : opsAll.contains o.text = true := (by decide +kernel : ∀ o ∈ opsW, opsAll.contains o.text = true) o h
theorem unsW_in {op : Bs} {o : Wd} (h : (op, o) ∈ unsW) : opsAll.contains op = true := (by decide +kernel : ∀ p ∈ unsW, opsAll.contains p.1 = true) (op, o) h
mutual
theorem zcX : ∀ {e : Ex} {w : List Wd} {t : Bs}, Tr e w t -> opsIn e = true
 | _, _, _, .int h => by simp [opsIn, zaJ]; decide
 | _, _, _, .tt => by simp [opsIn, zaJ]; decide
 | _, _, _, .ff => by simp [opsIn, zaJ]; decide
 | _, _, _, .var h => by simp [opsIn, zaJ]; decide
 | _, _, _, .call0 h => by simp [opsIn, zaJ]; decide
 | _, _, _, .call h he hl => by
   rw [opsIn, zaJ, zcX he, trs_ops hl]; decide
 | _, _, _, .un ho hk => by rw [opsIn, zaJ, zaJ, zcX hk, unsW_in ho]; rfl
 | _, _, _, .whn h hk => by rw [opsIn, zaJ, zaJ, zcX hk]; decide
 | _, _, _, .whnot h hk => by rw [opsIn, zaJ, zaJ, zcX hk]; decide
 | _, _, _, .ite ha hb hc => by rw [opsIn, zaJ, zaJ, zaJ, zaJ, zcX ha, zcX hb, zcX hc]; decide
 | _, _, _, .merge h ha hb => by rw [opsIn, zaJ, zaJ, zaJ, trp_ops ha, trp_ops hb]; decide
 | _, _, _, .bin ho ha hb => by rw [opsIn, zaJ, zaJ, zaJ, zcX ha, zcX hb, opsW_in ho]; rfl
theorem trs_ops : ∀ {l : List Ex} {w : List Wd} {t : Bs}, Trs l w t -> zaJ l = true
 | _, _, _, .nil => rfl
 | _, _, _, .cons he hl => by rw [zaJ, zcX he, trs_ops hl]; rfl
theorem trp_ops : ∀ {e : Ex} {w : List Wd} {t : Bs}, Trp e w t -> opsIn e = true
 | _, _, _, .var h => by simp [opsIn, zaJ]; decide
 | _, _, _, .of hn h => zcX h
end
def outS (s : List Bs) (l : List Eqn) : Nat := (l.filter fun q => !s.contains q.name).length
theorem outS_le (s t : List Bs) (h : ∀ x, s.contains x = true -> t.contains x = true) : ∀ l, outS t l <= outS s l
 | [] => Nat.le_refl _
 | q :: l => by
   have ih := outS_le s t h l
   have hq := h q.name
   unfold outS at ih ⊢
   rw [List.filter_cons, List.filter_cons]
   cases hs : s.contains q.name with
   | true => rw [hq hs]; simpa using ih
   | false => cases t.contains q.name <;> simp only [Bool.not_true, Bool.not_false, Bool.false_eq_true, if_false, if_true, List.length_cons] <;> omega
theorem outS_lt (s t : List Bs) (h : ∀ x, s.contains x = true -> t.contains x = true) {q : Eqn} (h1 : s.contains q.name = false) (h2 : t.contains q.name = true) : ∀ l, q ∈ l -> outS t l < outS s l
 | [], hm => by simp at hm
 | a :: l, hm => by
   have hle := outS_le s t h l
   rcases List.mem_cons.1 hm with rfl | hm
   · unfold outS at hle ⊢
     rw [List.filter_cons, List.filter_cons, h1, h2]
     simp only [Bool.not_true, Bool.not_false, Bool.false_eq_true, if_false, if_true, List.length_cons]; omega
   · have ih := outS_lt s t h h1 h2 l hm
     have hq := h a.name
     unfold outS at ih ⊢
     rw [List.filter_cons, List.filter_cons]
     cases hs : s.contains a.name with
     | true => rw [hq hs]; simpa using ih
     | false => cases t.contains a.name <;> simp only [Bool.not_true, Bool.not_false, Bool.false_eq_true, if_false, if_true, List.length_cons] <;> omega
theorem zen : ∀ (l : List Eqn) (s : List Bs) (m : Bool), ∀ x, s.contains x = true -> (lateR l s m).1.contains x = true
 | [], s, m, x, h => by rw [lateR]; exact h
 | q :: l, s, m, x, h => by
   rw [lateR]
   split
   · exact zen l _ _ x (by rw [List.contains_eq_mem] at h ⊢; simp at h ⊢; exact .inl h)
   · exact zen l _ _ x h
theorem zfE (eqs : List Eqn) : ∀ (l : List Eqn) (s : List Bs), (∀ q ∈ l, q ∈ eqs) -> (lateR l s false).2 = true -> outS (lateR l s false).1 eqs < outS s eqs
 | [], s, _, h => by rw [lateR] at h; cases h
 | q :: l, s, hl, h => by
   rw [lateR] at h ⊢
   split
   · rename_i hc
     simp only [Bool.and_eq_true, Bool.not_eq_true'] at hc
     exact outS_lt s _ (fun x hx => zen l _ _ x (by rw [List.contains_eq_mem] at hx ⊢; simp at hx ⊢; exact .inl hx)) hc.1 (zen l _ _ _ (by rw [List.contains_eq_mem]; simp)) eqs (hl q (by simp))
   · rename_i hc
     rw [if_neg hc] at h
     exact zfE eqs l s (fun q hq => hl q (by simp [hq])) h
def tA : Bs := [110, 111, 100, 101, 32, 102, 40, 120, 58, 32, 105, 110, 116, 41, 32, 114, 101, 116, 117, 114, 110, 115, 32, 40, 121, 58, 32, 105, 110, 116, 41, 59, 32, 108, 101, 116, 32, 121, 32, 61, 32, 120, 59, 32, 116, 101, 108]
def ndA : Nd := ⟨[102], [⟨[120], 2, [], false, 7⟩], [⟨[121], 2, [], false, 24⟩], [], [⟨[121], .mk sVar [120] 0 41 [], 37⟩], 0⟩
theorem tree_A : zbN [ndA] = true := by decide +kernel
theorem parse_A : parse tA = .ok [ndA] := by kernel_rfl
end Go.Syn
namespace Go.Proofs.YtnejkhhnpbcmaaaGreatDoor
open Go Go.Abs Go.RowKit
noncomputable def named : String -> Option TypeId := fun s => if s = "*errors.errorString" then some 273 else none
theorem named_one (name : String) (u u' : TypeId) (h : named name = some u) (h' : Tryz.prog.typeName? 3 u' = some name) : u' = u := by
 unfold named at h
 split at h <;> try (simp at h; done)
 rename_i e; subst e
 simp only [Option.some.injEq] at h; subst h
 exact typeName_ptr_named (nm := "errors.errorString") (by kernel_rfl) (by kernel_rfl) (by decide) u' h'
def zcG : List (String × DataW Unit) := [("math/bits.deBruijn32tab", Rows.laid_math_bits_deBruijn32tab), ("math/bits.deBruijn64tab", Rows.laid_math_bits_deBruijn64tab), ("internal/strconv.uint64pow10", Rows.laid_internal_strconv_uint64pow10), ("unicode/utf8.acceptRanges", Rows.laid_unicode_utf8_acceptRanges), ("strconv.ErrRange", Rows.laid_strconv_ErrRange), ("strconv.ErrSyntax", Rows.laid_strconv_ErrSyntax), ("unicode/utf8.first", Rows.laid_unicode_utf8_first)]
noncomputable def tab : List (Nat × List AV) := (zcO Tryz.prog named 8 zcG).getD []
theorem tab_ok : (zcO Tryz.prog named 8 zcG).isSome = true := by kernel_rfl
theorem laid_start {w : World} (h : laidMet Tryz.prog zcG w) : GRel (Env.start w) (Gof tab) := laid_met named_one tab_ok h
end Go.Proofs.YtnejkhhnpbcmaaaGreatDoor
namespace Go.Abs
open Go Go.RowKit Go.WideShapes Go.ChangeShapes
section
variable {H : Type} {enc : TypeId × Value -> H} {P : Program}
theorem Olds.stays (hl : laidOutB P = true) {W W' : World} (hb : Olds W W') (sp : Nat -> Bool) : ∀ {ts : List TypeId} {vs : List Value} {ds : List (DataW H)} {ps : List MemPlace}, (∀ t ∈ ts, P.readableRec t = true /\ t < P.types.size) ->
  DataW.TrodAll enc P W 0 (fun _ => true) true ts vs ds ps -> (∀ x ∈ ps, x.block < W.heap.size /\ sp x.block = true) -> DataW.TrodAll enc P W' 0 sp true ts vs ds ps
 | [], [], [], ps, _, h, _ => h
 | t :: ts, v :: vs, d :: ds, ps, ht, h, hp => by
   obtain ⟨p, q, h1, h2, rfl⟩ := h
   obtain ⟨hr, hrow⟩ := ht t (by simp)
   refine ⟨p, q, ?_, Olds.stays hl hb sp (fun t ht' => ht t (by simp [ht'])) h2 (fun x hx => hp x (by simp [hx])), rfl⟩
   exact WideElems.Trod_stays hl hr hrow h1 (fun x hx => hb.same (hp x (by simp [hx])).1) (fun x hx => (hp x (by simp [hx])).2)
 | [], [], _ :: _, _, _, h, _ => h.elim
 | [], _ :: _, _, _, _, h, _ => by cases h
 | _ :: _, [], _, _, _, h, _ => by cases h
 | _ :: _, _ :: _, [], _, _, h, _ => by cases h
theorem open_arg {n : Nat} {t : TypeId} {v : Value} {d : DataW H} {ps : List MemPlace} {W : World} {base : Nat} (ht : zbM P n t = true) (hs : (match P.underlying t with | some (.struct _) => false | _ => true) = true)
  (hv : Value.okWide P W .any base t v) (h : DataW.Trod enc P W 0 (fun _ => true) true t v d ps) : ∃ a, VRel (Env.start W) a v /\ Shp P n t [a] := by
 obtain ⟨fuel, h⟩ := h
 obtain ⟨as_, h1, h2⟩ := ze6 ht h
 have hc : v.cells = #[v] := by
  unfold Value.okWide at hv
  have h0 := ht
  cases n with
  | zero => simp [zbM] at ht
  | succ n =>
    unfold zbM at ht
    split at ht <;> rename_i hu <;> first
     | (rw [hu] at hs; simp at hs; done)
     | (simp at ht; done)
     | (rw [hu] at hv
        simp only [Cell.okWide, hu] at hv
        cases v <;> first | rfl | (simp [Cell.ok, hu] at hv; done))
 rw [hc] at h1
 cases h1 with | cons h t => cases t; exact ⟨_, h, h2⟩
end
end Go.Abs
namespace Go.Abs
open Go
attribute [simp] zaH zga zbf aop zeK zdU afind asame keyed atup zdT zhE apure aval tput zf5 zel zcJ abin aint2 ashift astr2 aeqIn zcm aun aconv zgR zdY zgW zd9 afield zd8 aindex zfq alen acap amin amax abuild afill zeF aagg zew aread aat acut zaK zbR zfd zdM arep aeff zaF acopy aclear ares zcU zhD avals zgd aopt splice Region.isConst zbt isSeq
@[simp] theorem eff_same (H : AHeap) : H.eff .same = H := rfl
@[simp] theorem eff_put (H : AHeap) (i : Nat) (x : AObj) : H.eff (.put i x) = H.set i x := rfl
@[simp] theorem eff_new (H : AHeap) (x : AObj) : H.eff (.new x) = H.push x := rfl
@[simp] theorem eff_move (H : AHeap) (i : Nat) (x : AObj) : H.eff (.move i x) = (H.kill i).push x := rfl
@[simp] theorem scalar_bool (b : Bool) : (AV.bool b).scalar = true := rfl
@[simp] theorem scalar_int (k : IntKind) (n : Int) : (AV.int k n).scalar = true := rfl
@[simp] theorem scalar_str (s : List UInt8) : (AV.str s).scalar = true := rfl
@[simp] theorem scalar_nilptr : AV.nilptr.scalar = true := rfl
@[simp] theorem scalar_ptr (i o : Nat) : (AV.ptr i o).scalar = true := rfl
@[simp] theorem scalar_vptr (c : List AV) : (AV.vptr c).scalar = true := rfl
@[simp] theorem scalar_nilsl : AV.nilsl.scalar = true := rfl
@[simp] theorem scalar_sl (i o z l c : Nat) (b : Bool) : (AV.sl i o z l c b).scalar = true := rfl
@[simp] theorem scalar_vsl (c : List AV) (n : Nat) : (AV.vsl c n).scalar = true := rfl
@[simp] theorem scalar_nilmap : AV.nilmap.scalar = true := rfl
@[simp] theorem scalar_func (f : Fn) (a b : List AV) : (AV.func f a b).scalar = true := rfl
@[simp] theorem scalar_nilfunc : AV.nilfunc.scalar = true := rfl
@[simp] theorem scalar_iface (t : TypeId) (v : AV) : (AV.iface t v).scalar = true := rfl
@[simp] theorem scalar_niliface : AV.niliface.scalar = true := rfl
@[simp] theorem cells_agg (c : List AV) : (AV.agg c).cells = c := rfl
@[simp] theorem cells_bool (b : Bool) : (AV.bool b).cells = [.bool b] := rfl
@[simp] theorem cells_int (k : IntKind) (n : Int) : (AV.int k n).cells = [.int k n] := rfl
@[simp] theorem cells_str (s : List UInt8) : (AV.str s).cells = [.str s] := rfl
@[simp] theorem cells_nilptr : AV.nilptr.cells = [.nilptr] := rfl
@[simp] theorem cells_ptr (i o : Nat) : (AV.ptr i o).cells = [.ptr i o] := rfl
@[simp] theorem cells_vptr (c : List AV) : (AV.vptr c).cells = [.vptr c] := rfl
@[simp] theorem cells_nilsl : AV.nilsl.cells = [.nilsl] := rfl
@[simp] theorem cells_sl (i o z l c : Nat) (b : Bool) : (AV.sl i o z l c b).cells = [.sl i o z l c b] := rfl
@[simp] theorem cells_vsl (c : List AV) (n : Nat) : (AV.vsl c n).cells = [.vsl c n] := rfl
@[simp] theorem scalar_csl (c : List AV) (n : Nat) : (AV.csl c n).scalar = true := rfl
@[simp] theorem cells_csl (c : List AV) (n : Nat) : (AV.csl c n).cells = [.csl c n] := rfl
@[simp] theorem cells_nilmap : AV.nilmap.cells = [.nilmap] := rfl
@[simp] theorem cells_func (f : Fn) (a b : List AV) : (AV.func f a b).cells = [.func f a b] := rfl
@[simp] theorem cells_nilfunc : AV.nilfunc.cells = [.nilfunc] := rfl
@[simp] theorem cells_iface (t : TypeId) (v : AV) : (AV.iface t v).cells = [.iface t v] := rfl
@[simp] theorem cells_niliface : AV.niliface.cells = [.niliface] := rfl
@[simp] theorem cells_tuple (v : List AV) : (AV.tuple v).cells = [.tuple v] := rfl
theorem zac {H : AHeap} (hw : H.Wf) {i : Nat} {x : AObj} (h : H.get i = some x) : i < H.next := (hw i x h).1
@[simp] theorem push_set (H : AHeap) (x y : AObj) : (H.push x).set H.next y = H.push y := by
 refine AHeap.ext' rfl fun i => ?_
 simp only [AHeap.get_set, AHeap.get_push]
 split <;> rfl
@[simp] theorem set_set (H : AHeap) (i : Nat) (x y : AObj) : (H.set i x).set i y = H.set i y := AHeap.set_set H i x y
@[simp] theorem int_beq (a b : Int) : (a == b) = decide (a = b) := by
 rw [Bool.eq_iff_iff]; simp
end Go.Abs
namespace Go.Proofs
open Go Go.Abs
@[simp] theorem Tryz.asize2 : asize Tryz.prog 2 = some 1 := by kernel_rfl
@[simp] theorem Tryz.info2 : Tryz.prog.info? 2 = some Tryz.t2 := by kernel_rfl
@[simp] theorem Tryz.tsize2 : Tryz.t2.size = 1 := by kernel_rfl
@[simp] theorem Tryz.tbytes2 : Tryz.t2.bytes = 8 := by kernel_rfl
@[simp] theorem Tryz.builder2 : zan Tryz.prog 2 = false := by kernel_rfl
@[simp] theorem Tryz.azero2 : azero Tryz.prog 2 = some (.int .i64 (0)) := by kernel_rfl
@[simp] theorem Tryz.asize3 : asize Tryz.prog 3 = some 1 := by kernel_rfl
@[simp] theorem Tryz.info3 : Tryz.prog.info? 3 = some Tryz.t3 := by kernel_rfl
@[simp] theorem Tryz.tsize3 : Tryz.t3.size = 1 := by kernel_rfl
@[simp] theorem Tryz.tbytes3 : Tryz.t3.bytes = 8 := by kernel_rfl
@[simp] theorem Tryz.builder3 : zan Tryz.prog 3 = false := by kernel_rfl
@[simp] theorem Tryz.azero3 : azero Tryz.prog 3 = some (.int .i64 (0)) := by kernel_rfl
@[simp] theorem Tryz.asize4 : asize Tryz.prog 4 = some 1 := by kernel_rfl
@[simp] theorem Tryz.info4 : Tryz.prog.info? 4 = some Tryz.t4 := by kernel_rfl
@[simp] theorem Tryz.tsize4 : Tryz.t4.size = 1 := by kernel_rfl
@[simp] theorem Tryz.tbytes4 : Tryz.t4.bytes = 1 := by kernel_rfl
@[simp] theorem Tryz.builder4 : zan Tryz.prog 4 = false := by kernel_rfl
@[simp] theorem Tryz.azero4 : azero Tryz.prog 4 = some (.bool false) := by kernel_rfl
@[simp] theorem Tryz.asize5 : asize Tryz.prog 5 = some 1 := by kernel_rfl
@[simp] theorem Tryz.info5 : Tryz.prog.info? 5 = some Tryz.t5 := by kernel_rfl
@[simp] theorem Tryz.tsize5 : Tryz.t5.size = 1 := by kernel_rfl
@[simp] theorem Tryz.tbytes5 : Tryz.t5.bytes = 1 := by kernel_rfl
@[simp] theorem Tryz.builder5 : zan Tryz.prog 5 = false := by kernel_rfl
@[simp] theorem Tryz.azero5 : azero Tryz.prog 5 = some (.int .u8 (0)) := by kernel_rfl
@[simp] theorem Tryz.asize9 : asize Tryz.prog 9 = some 1 := by kernel_rfl
@[simp] theorem Tryz.info9 : Tryz.prog.info? 9 = some Tryz.t9 := by kernel_rfl
@[simp] theorem Tryz.tsize9 : Tryz.t9.size = 1 := by kernel_rfl
@[simp] theorem Tryz.tbytes9 : Tryz.t9.bytes = 16 := by kernel_rfl
@[simp] theorem Tryz.builder9 : zan Tryz.prog 9 = false := by kernel_rfl
@[simp] theorem Tryz.azero9 : azero Tryz.prog 9 = some (.str []) := by kernel_rfl
@[simp] theorem Tryz.asize23 : asize Tryz.prog 23 = some 1 := by kernel_rfl
@[simp] theorem Tryz.info23 : Tryz.prog.info? 23 = some Tryz.t23 := by kernel_rfl
@[simp] theorem Tryz.tsize23 : Tryz.t23.size = 1 := by kernel_rfl
@[simp] theorem Tryz.tbytes23 : Tryz.t23.bytes = 24 := by kernel_rfl
@[simp] theorem Tryz.builder23 : zan Tryz.prog 23 = false := by kernel_rfl
@[simp] theorem Tryz.azero23 : azero Tryz.prog 23 = some (.nilsl) := by kernel_rfl
@[simp] theorem Tryz.asize24 : asize Tryz.prog 24 = some 1 := by kernel_rfl
@[simp] theorem Tryz.info24 : Tryz.prog.info? 24 = some Tryz.t24 := by kernel_rfl
@[simp] theorem Tryz.tsize24 : Tryz.t24.size = 1 := by kernel_rfl
@[simp] theorem Tryz.tbytes24 : Tryz.t24.bytes = 8 := by kernel_rfl
@[simp] theorem Tryz.builder24 : zan Tryz.prog 24 = false := by kernel_rfl
@[simp] theorem Tryz.azero24 : azero Tryz.prog 24 = some (.int .i64 (0)) := by kernel_rfl
@[simp] theorem Tryz.asize26 : asize Tryz.prog 26 = some 2 := by kernel_rfl
@[simp] theorem Tryz.info26 : Tryz.prog.info? 26 = some Tryz.t26 := by kernel_rfl
@[simp] theorem Tryz.tsize26 : Tryz.t26.size = 2 := by kernel_rfl
@[simp] theorem Tryz.tbytes26 : Tryz.t26.bytes = 16 := by kernel_rfl
@[simp] theorem Tryz.builder26 : zan Tryz.prog 26 = false := by kernel_rfl
@[simp] theorem Tryz.azero26 : azero Tryz.prog 26 = some (.agg [.int .i64 (0), .int .i64 (0)]) := by kernel_rfl
@[simp] theorem Tryz.asize38 : asize Tryz.prog 38 = some 1 := by kernel_rfl
@[simp] theorem Tryz.info38 : Tryz.prog.info? 38 = some Tryz.t38 := by kernel_rfl
@[simp] theorem Tryz.tsize38 : Tryz.t38.size = 1 := by kernel_rfl
@[simp] theorem Tryz.tbytes38 : Tryz.t38.bytes = 24 := by kernel_rfl
@[simp] theorem Tryz.builder38 : zan Tryz.prog 38 = false := by kernel_rfl
@[simp] theorem Tryz.azero38 : azero Tryz.prog 38 = some (.nilsl) := by kernel_rfl
@[simp] theorem Tryz.asize39 : asize Tryz.prog 39 = some 1 := by kernel_rfl
@[simp] theorem Tryz.info39 : Tryz.prog.info? 39 = some Tryz.t39 := by kernel_rfl
@[simp] theorem Tryz.tsize39 : Tryz.t39.size = 1 := by kernel_rfl
@[simp] theorem Tryz.tbytes39 : Tryz.t39.bytes = 24 := by kernel_rfl
@[simp] theorem Tryz.builder39 : zan Tryz.prog 39 = false := by kernel_rfl
@[simp] theorem Tryz.azero39 : azero Tryz.prog 39 = some (.nilsl) := by kernel_rfl
@[simp] theorem Tryz.asize41 : asize Tryz.prog 41 = some 6 := by kernel_rfl
@[simp] theorem Tryz.info41 : Tryz.prog.info? 41 = some Tryz.t41 := by kernel_rfl
@[simp] theorem Tryz.tsize41 : Tryz.t41.size = 6 := by kernel_rfl
@[simp] theorem Tryz.tbytes41 : Tryz.t41.bytes = 120 := by kernel_rfl
@[simp] theorem Tryz.builder41 : zan Tryz.prog 41 = false := by kernel_rfl
@[simp] theorem Tryz.azero41 : azero Tryz.prog 41 = some (.agg [.str [], .nilsl, .nilsl, .nilsl, .nilsl, .int .i64 (0)]) := by kernel_rfl
@[simp] theorem Tryz.asize44 : asize Tryz.prog 44 = some 1 := by kernel_rfl
@[simp] theorem Tryz.info44 : Tryz.prog.info? 44 = some Tryz.t44 := by kernel_rfl
@[simp] theorem Tryz.tsize44 : Tryz.t44.size = 1 := by kernel_rfl
@[simp] theorem Tryz.tbytes44 : Tryz.t44.bytes = 24 := by kernel_rfl
@[simp] theorem Tryz.builder44 : zan Tryz.prog 44 = false := by kernel_rfl
@[simp] theorem Tryz.azero44 : azero Tryz.prog 44 = some (.nilsl) := by kernel_rfl
@[simp] theorem Tryz.asize45 : asize Tryz.prog 45 = some 1 := by kernel_rfl
@[simp] theorem Tryz.info45 : Tryz.prog.info? 45 = some Tryz.t45 := by kernel_rfl
@[simp] theorem Tryz.tsize45 : Tryz.t45.size = 1 := by kernel_rfl
@[simp] theorem Tryz.tbytes45 : Tryz.t45.bytes = 24 := by kernel_rfl
@[simp] theorem Tryz.builder45 : zan Tryz.prog 45 = false := by kernel_rfl
@[simp] theorem Tryz.azero45 : azero Tryz.prog 45 = some (.nilsl) := by kernel_rfl
@[simp] theorem Tryz.asize47 : asize Tryz.prog 47 = some 6 := by kernel_rfl
@[simp] theorem Tryz.info47 : Tryz.prog.info? 47 = some Tryz.t47 := by kernel_rfl
@[simp] theorem Tryz.tsize47 : Tryz.t47.size = 6 := by kernel_rfl
@[simp] theorem Tryz.tbytes47 : Tryz.t47.bytes = 120 := by kernel_rfl
@[simp] theorem Tryz.builder47 : zan Tryz.prog 47 = false := by kernel_rfl
@[simp] theorem Tryz.azero47 : azero Tryz.prog 47 = some (.agg [.str [], .nilsl, .nilsl, .nilsl, .nilsl, .int .i64 (0)]) := by kernel_rfl
@[simp] theorem Tryz.asize49 : asize Tryz.prog 49 = some 1 := by kernel_rfl
@[simp] theorem Tryz.info49 : Tryz.prog.info? 49 = some Tryz.t49 := by kernel_rfl
@[simp] theorem Tryz.tsize49 : Tryz.t49.size = 1 := by kernel_rfl
@[simp] theorem Tryz.tbytes49 : Tryz.t49.bytes = 24 := by kernel_rfl
@[simp] theorem Tryz.builder49 : zan Tryz.prog 49 = false := by kernel_rfl
@[simp] theorem Tryz.azero49 : azero Tryz.prog 49 = some (.nilsl) := by kernel_rfl
@[simp] theorem Tryz.asize51 : asize Tryz.prog 51 = some 5 := by kernel_rfl
@[simp] theorem Tryz.info51 : Tryz.prog.info? 51 = some Tryz.t51 := by kernel_rfl
@[simp] theorem Tryz.tsize51 : Tryz.t51.size = 5 := by kernel_rfl
@[simp] theorem Tryz.tbytes51 : Tryz.t51.bytes = 72 := by kernel_rfl
@[simp] theorem Tryz.builder51 : zan Tryz.prog 51 = false := by kernel_rfl
@[simp] theorem Tryz.azero51 : azero Tryz.prog 51 = some (.agg [.str [], .str [], .int .i64 (0), .int .i64 (0), .nilsl]) := by kernel_rfl
@[simp] theorem Tryz.asize53 : asize Tryz.prog 53 = some 7 := by kernel_rfl
@[simp] theorem Tryz.info53 : Tryz.prog.info? 53 = some Tryz.t53 := by kernel_rfl
@[simp] theorem Tryz.tsize53 : Tryz.t53.size = 7 := by kernel_rfl
@[simp] theorem Tryz.tbytes53 : Tryz.t53.bytes = 96 := by kernel_rfl
@[simp] theorem Tryz.builder53 : zan Tryz.prog 53 = false := by kernel_rfl
@[simp] theorem Tryz.azero53 : azero Tryz.prog 53 = some (.agg [.str [], .str [], .str [], .int .i64 (0), .int .i64 (0), .nilsl, .int .i64 (0)]) := by kernel_rfl
@[simp] theorem Tryz.asize59 : asize Tryz.prog 59 = some 1 := by kernel_rfl
@[simp] theorem Tryz.info59 : Tryz.prog.info? 59 = some Tryz.t59 := by kernel_rfl
@[simp] theorem Tryz.tsize59 : Tryz.t59.size = 1 := by kernel_rfl
@[simp] theorem Tryz.tbytes59 : Tryz.t59.bytes = 24 := by kernel_rfl
@[simp] theorem Tryz.builder59 : zan Tryz.prog 59 = false := by kernel_rfl
@[simp] theorem Tryz.azero59 : azero Tryz.prog 59 = some (.nilsl) := by kernel_rfl
@[simp] theorem Tryz.asize61 : asize Tryz.prog 61 = some 5 := by kernel_rfl
@[simp] theorem Tryz.info61 : Tryz.prog.info? 61 = some Tryz.t61 := by kernel_rfl
@[simp] theorem Tryz.tsize61 : Tryz.t61.size = 5 := by kernel_rfl
@[simp] theorem Tryz.tbytes61 : Tryz.t61.bytes = 72 := by kernel_rfl
@[simp] theorem Tryz.builder61 : zan Tryz.prog 61 = false := by kernel_rfl
@[simp] theorem Tryz.azero61 : azero Tryz.prog 61 = some (.agg [.str [], .str [], .int .i64 (0), .int .i64 (0), .nilsl]) := by kernel_rfl
@[simp] theorem Tryz.asize64 : asize Tryz.prog 64 = some 7 := by kernel_rfl
@[simp] theorem Tryz.info64 : Tryz.prog.info? 64 = some Tryz.t64 := by kernel_rfl
@[simp] theorem Tryz.tsize64 : Tryz.t64.size = 7 := by kernel_rfl
@[simp] theorem Tryz.tbytes64 : Tryz.t64.bytes = 96 := by kernel_rfl
@[simp] theorem Tryz.builder64 : zan Tryz.prog 64 = false := by kernel_rfl
@[simp] theorem Tryz.azero64 : azero Tryz.prog 64 = some (.agg [.str [], .str [], .str [], .int .i64 (0), .int .i64 (0), .nilsl, .int .i64 (0)]) := by kernel_rfl
@[simp] theorem Tryz.asize65 : asize Tryz.prog 65 = some 1 := by kernel_rfl
@[simp] theorem Tryz.info65 : Tryz.prog.info? 65 = some Tryz.t65 := by kernel_rfl
@[simp] theorem Tryz.tsize65 : Tryz.t65.size = 1 := by kernel_rfl
@[simp] theorem Tryz.tbytes65 : Tryz.t65.bytes = 24 := by kernel_rfl
@[simp] theorem Tryz.builder65 : zan Tryz.prog 65 = false := by kernel_rfl
@[simp] theorem Tryz.azero65 : azero Tryz.prog 65 = some (.nilsl) := by kernel_rfl
@[simp] theorem Tryz.asize70 : asize Tryz.prog 70 = some 6 := by kernel_rfl
@[simp] theorem Tryz.info70 : Tryz.prog.info? 70 = some Tryz.t70 := by kernel_rfl
@[simp] theorem Tryz.tsize70 : Tryz.t70.size = 6 := by kernel_rfl
@[simp] theorem Tryz.tbytes70 : Tryz.t70.bytes = 64 := by kernel_rfl
@[simp] theorem Tryz.builder70 : zan Tryz.prog 70 = false := by kernel_rfl
@[simp] theorem Tryz.azero70 : azero Tryz.prog 70 = some (.agg [.nilsl, .int .i64 (0), .int .i64 (0), .int .i64 (0), .int .i64 (0), .int .i64 (0)]) := by kernel_rfl
@[simp] theorem Tryz.asize72 : asize Tryz.prog 72 = some 4 := by kernel_rfl
@[simp] theorem Tryz.info72 : Tryz.prog.info? 72 = some Tryz.t72 := by kernel_rfl
@[simp] theorem Tryz.tsize72 : Tryz.t72.size = 4 := by kernel_rfl
@[simp] theorem Tryz.tbytes72 : Tryz.t72.bytes = 40 := by kernel_rfl
@[simp] theorem Tryz.builder72 : zan Tryz.prog 72 = false := by kernel_rfl
@[simp] theorem Tryz.azero72 : azero Tryz.prog 72 = some (.agg [.int .i64 (0), .str [], .int .i64 (0), .int .i64 (0)]) := by kernel_rfl
@[simp] theorem Tryz.asize77 : asize Tryz.prog 77 = some 5 := by kernel_rfl
@[simp] theorem Tryz.info77 : Tryz.prog.info? 77 = some Tryz.t77 := by kernel_rfl
@[simp] theorem Tryz.tsize77 : Tryz.t77.size = 5 := by kernel_rfl
@[simp] theorem Tryz.tbytes77 : Tryz.t77.bytes = 56 := by kernel_rfl
@[simp] theorem Tryz.builder77 : zan Tryz.prog 77 = false := by kernel_rfl
@[simp] theorem Tryz.azero77 : azero Tryz.prog 77 = some (.agg [.str [], .int .i64 (0), .str [], .bool false, .int .i64 (0)]) := by kernel_rfl
@[simp] theorem Tryz.asize99 : asize Tryz.prog 99 = some 1 := by kernel_rfl
@[simp] theorem Tryz.info99 : Tryz.prog.info? 99 = some Tryz.t99 := by kernel_rfl
@[simp] theorem Tryz.tsize99 : Tryz.t99.size = 1 := by kernel_rfl
@[simp] theorem Tryz.tbytes99 : Tryz.t99.bytes = 8 := by kernel_rfl
@[simp] theorem Tryz.builder99 : zan Tryz.prog 99 = false := by kernel_rfl
@[simp] theorem Tryz.azero99 : azero Tryz.prog 99 = some (.nilmap) := by kernel_rfl
@[simp] theorem Tryz.asize101 : asize Tryz.prog 101 = some 8 := by kernel_rfl
@[simp] theorem Tryz.info101 : Tryz.prog.info? 101 = some Tryz.t101 := by kernel_rfl
@[simp] theorem Tryz.tsize101 : Tryz.t101.size = 8 := by kernel_rfl
@[simp] theorem Tryz.tbytes101 : Tryz.t101.bytes = 152 := by kernel_rfl
@[simp] theorem Tryz.builder101 : zan Tryz.prog 101 = false := by kernel_rfl
@[simp] theorem Tryz.azero101 : azero Tryz.prog 101 = some (.agg [.nilsl, .str [], .nilsl, .nilsl, .nilsl, .nilsl, .int .i64 (0), .nilmap]) := by kernel_rfl
@[simp] theorem Tryz.asize104 : asize Tryz.prog 104 = some 1 := by kernel_rfl
@[simp] theorem Tryz.info104 : Tryz.prog.info? 104 = some Tryz.t104 := by kernel_rfl
@[simp] theorem Tryz.tsize104 : Tryz.t104.size = 1 := by kernel_rfl
@[simp] theorem Tryz.tbytes104 : Tryz.t104.bytes = 24 := by kernel_rfl
@[simp] theorem Tryz.builder104 : zan Tryz.prog 104 = false := by kernel_rfl
@[simp] theorem Tryz.azero104 : azero Tryz.prog 104 = some (.nilsl) := by kernel_rfl
@[simp] theorem Tryz.asize106 : asize Tryz.prog 106 = some 8 := by kernel_rfl
@[simp] theorem Tryz.info106 : Tryz.prog.info? 106 = some Tryz.t106 := by kernel_rfl
@[simp] theorem Tryz.tsize106 : Tryz.t106.size = 8 := by kernel_rfl
@[simp] theorem Tryz.tbytes106 : Tryz.t106.bytes = 168 := by kernel_rfl
@[simp] theorem Tryz.builder106 : zan Tryz.prog 106 = false := by kernel_rfl
@[simp] theorem Tryz.azero106 : azero Tryz.prog 106 = some (.agg [.nilsl, .str [], .nilsl, .nilsl, .nilsl, .nilsl, .int .i64 (0), .nilsl]) := by kernel_rfl
@[simp] theorem Tryz.asize109 : asize Tryz.prog 109 = some 7 := by kernel_rfl
@[simp] theorem Tryz.info109 : Tryz.prog.info? 109 = some Tryz.t109 := by kernel_rfl
@[simp] theorem Tryz.tsize109 : Tryz.t109.size = 7 := by kernel_rfl
@[simp] theorem Tryz.tbytes109 : Tryz.t109.bytes = 144 := by kernel_rfl
@[simp] theorem Tryz.builder109 : zan Tryz.prog 109 = false := by kernel_rfl
@[simp] theorem Tryz.azero109 : azero Tryz.prog 109 = some (.agg [.str [], .nilsl, .nilsl, .nilsl, .nilsl, .int .i64 (0), .nilsl]) := by kernel_rfl
@[simp] theorem Tryz.asize110 : asize Tryz.prog 110 = some 1 := by kernel_rfl
@[simp] theorem Tryz.info110 : Tryz.prog.info? 110 = some Tryz.t110 := by kernel_rfl
@[simp] theorem Tryz.tsize110 : Tryz.t110.size = 1 := by kernel_rfl
@[simp] theorem Tryz.tbytes110 : Tryz.t110.bytes = 24 := by kernel_rfl
@[simp] theorem Tryz.builder110 : zan Tryz.prog 110 = false := by kernel_rfl
@[simp] theorem Tryz.azero110 : azero Tryz.prog 110 = some (.nilsl) := by kernel_rfl
@[simp] theorem Tryz.asize111 : asize Tryz.prog 111 = some 1 := by kernel_rfl
@[simp] theorem Tryz.info111 : Tryz.prog.info? 111 = some Tryz.t111 := by kernel_rfl
@[simp] theorem Tryz.tsize111 : Tryz.t111.size = 1 := by kernel_rfl
@[simp] theorem Tryz.tbytes111 : Tryz.t111.bytes = 24 := by kernel_rfl
@[simp] theorem Tryz.builder111 : zan Tryz.prog 111 = false := by kernel_rfl
@[simp] theorem Tryz.azero111 : azero Tryz.prog 111 = some (.nilsl) := by kernel_rfl
@[simp] theorem Tryz.asize113 : asize Tryz.prog 113 = some 8 := by kernel_rfl
@[simp] theorem Tryz.info113 : Tryz.prog.info? 113 = some Tryz.t113 := by kernel_rfl
@[simp] theorem Tryz.tsize113 : Tryz.t113.size = 8 := by kernel_rfl
@[simp] theorem Tryz.tbytes113 : Tryz.t113.bytes = 128 := by kernel_rfl
@[simp] theorem Tryz.builder113 : zan Tryz.prog 113 = false := by kernel_rfl
@[simp] theorem Tryz.azero113 : azero Tryz.prog 113 = some (.agg [.str [], .str [], .int .i64 (0), .int .i64 (0), .nilsl, .nilsl, .nilsl, .bool false]) := by kernel_rfl
@[simp] theorem Tryz.asize126 : asize Tryz.prog 126 = some 1 := by kernel_rfl
@[simp] theorem Tryz.info126 : Tryz.prog.info? 126 = some Tryz.t126 := by kernel_rfl
@[simp] theorem Tryz.tsize126 : Tryz.t126.size = 1 := by kernel_rfl
@[simp] theorem Tryz.tbytes126 : Tryz.t126.bytes = 8 := by kernel_rfl
@[simp] theorem Tryz.builder126 : zan Tryz.prog 126 = false := by kernel_rfl
@[simp] theorem Tryz.azero126 : azero Tryz.prog 126 = some (.int .i64 (0)) := by kernel_rfl
@[simp] theorem Tryz.asize128 : asize Tryz.prog 128 = some 5 := by kernel_rfl
@[simp] theorem Tryz.info128 : Tryz.prog.info? 128 = some Tryz.t128 := by kernel_rfl
@[simp] theorem Tryz.tsize128 : Tryz.t128.size = 5 := by kernel_rfl
@[simp] theorem Tryz.tbytes128 : Tryz.t128.bytes = 56 := by kernel_rfl
@[simp] theorem Tryz.builder128 : zan Tryz.prog 128 = false := by kernel_rfl
@[simp] theorem Tryz.azero128 : azero Tryz.prog 128 = some (.agg [.str [], .int .i64 (0), .str [], .bool false, .int .i64 (0)]) := by kernel_rfl
@[simp] theorem Tryz.asize154 : asize Tryz.prog 154 = some 1 := by kernel_rfl
@[simp] theorem Tryz.info154 : Tryz.prog.info? 154 = some Tryz.t154 := by kernel_rfl
@[simp] theorem Tryz.tsize154 : Tryz.t154.size = 1 := by kernel_rfl
@[simp] theorem Tryz.tbytes154 : Tryz.t154.bytes = 24 := by kernel_rfl
@[simp] theorem Tryz.builder154 : zan Tryz.prog 154 = false := by kernel_rfl
@[simp] theorem Tryz.azero154 : azero Tryz.prog 154 = some (.nilsl) := by kernel_rfl
@[simp] theorem Tryz.asize170 : asize Tryz.prog 170 = some 2 := by kernel_rfl
@[simp] theorem Tryz.info170 : Tryz.prog.info? 170 = some Tryz.t170 := by kernel_rfl
@[simp] theorem Tryz.tsize170 : Tryz.t170.size = 2 := by kernel_rfl
@[simp] theorem Tryz.tbytes170 : Tryz.t170.bytes = 24 := by kernel_rfl
@[simp] theorem Tryz.builder170 : zan Tryz.prog 170 = false := by kernel_rfl
@[simp] theorem Tryz.azero170 : azero Tryz.prog 170 = some (.agg [.str [], .bool false]) := by kernel_rfl
@[simp] theorem Tryz.asize178 : asize Tryz.prog 178 = some 1 := by kernel_rfl
@[simp] theorem Tryz.info178 : Tryz.prog.info? 178 = some Tryz.t178 := by kernel_rfl
@[simp] theorem Tryz.tsize178 : Tryz.t178.size = 1 := by kernel_rfl
@[simp] theorem Tryz.tbytes178 : Tryz.t178.bytes = 8 := by kernel_rfl
@[simp] theorem Tryz.builder178 : zan Tryz.prog 178 = false := by kernel_rfl
@[simp] theorem Tryz.azero178 : azero Tryz.prog 178 = some (.nilmap) := by kernel_rfl
@[simp] theorem Tryz.asize180 : asize Tryz.prog 180 = some 2 := by kernel_rfl
@[simp] theorem Tryz.info180 : Tryz.prog.info? 180 = some Tryz.t180 := by kernel_rfl
@[simp] theorem Tryz.tsize180 : Tryz.t180.size = 2 := by kernel_rfl
@[simp] theorem Tryz.tbytes180 : Tryz.t180.bytes = 32 := by kernel_rfl
@[simp] theorem Tryz.builder180 : zan Tryz.prog 180 = false := by kernel_rfl
@[simp] theorem Tryz.azero180 : azero Tryz.prog 180 = some (.agg [.nilsl, .nilmap]) := by kernel_rfl
@[simp] theorem Tryz.asize192 : asize Tryz.prog 192 = some 1 := by kernel_rfl
@[simp] theorem Tryz.info192 : Tryz.prog.info? 192 = some Tryz.t192 := by kernel_rfl
@[simp] theorem Tryz.tsize192 : Tryz.t192.size = 1 := by kernel_rfl
@[simp] theorem Tryz.tbytes192 : Tryz.t192.bytes = 16 := by kernel_rfl
@[simp] theorem Tryz.builder192 : zan Tryz.prog 192 = false := by kernel_rfl
@[simp] theorem Tryz.azero192 : azero Tryz.prog 192 = some (.niliface) := by kernel_rfl
@[simp] theorem Tryz.asize202 : asize Tryz.prog 202 = some 1 := by kernel_rfl
@[simp] theorem Tryz.info202 : Tryz.prog.info? 202 = some Tryz.t202 := by kernel_rfl
@[simp] theorem Tryz.tsize202 : Tryz.t202.size = 1 := by kernel_rfl
@[simp] theorem Tryz.tbytes202 : Tryz.t202.bytes = 24 := by kernel_rfl
@[simp] theorem Tryz.builder202 : zan Tryz.prog 202 = false := by kernel_rfl
@[simp] theorem Tryz.azero202 : azero Tryz.prog 202 = some (.nilsl) := by kernel_rfl
@[simp] theorem Tryz.asize209 : asize Tryz.prog 209 = some 1 := by kernel_rfl
@[simp] theorem Tryz.info209 : Tryz.prog.info? 209 = some Tryz.t209 := by kernel_rfl
@[simp] theorem Tryz.tsize209 : Tryz.t209.size = 1 := by kernel_rfl
@[simp] theorem Tryz.tbytes209 : Tryz.t209.bytes = 8 := by kernel_rfl
@[simp] theorem Tryz.builder209 : zan Tryz.prog 209 = false := by kernel_rfl
@[simp] theorem Tryz.azero209 : azero Tryz.prog 209 = some (.nilptr) := by kernel_rfl
@[simp] theorem Tryz.asize211 : asize Tryz.prog 211 = some 1 := by kernel_rfl
@[simp] theorem Tryz.info211 : Tryz.prog.info? 211 = some Tryz.t211 := by kernel_rfl
@[simp] theorem Tryz.tsize211 : Tryz.t211.size = 1 := by kernel_rfl
@[simp] theorem Tryz.tbytes211 : Tryz.t211.bytes = 8 := by kernel_rfl
@[simp] theorem Tryz.builder211 : zan Tryz.prog 211 = false := by kernel_rfl
@[simp] theorem Tryz.azero211 : azero Tryz.prog 211 = some (.agg [.nilmap]) := by kernel_rfl
@[simp] theorem Tryz.asize220 : asize Tryz.prog 220 = some 256 := by kernel_rfl
@[simp] theorem Tryz.info220 : Tryz.prog.info? 220 = some Tryz.t220 := by kernel_rfl
@[simp] theorem Tryz.tsize220 : Tryz.t220.size = 256 := by kernel_rfl
@[simp] theorem Tryz.tbytes220 : Tryz.t220.bytes = 256 := by kernel_rfl
@[simp] theorem Tryz.builder220 : zan Tryz.prog 220 = false := by kernel_rfl
@[simp] theorem Tryz.asize247 : asize Tryz.prog 247 = some 1 := by kernel_rfl
@[simp] theorem Tryz.info247 : Tryz.prog.info? 247 = some Tryz.t247 := by kernel_rfl
@[simp] theorem Tryz.tsize247 : Tryz.t247.size = 1 := by kernel_rfl
@[simp] theorem Tryz.tbytes247 : Tryz.t247.bytes = 8 := by kernel_rfl
@[simp] theorem Tryz.builder247 : zan Tryz.prog 247 = false := by kernel_rfl
@[simp] theorem Tryz.azero247 : azero Tryz.prog 247 = some (.int .i64 (0)) := by kernel_rfl
@[simp] theorem Tryz.asize263 : asize Tryz.prog 263 = some 3 := by kernel_rfl
@[simp] theorem Tryz.info263 : Tryz.prog.info? 263 = some Tryz.t263 := by kernel_rfl
@[simp] theorem Tryz.tsize263 : Tryz.t263.size = 3 := by kernel_rfl
@[simp] theorem Tryz.tbytes263 : Tryz.t263.bytes = 48 := by kernel_rfl
@[simp] theorem Tryz.builder263 : zan Tryz.prog 263 = false := by kernel_rfl
@[simp] theorem Tryz.azero263 : azero Tryz.prog 263 = some (.agg [.str [], .str [], .niliface]) := by kernel_rfl
end Go.Proofs
namespace Go.Proofs.YtnejkhhnpbcmaaaGreatDoor
open Go Go.Abs Go.Lex
variable {G : Nat -> Option AV}
theorem hasPrefixL (s p : List UInt8) (H : AHeap) : Does Tryz.prog G 128 [.str s, .str p] H fun r H' => r = .bool (p.isPrefixOf s) /\ H' = H := by
 refine zaf Tryz.call128 Tryz.func128 rfl (by simp [Tryz.f128]) ?_
 by_cases h : p.length <= s.length
 · have h1 : (p.length : Int) <= s.length := by omega
   simp [h, h1]
   rw [Bool.eq_iff_iff, List.isPrefixOf_iff_prefix, List.prefix_iff_eq_take]
   simp
   exact eq_comm
 · have h1 : ¬ (p.length : Int) <= s.length := by omega
   have h2 : p.isPrefixOf s = false := by
    rw [Bool.eq_false_iff]
    intro e
    exact h (List.isPrefixOf_iff_prefix.1 e).length_le
   simp [h, h1, h2]
theorem ziu (s p : List UInt8) (H : AHeap) : Does Tryz.prog G 92 [.str s, .str p] H fun r H' => r = .bool (p.isPrefixOf s) /\ H' = H := by
 refine zaf Tryz.call92 Tryz.func92 rfl (by simp [Tryz.f92]) ?_
 simp
 refine zaa (hasPrefixL s p H) ?_
 rintro _ _ ⟨rfl, rfl⟩
 simp
theorem zhB (H : AHeap) (i : Nat) (cs : List AV) (b : UInt8) (v : Bool) (h : H.get i = some (.cells cs)) (hl : cs.length = 256) (hv : cs[b.toNat]? = some (.bool v)) :
  Does Tryz.prog G 184 [.ptr i 0, .int .u8 b.toNat] H fun r H' => r = .bool v /\ H' = H := by
 have hb := b.toNat_lt
 have h1 : (b.toNat : Int) < 256 := by omega
 have h2 : b.toNat <= 256 := by omega
 refine zaf Tryz.call184 Tryz.func184 rfl (by simp [Tryz.f184]) ?_
 simp [h, hl, hv, h1, h2]
def za0 (l : List UInt8) : List AV := (List.range 256).map fun k => .bool (l.any fun b => b.toNat == k)
@[simp] theorem zeE (l : List UInt8) : (za0 l).length = 256 := by simp [za0]
theorem zgo (l : List UInt8) (b : UInt8) : (za0 l)[b.toNat]? = some (.bool (l.contains b)) := by
 have hb := b.toNat_lt
 simp only [za0, List.getElem?_map]
 rw [List.getElem?_range hb]
 simp only [Option.map_some, Option.some.injEq, AV.bool.injEq]
 rw [Bool.eq_iff_iff]
 simp only [List.any_eq_true, beq_iff_eq, List.contains_iff_mem]
 constructor
 · rintro ⟨x, hx, e⟩
   rw [<- UInt8.toNat_inj.1 e]; exact hx
 · intro h; exact ⟨b, h, rfl⟩
theorem zgn (l : List UInt8) (b : UInt8) : (za0 l).set b.toNat (.bool true) = za0 (l ++ [b]) := by
 apply List.ext_getElem?
 intro k
 rw [List.getElem?_set]
 simp only [za0, List.getElem?_map, List.length_map, List.length_range]
 by_cases hk : k < 256
 · rw [List.getElem?_range hk]
   by_cases e : b.toNat = k
   · subst e; simp [hk]
   · rw [if_neg e]
     simp [e]
 · have : (List.range 256)[k]? = none := List.getElem?_eq_none (by simp; omega)
   rw [this]
   split <;> simp
   omega
end Go.Proofs.YtnejkhhnpbcmaaaGreatDoor
namespace Go.Abs
open Go
theorem za6 {X : Ctx} {c : Code} {Q : Post} {T : Nat -> AV} {H : AHeap} (I : Nat -> (Nat -> AV) -> AHeap -> Prop) (n : Nat) (h0 : I n T H)
  (round : ∀ n T H, I n T H -> @AWf ⟨X⟩ ⟨c⟩ ⟨QThen (fun T' H' => ∃ m, m < n /\ I m T' H') Q⟩ ⟨T⟩ H) : @AWs ⟨X⟩ ⟨.loop c⟩ ⟨Q⟩ ⟨T⟩ H :=
 aw_loop I n h0 fun n T H h => awf_of (round n T H h)
theorem aw_wf {P : Program} {G : Nat -> Option AV} {N : Nat} {c : Code} {Q : Post} {T : Nat -> AV} {H : AHeap} (h : H.Wf -> (∀ t, (T t).idLt H.next = true) -> AW P G N c Q T H) : AW P G N c Q T H := by
 intro E0 a w hG hs
 obtain ⟨⟨E, hx, hR, hT⟩, hd⟩ := hs
 exact h hR.wf (fun t => VRel.idLt hR.dom (hT.rel t)) E0 a w hG ⟨⟨E, hx, hR, hT⟩, hd⟩
theorem zai {X : Ctx} {c : Code} {Q : Post} {T : Nat -> AV} {H : AHeap} (I : Nat -> (Nat -> AV) -> AHeap -> Prop) (n : Nat) (h0 : I n T H)
  (round : ∀ n T H, I n T H -> H.Wf -> (∀ t, (T t).idLt H.next = true) -> @AWf ⟨X⟩ ⟨c⟩ ⟨QThen (fun T' H' => ∃ m, m < n /\ I m T' H') Q⟩ ⟨T⟩ H) : @AWs ⟨X⟩ ⟨.loop c⟩ ⟨Q⟩ ⟨T⟩ H :=
 aw_loop I n h0 fun n T H h => aw_wf fun hw ht => awf_of (round n T H h hw ht)
theorem over_empty (H : AHeap) : (AHeap.empty 0).over H = H := by
 refine AHeap.ext' rfl fun i => ?_
 show (match H.get i with | some x => some x | none => none) = H.get i
 cases H.get i <;> rfl
theorem Does.closed {P : Program} {f : FuncId} {b : Bool} (h : Does P (fun _ => none) f [] (AHeap.empty 0) fun r _ => r = .bool b) (H : AHeap) : Does P (fun _ => none) f [] H fun r H' => r = .bool b /\ H' = H := by
 refine ⟨fun E w vs hR hG hv => ?_⟩
 have hR' : Rel E ((AHeap.empty 0).over H) w := by rw [over_empty]; exact hR
 have ha : Rel (E.aside H w 0) (AHeap.empty 0) w := Rel.aside hR' (fun _ _ _ => Nat.zero_le _) (fun i x hi => by simp [AHeap.empty] at hi) (fun i x hi => by simp [AHeap.empty] at hi)
 cases hv
 refine (h.run _ w [] ha (fun _ _ h => by simp at h) .nil).mono ?_
 rintro v w' ⟨r, H', E', rfl, hx, hvr, hR2⟩
 cases hvr
 refine ⟨.bool b, H, E, ⟨rfl, rfl⟩, Ext.refl E, .bool b, ?_⟩
 refine ⟨hR2.os.trans hx.os, hR2.out.trans hx.out, fun B o hB => hR2.K _ _ (hx.K B o hB), fun B o hB => ?_, hR.KF, hR.dom, fun i x hi => ?_, hR.inj⟩
 · refine hR2.F _ _ ?_
   rw [hx.F]
   simp only [Env.aside, hB]
 · obtain ⟨p, ob, g1, g2, g3, g4, g5⟩ := hR.live i x hi
   refine ⟨p, ob, g1, g2, g3, hR2.F _ _ ?_, g5⟩
   rw [hx.F]
   simp only [Env.aside, g3]
   rw [if_pos ⟨i, x, p, hi, g1, rfl⟩]
   exact g4
end Go.Abs
namespace Go.Proofs.YtnejkhhnpbcmaaaGreatDoor
open Go Go.Abs Go.Lex
variable {G : Nat -> Option AV}
@[simp] theorem take_ascii (l : List UInt8) : List.take 256 (za0 l) = za0 l := by rw [List.take_of_length_le]; simp
@[simp] theorem zeroSet : azero Tryz.prog 220 = some (.agg (za0 [])) := by kernel_rfl
@[simp] theorem drop_ascii (l : List UInt8) : List.drop 256 (za0 l) = [] := by rw [List.drop_of_length_le]; simp
@[simp] theorem ascii_scalar (l : List UInt8) : (∀ x ∈ za0 l, x.scalar = true) = True := by
 simp only [eq_iff_iff, iff_true]
 intro x hx
 simp only [za0, List.mem_map] at hx
 obtain ⟨k, _, rfl⟩ := hx
 rfl
theorem ziH (l : List UInt8) (c : UInt8) : List.take c.toNat (za0 l) ++ AV.bool true :: List.drop (c.toNat + 1) (za0 l) = za0 (l ++ [c]) := by
 have hc := c.toNat_lt
 rw [<- zgn, List.set_eq_take_append_cons_drop, if_pos (by rw [zeE]; omega)]
theorem makeSet (chars : List UInt8) (hc : ∀ b ∈ chars, b.toNat < 128) (hl : chars.length <= 1000000) (H : AHeap) : Does Tryz.prog G 158 [.str chars] H fun r H' => r = .tuple [.agg (za0 chars), .bool true] /\ H' = H.push (.cells (za0 chars)) := by
 refine zaf Tryz.call158 Tryz.func158 rfl (by simp [Tryz.f158]) ?_
 simp
 refine za6 (fun m T' H' => ∃ a b, chars = a ++ b /\ m = b.length /\ T' 0 = .str chars /\ T' 2 = .ptr H.next 0 /\ T' 4 = .int .i64 a.length /\ H' = H.push (.cells (za0 a))) chars.length ⟨[], chars, rfl, rfl, by simp⟩ ?_
 rintro m T H' ⟨a, b, rfl, rfl, h0, h2, h4, rfl⟩
 cases b with
 | nil => simp [h0, h2, h4]
 | cons c b =>
   have hlt : (a.length : Int) < a.length + (b.length + 1) := by omega
   have hc1 : c.toNat < 128 := hc c (by simp)
   have hc2 : ¬ (128 : Int) <= c.toNat := by omega
   have hc3 : (c.toNat : Int) < 256 := by omega
   have hc4 : c.toNat <= 255 := by omega
   have hw : IntKind.i64.wrap ((a.length : Int) + 1) = a.length + 1 := by
    simp only [List.length_append, List.length_cons] at hl
    exact IntWalk.i64_in _ (by omega)
   simp [h0, h2, h4, hlt, hc2, hc3, hc4, ziH, hw]
   refine ⟨b.length, by omega, a ++ [c], b, by simp, rfl, ?_⟩
   simp
theorem trimASCII (s set : List UInt8) (p : UInt8 -> Bool) (hp : ∀ b, set.contains b = p b) (i : Nat) (H : AHeap) (h : H.get i = some (.cells (za0 set))) : Does Tryz.prog G 159 [.str s, .ptr i 0] H fun r H' => r = .str (s.dropWhile p) /\ H' = H := by
 refine zaf Tryz.call159 Tryz.func159 rfl (by simp [Tryz.f159]) ?_
 simp
 refine za6 (fun m T' H' => ∃ q : List UInt8, s.dropWhile p = q.dropWhile p /\ m = q.length /\ T' 0 = .str q /\ T' 1 = .ptr i 0 /\ H' = H) s.length ⟨s, rfl, rfl, by simp⟩ ?_
 rintro m T H' ⟨q, hq, rfl, h0, h1, rfl⟩
 rw [hq]
 cases q with
 | nil => simp [h0, h1]
 | cons b q =>
   have hl : (0 : Int) < q.length + 1 := by omega
   have hl2 : (1 : Int) <= q.length + 1 := by omega
   simp [h0, h1, hl]
   refine zaa (zhB H' i _ b _ h (by simp) (zgo set b)) ?_
   rintro _ _ ⟨rfl, rfl⟩
   rw [hp]
   cases hb : p b with
   | true =>
     simp [h0, h1, hb, hl, hl2]
   | false => simp [h0, h1, hb]
theorem trimLeft (s set : List UInt8) (p : UInt8 -> Bool) (hp : ∀ b, set.contains b = p b) (hc : ∀ b ∈ set, b.toNat < 128) (hl : set.length <= 1000000) (h2 : 2 <= set.length) (H : AHeap) : Does Tryz.prog G 127 [.str s, .str set] H fun r H' => r = .str (s.dropWhile p) /\ H' = H := by
 refine Does.forgot (R := fun r H' => r = .str (s.dropWhile p) /\ ∀ j x, H.get j = some x -> H'.get j = some x) ?_ ?_
 · refine Does.wf Tryz.call127 fun hw _ => ?_
   have old : ∀ j x, H.get j = some x -> j ≠ H.next /\ j ≠ H.next + 1 := fun j x hj => by have := zac hw hj; omega
   refine zaf Tryz.call127 Tryz.func127 rfl (by simp [Tryz.f127]) ?_
   have hne : set ≠ [] := fun e => by subst e; simp at h2
   have hn1 : ¬ (set.length : Int) = 1 := by omega
   cases hs : s with
   | nil => simp
   | cons b q =>
     rw [<- hs]
     have hs1 : s.isEmpty = false := by rw [hs]; rfl
     have hs2 : set.isEmpty = false := by cases set <;> simp_all
     simp [hs1, hs2, hn1]
     refine zaa (makeSet set hc hl H) ?_
     rintro _ _ ⟨rfl, rfl⟩
     simp
     refine zaa (trimASCII s set p hp _ _ (by simp)) ?_
     rintro _ _ ⟨rfl, rfl⟩
     simp
     intro j x hj
     simp [hj, old j x hj]
 · rintro hw ha r H1 ⟨rfl, h⟩
   exact ⟨h, rfl, rfl, rfl⟩
theorem isIdx : IsIdx Tryz.prog 161 := ⟨⟨Tryz.f161, Tryz.func161, by kernel_rfl, by kernel_rfl, by kernel_rfl, by kernel_rfl⟩⟩
def idxB (s : List UInt8) (c : UInt8) : Int := match s.findIdx? (fun b => b == c) with
 | some i => i
 | none => -1
theorem idxB_eq (c : UInt8) : ∀ s : List UInt8, Go.Lib.indexByte s c = idxB s c
 | [] => rfl
 | b :: s => by
   rw [zfI, idxB_eq c s]
   unfold idxB
   rw [List.findIdx?_cons]
   by_cases h : b = c
   · subst h; simp
   · simp only [h, if_false, beq_iff_eq]
     cases hf : List.findIdx? (fun b => b == c) s with
     | none => simp
     | some i =>
       simp only [Option.map_some]
       rw [if_neg (by omega)]
       omega
theorem zgD (s : List UInt8) (c : UInt8) (H : AHeap) : Does Tryz.prog G 129 [.str s, .int .u8 c.toNat] H fun r H' => r = .int .i64 (idxB s c) /\ H' = H := by
 refine zaf Tryz.call129 Tryz.func129 rfl (by simp [Tryz.f129]) ?_
 simp
 refine zaa (idx_does isIdx s c.toNat H) ?_
 rintro _ _ ⟨rfl, rfl⟩
 have e : ((c.toNat : Int).toNat).toUInt8 = c := by simp
 rw [e, idxB_eq]
 simp
theorem indexByte (s : List UInt8) (c : UInt8) (H : AHeap) : Does Tryz.prog G 93 [.str s, .int .u8 c.toNat] H fun r H' => r = .int .i64 (idxB s c) /\ H' = H := by
 refine zaf Tryz.call93 Tryz.func93 rfl (by simp [Tryz.f93]) ?_
 simp
 refine zaa (zgD s c H) ?_
 rintro _ _ ⟨rfl, rfl⟩
 simp
theorem index1L (s : List UInt8) (c : UInt8) (H : AHeap) : Does Tryz.prog G 162 [.str s, .str [c]] H fun r H' => r = .int .i64 (idxB s c) /\ H' = H := by
 refine zaf Tryz.call162 Tryz.func162 rfl (by simp [Tryz.f162]) ?_
 by_cases h : [c] = s
 · subst h
   simp [idxB]
 · have h1 : ([c] == s) = false := by simpa using h
   simp [h1]
   refine zaa (zgD s c H) ?_
   rintro _ _ ⟨rfl, rfl⟩
   simp
theorem zi5 (s : List UInt8) (c : UInt8) (H : AHeap) : Does Tryz.prog G 94 [.str s, .str [c]] H fun r H' => r = .bool (s.contains c) /\ H' = H := by
 have hk : ∀ H : AHeap, Does Tryz.prog G 130 [.str s, .str [c]] H fun r H' => r = .int .i64 (idxB s c) /\ H' = H := by
  intro H
  refine zaf Tryz.call130 Tryz.func130 rfl (by simp [Tryz.f130]) ?_
  simp
  refine zaa (index1L s c H) ?_
  rintro _ _ ⟨rfl, rfl⟩
  simp
 refine zaf Tryz.call94 Tryz.func94 rfl (by simp [Tryz.f94]) ?_
 simp
 refine zaa (hk H) ?_
 rintro _ _ ⟨rfl, rfl⟩
 simp
 unfold idxB
 cases hf : s.findIdx? (fun b => b == c) with
 | none =>
   rw [List.findIdx?_eq_none_iff] at hf
   have : c ∉ s := fun h => by have := hf c h; simp at this
   simp [this]
 | some i =>
   have h := List.findIdx?_eq_some_iff_getElem.1 hf
   obtain ⟨hi, h1, _⟩ := h
   have : c ∈ s := by
    have e : s[i] = c := by simpa using h1
    rw [<- e]; exact List.getElem_mem hi
   simp [this]
theorem sliceIndex (l : List Bs) (s : Bs) (i c : Nat) (op : Bool) (H : AHeap) (hi : H.get i = some (.cells (l.map .str))) (hl : l.length <= 1000000) :
  Does Tryz.prog G 163 [.sl i 0 1 l.length c op, .str s] H fun r H' => (if l.contains s then ∃ k : Nat, r = .int .i64 k else r = .int .i64 (-1)) /\ H' = H := by
 refine zaf Tryz.call163 Tryz.func163 rfl (by simp [Tryz.f163]) ?_
 simp
 refine za6 (fun m T' H' => ∃ a b, l = a ++ b /\ m = b.length /\ s ∉ a /\ T' 0 = .sl i 0 1 l.length c op /\ T' 1 = .str s /\ T' 7 = .int .i64 l.length /\ T' 8 = .int .i64 a.length /\ H' = H) l.length ⟨[], l, rfl, rfl, by simp, by simp⟩ ?_
 rintro m T H' ⟨a, b, rfl, rfl, hn, h0, h1, h7, h8, rfl⟩
 simp only [List.length_append] at hl h0 h7
 cases b with
 | nil => simp [h0, h1, h7, h8, hn]
 | cons t b =>
   simp only [List.length_cons] at hl
   have hlt : (a.length : Int) < a.length + (b.length + 1) := by omega
   have hle : a.length <= a.length + (b.length + 1) := by omega
   have hw : IntKind.i64.wrap ((a.length : Int) + 1) = a.length + 1 := IntWalk.i64_in _ (by omega)
   have hd : List.drop a.length (List.map AV.str a) = [] := by rw [List.drop_of_length_le]; simp
   by_cases e : s = t
   · subst e
     simp [h0, h1, h7, h8, hi, hlt, hle, hw, hd]
     exact ⟨a.length, rfl⟩
   · have e1 : (s == t) = false := by simpa using e
     simp [h0, h1, h7, h8, hi, hlt, hle, hw, hd, e1]
     exact ⟨b.length, by omega, a ++ [t], b, by simp, rfl, by simp [hn, e], by simp⟩
theorem zeg (l : List Bs) (s : Bs) (i c : Nat) (op : Bool) (H : AHeap) (hi : H.get i = some (.cells (l.map .str))) (hl : l.length <= 1000000) :
  Does Tryz.prog G 131 [.sl i 0 1 l.length c op, .str s] H fun r H' => r = .bool (l.contains s) /\ H' = H := by
 refine zaf Tryz.call131 Tryz.func131 rfl (by simp [Tryz.f131]) ?_
 simp
 refine zaa (sliceIndex l s i c op H hi hl) ?_
 rintro r _ ⟨hr, rfl⟩
 cases hc : l.contains s with
 | true =>
   rw [hc, if_pos rfl] at hr
   obtain ⟨k, rfl⟩ := hr
   simp
 | false =>
   rw [hc] at hr
   simp only [Bool.false_eq_true, if_false] at hr
   subst hr
   simp
theorem kept_does (s : Bs) (H : AHeap) : Does Tryz.prog G 95 [.str s] H fun r H' => r = .bool (kept s) /\ H' = H := by
 refine Does.forgot (R := fun r H' => r = .bool (kept s) /\ ∀ j x, H.get j = some x -> H'.get j = some x) ?_ ?_
 · refine Does.wf Tryz.call95 fun hw _ => ?_
   have old : ∀ j x, H.get j = some x -> j ≠ H.next := fun j x hj => by have := zac hw hj; omega
   refine zaf Tryz.call95 Tryz.func95 rfl (by simp [Tryz.f95]) ?_
   simp
   refine zaa (zeg keptWords s H.next 21 false (H.push (.cells (keptWords.map .str))) (by simp) (by decide)) ?_
   rintro _ _ ⟨rfl, rfl⟩
   simp [kept]
   intro j x hj
   simp [hj, old j x hj]
 · rintro hw ha r H1 ⟨rfl, h⟩
   exact ⟨h, rfl, rfl, rfl⟩
theorem ze2 (s set : Bs) (p : UInt8 -> Bool) (hp : ∀ b, set.contains b = p b) (hc : ∀ b ∈ set, b.toNat < 128) (hl : set.length <= 1000000) (h2 : 2 <= set.length) (hs : s.length <= 1000000) (H : AHeap) :
  Does Tryz.prog G 91 [.str s, .str set] H fun r H' => r = .int .i64 (s.takeWhile p).length /\ H' = H := by
 refine zaf Tryz.call91 Tryz.func91 rfl (by simp [Tryz.f91]) ?_
 simp
 refine zaa (trimLeft s set p hp hc hl h2 H) ?_
 rintro _ _ ⟨rfl, rfl⟩
 have e : s.length = (s.takeWhile p).length + (s.dropWhile p).length := by rw [<- List.length_append, List.takeWhile_append_dropWhile]
 have hw : IntKind.i64.wrap ((s.length : Int) - (s.dropWhile p).length) = (s.takeWhile p).length := by
  rw [IntWalk.i64_in _ (by omega)]; omega
 simp [hw]
theorem sign_does (s : Bs) (H : AHeap) : Does Tryz.prog G 97 [.str s] H fun r H' => (match zeh s with | some t => r = .tuple [.agg [.int .i64 4, .str t, .int .i64 0, .int .i64 0], .bool true] | none => r = .tuple [.agg [.int .i64 0, .str [], .int .i64 0, .int .i64 0], .bool false]) /\ H' = H := by
 refine Does.forgot (R := fun r H' => (match zeh s with | some t => r = .tuple [.agg [.int .i64 4, .str t, .int .i64 0, .int .i64 0], .bool true] | none => r = .tuple [.agg [.int .i64 0, .str [], .int .i64 0, .int .i64 0], .bool false]) /\ ∀ j x, H.get j = some x -> H'.get j = some x) ?_ ?_
 · refine Does.wf Tryz.call97 fun hw _ => ?_
   have old : ∀ j x, H.get j = some x -> j ≠ H.next /\ j ≠ H.next + 1 := fun j x hj => by have := zac hw hj; omega
   have hkeep : ∀ x y, ∀ j z, H.get j = some z -> ((H.push x).push y).get j = some z := fun x y j z hj => by simp [hj, old j z hj]
   refine zaf Tryz.call97 Tryz.func97 rfl (by simp [Tryz.f97]) ?_
   simp
   refine za6 (fun m T' H' => ∃ a b, signs = a ++ b /\ m = b.length /\ a.find? (fun x => x.isPrefixOf s) = none /\ T' 0 = .str s /\ T' 2 = .ptr H.next 0 /\ T' 6 = .sl (H.next + 1) 0 1 16 16 false /\ T' 7 = .int .i64 16 /\ T' 8 = .int .i64 a.length /\ T' 3 = .bool false /\
    H' = (H.push (.cells [.int .i64 0, .str [], .int .i64 0, .int .i64 0])).push (.cells (signs.map .str))) 16 ⟨[], signs, rfl, rfl, rfl, by simp [signs]⟩ ?_
   rintro m T H' ⟨a, b, hab, rfl, hn, h0, h2, h6, h7, h8, h3, rfl⟩
   have hlen : a.length + b.length = 16 := by rw [<- List.length_append, <- hab]; rfl
   cases b with
   | nil =>
     have ha : a.length = 16 := by simpa using hlen
     have hs : zeh s = none := by
      unfold zeh
      rw [hab, List.append_nil]; exact hn
     simp [h0, h2, h6, h7, h8, ha, hs]
     intro j x hj
     simp [hj, old j x hj]
   | cons t b =>
     simp only [List.length_cons] at hlen
     have hlt : (a.length : Int) < 16 := by omega
     have hlt2 : a.length <= 16 := by omega
     have hlt3 : a.length < 16 := by omega
     have hw1 : IntKind.i64.wrap ((a.length : Int) + 1) = a.length + 1 := IntWalk.i64_in _ (by omega)
     have hd : List.drop a.length (List.map AV.str signs) = .str t :: b.map .str := by
      rw [hab, List.map_append, List.drop_left' (by simp)]; rfl
     have hsl : signs.length = 16 := rfl
     simp [h0, h2, h6, h7, h8, hlt, hlt2, hlt3, hd, hsl]
     refine zaa (ziu s t _) ?_
     rintro _ _ ⟨rfl, rfl⟩
     cases hp : t.isPrefixOf s with
     | true =>
       have hs : zeh s = some t := by
        unfold zeh
        rw [hab, List.find?_append, hn]
        simp [hp]
       simp [h0, h2, h6, h7, h8, hs]
       intro j x hj
       simp [hj, old j x hj]
     | false =>
       simp [h0, h2, h6, h7, h8, hw1]
       refine ⟨b.length, by omega, a ++ [t], b, by simp [hab], rfl, ?_, ?_⟩
       · rw [List.find?_eq_none] at hn
         intro x hx
         simp only [List.mem_append, List.mem_singleton] at hx
         rcases hx with hx | rfl
         · have := hn x hx
           rw [<- List.isPrefixOf_iff_prefix]; simpa using this
         · rw [<- List.isPrefixOf_iff_prefix, hp]; simp
       · simp [h3]
 · rintro hw ha r H1 ⟨hr, h⟩
   refine ⟨h, ?_, hr, rfl⟩
   cases hs : zeh s <;> rw [hs] at hr <;> subst hr <;> rfl
theorem zdG (p : UInt8 -> Bool) : ∀ s : Bs, s.drop (s.takeWhile p).length = s.dropWhile p
 | [] => rfl
 | b :: s => by
   rw [List.takeWhile_cons, List.dropWhile_cons]
   split
   · simpa using zdG p s
   · rfl
theorem betw_line (s q : Bs) (h : s.dropWhile zaz = 45 :: 45 :: q) : betw s = betw (q.dropWhile fun b => b != 10) := by
 rw [betw]
 split
 · rename_i q' h'
   rw [h] at h'
   simp only [List.cons.injEq, true_and] at h'
   rw [h']
 · rename_i h'
   exact absurd h (h' q)
theorem ziB (s : Bs) (h : ([45, 45] : Bs).isPrefixOf (s.dropWhile zaz) = false) : betw s = s.dropWhile zaz := by
 rw [betw]
 split
 · rename_i q hq
   rw [hq] at h
   simp [List.isPrefixOf] at h
 · rfl
theorem betw_nil : betw [] = [] := ziB [] rfl
@[simp] theorem take_drop_all {α : Type} (l : List α) (n : Nat) : List.take (l.length - n) (l.drop n) = l.drop n := by rw [List.take_of_length_le]; simp
theorem idxB_none {s : Bs} {c : UInt8} (h : s.findIdx? (fun b => b == c) = none) : s.dropWhile (fun b => b != c) = [] := by
 rw [List.findIdx?_eq_none_iff] at h
 induction s with
 | nil => rfl
 | cons b s ih =>
   rw [List.dropWhile_cons]
   have := h b (by simp)
   have e : (b != c) = true := by simp only [bne, this]; rfl
   rw [if_pos e]
   exact ih fun x hx => h x (by simp [hx])
theorem idxB_some {s : Bs} {c : UInt8} {i : Nat} (h : s.findIdx? (fun b => b == c) = some i) : s.dropWhile (fun b => b != c) = s.drop i /\ i < s.length := by
 induction s generalizing i with
 | nil => simp at h
 | cons b s ih =>
   rw [List.findIdx?_cons] at h
   rw [List.dropWhile_cons]
   by_cases e : b = c
   · subst e
     simp at h
     subst h
     simp
   · have e1 : (b == c) = false := by simpa using e
     have e2 : (b != c) = true := by simp [bne, e1]
     rw [e1] at h
     simp only [Bool.false_eq_true, if_false, Option.map_eq_some_iff] at h
     obtain ⟨j, hj, rfl⟩ := h
     obtain ⟨h1, h2⟩ := ih hj
     rw [if_pos e2]
     exact ⟨by simpa using h1, by simp; omega⟩
theorem blankSet (b : UInt8) : ([32, 9, 10, 13] : Bs).contains b = zaz b := by
 rw [Bool.eq_iff_iff]
 simp [zaz, or_assoc]
theorem zdu (s : Bs) (hl : s.length <= 1000000) (H : AHeap) : Does Tryz.prog G 47 [.str s] H fun r H' => (∃ n : Nat, r = .int .i64 n /\ n <= s.length /\ s.drop n = betw s) /\ H' = H := by
 refine zaf Tryz.call47 Tryz.func47 rfl (by simp [Tryz.f47]) ?_
 simp
 refine za6 (fun m T' H' => ∃ n : Nat, n <= s.length /\ m = s.length - n /\ betw (s.drop n) = betw s /\ T' 0 = .str s /\ T' 3 = .int .i64 n /\ H' = H) s.length ⟨0, by omega, by omega, rfl, by simp⟩ ?_
 rintro m T H' ⟨n, hn, rfl, hb, h0, h3, rfl⟩
 have hn1 : (n : Int) <= s.length := by omega
 simp [h0, h3, hn, hn1]
 have hdl : (s.drop n).length = s.length - n := by simp
 refine zaa (ze2 (s.drop n) _ zaz blankSet (by decide) (by decide) (by decide) (by omega) _) ?_
 rintro _ _ ⟨rfl, rfl⟩
 have htl : ((s.drop n).takeWhile zaz).length <= s.length - n := by
  rw [<- hdl]; exact (List.takeWhile_prefix zaz).length_le
 have hdd : s.drop (n + ((s.drop n).takeWhile zaz).length) = (s.drop n).dropWhile zaz := by
  rw [<- List.drop_drop, zdG]
 obtain ⟨k, hk⟩ : ∃ k, k = ((s.drop n).takeWhile zaz).length := ⟨_, rfl⟩
 rw [<- hk] at htl hdd ⊢
 obtain ⟨j, hj⟩ : ∃ j, j = n + k := ⟨_, rfl⟩
 have hw1 : IntKind.i64.wrap ((n : Int) + k) = (j : Int) := by rw [IntWalk.i64_in _ (by omega)]; omega
 have hk1 : (j : Int) <= s.length := by omega
 have hk2 : j <= s.length := by omega
 rw [<- hj] at hdd
 simp [h0, h3, hw1, hk1, hk2]
 refine zaa (ziu (s.drop j) [45, 45] _) ?_
 rintro _ _ ⟨rfl, rfl⟩
 cases hp : ([45, 45] : Bs).isPrefixOf (s.drop j) with
 | false =>
   simp [h0, h3]
   refine ⟨j, rfl, hk2, ?_⟩
   rw [<- hb, ziB _ (by rw [<- hdd]; exact hp), hdd]
 | true =>
   simp [h0, h3, hk1, hk2]
   refine zaa (indexByte (s.drop j) 10 _) ?_
   rintro _ _ ⟨rfl, rfl⟩
   obtain ⟨q, hq⟩ : ∃ q, s.drop j = 45 :: 45 :: q := by
    rw [List.isPrefixOf_iff_prefix] at hp
    obtain ⟨t, ht⟩ := hp
    exact ⟨t, ht.symm⟩
   have hbq : betw s = betw ((s.drop j).dropWhile fun b => b != 10) := by
    rw [<- hb, betw_line _ q (by rw [<- hdd]; exact hq), hq]
    rfl
   unfold idxB
   cases hf : (s.drop j).findIdx? (fun b => b == 10) with
   | none =>
     simp [h0, h3]
     refine ⟨s.length, rfl, Nat.le_refl _, ?_⟩
     rw [hbq, idxB_none hf, betw_nil]; simp
   | some i =>
     obtain ⟨g1, g2⟩ := idxB_some hf
     have g3 : ¬ ((i : Int) < 0) := by omega
     have hi2 : 2 <= i := by
      rw [hq] at hf
      rw [List.findIdx?_cons, List.findIdx?_cons] at hf
      simp at hf
      omega
     simp only [List.length_drop] at g2
     have hw2 : IntKind.i64.wrap ((j : Int) + i) = ((j + i : Nat) : Int) := by rw [IntWalk.i64_in _ (by omega)]; omega
     simp [h0, h3, g3, hw2]
     refine ⟨s.length - (j + i), by omega, j + i, by omega, rfl, ?_, by omega⟩
     rw [hbq, g1, List.drop_drop]
theorem zf6 (s : Bs) (b : UInt8) : za9 (s ++ [b]) = 10 * za9 s + (b.toNat - 48) := by simp [za9]
theorem numVal_ge (a : Bs) : ∀ b : Bs, za9 a <= za9 (a ++ b) := by
 intro b
 induction b generalizing a with
 | nil => simp
 | cons c b ih =>
   have := ih (a ++ [c])
   rw [zf6, List.append_assoc] at this
   simp only [List.singleton_append] at this
   omega
theorem zhd (a b : Bs) : strCs (a ++ b) = strCs a ++ strCs b := by simp [strCs]
theorem wrap_u64 (n : Int) (h0 : 0 <= n) (h1 : n < 18446744073709551616) : IntKind.u64.wrap n = n := by
 unfold IntKind.wrap
 simp only [IntKind.signed, IntKind.bits, Bool.false_and, Bool.false_eq_true, if_false]
 exact Int.emod_eq_of_lt h0 (by omega)
theorem wrap_u64' (n : Int) (h0 : 18446744073709551616 <= n) (h1 : n < 36893488147419103232) : IntKind.u64.wrap n = n - 18446744073709551616 := by
 unfold IntKind.wrap
 simp only [IntKind.signed, IntKind.bits, Bool.false_and, Bool.false_eq_true, if_false]
 omega
theorem ziZ (n : Int) (h0 : 0 <= n) (h1 : n < 256) : IntKind.u8.wrap n = n := by
 unfold IntKind.wrap
 simp only [IntKind.signed, IntKind.bits, Bool.false_and, Bool.false_eq_true, if_false]
 exact Int.emod_eq_of_lt h0 (by omega)
@[simp] theorem concErr : Tryz.prog.concrete 247 = true := by kernel_rfl
@[simp] theorem concNum : Tryz.prog.concrete 250 = true := by kernel_rfl
def zfv (s : Bs) : AV := if za9 s < 18446744073709551616 then .tuple [.int .u64 (za9 s), .niliface] else .tuple [.int .u64 18446744073709551615, .iface 247 (.int .i64 1)]
theorem parseUint (s : Bs) (hd : ∀ b ∈ s, zay b = true) (hs : s ≠ []) (hl : s.length <= 1000000) (H : AHeap) :
  Does Tryz.prog G 190 [.str s, .int .i64 10, .int .i64 64] H fun r H' => r = zfv s /\ H' = H := by
 refine Does.forgot (R := fun r H' => r = zfv s /\ ∀ j x, H.get j = some x -> H'.get j = some x) ?_ ?_
 · refine Does.wf Tryz.call190 fun hw _ => ?_
   have old : ∀ j x, H.get j = some x -> j ≠ H.next := fun j x hj => by have := zac hw hj; omega
   refine zaf Tryz.call190 Tryz.func190 rfl (by simp [Tryz.f190]) ?_
   have hs1 : s.isEmpty = false := by cases s <;> simp_all
   have e1 : IntKind.u64.wrap 64 = 64 := by decide
   have e2 : IntKind.u64.wrap (2 ^ min 64 IntKind.u64.bits) = 0 := by decide
   have e3 : IntKind.u64.wrap (-1) = 18446744073709551615 := by decide
   simp [hs1, e1, e2, e3]
   refine za6 (fun m T' H' => ∃ a b, s = a ++ b /\ m = b.length /\ za9 a < 18446744073709551616 /\ T' 1 = .int .i64 10 /\ T' 8 = .bool false /\ T' 10 = .int .u64 1844674407370955162 /\ T' 11 = .int .u64 18446744073709551615 /\ T' 12 = .bool false /\ T' 13 = .int .u64 (za9 a) /\
    T' 99 = .sl H.next 0 1 s.length s.length true /\ T' 100 = .int .i64 s.length /\ T' 101 = .int .i64 a.length /\ H' = H.push (.cells (strCs s))) s.length ⟨[], s, rfl, rfl, by decide, by simp [za9, strCs]⟩ ?_
   rintro m T H' ⟨a, b, rfl, rfl, hv, h1, h8, h10, h11, h12, h13, h99, h100, h101, rfl⟩
   simp only [List.length_append] at hl h99 h100
   cases b with
   | nil =>
     simp [h1, h8, h10, h11, h12, h13, h99, h100, h101]
     refine ⟨?_, ?_⟩
     · simp [zfv, hv]
     · intro j x hj
       simp [hj, old j x hj]
   | cons c b =>
     simp only [List.length_cons] at hl
     have hc := hd c (by simp)
     simp only [zay, Bool.and_eq_true, decide_eq_true_eq] at hc
     obtain ⟨hc1, hc2⟩ := hc
     obtain ⟨d, hdd⟩ : ∃ d, d = c.toNat - 48 := ⟨_, rfl⟩
     have hlt : (a.length : Int) < a.length + (b.length + 1) := by omega
     have hle : a.length <= a.length + (b.length + 1) := by omega
     have hw1 : IntKind.i64.wrap ((a.length : Int) + 1) = a.length + 1 := IntWalk.i64_in _ (by omega)
     have hdr : List.drop a.length (strCs (a ++ c :: b)) = .int .u8 c.toNat :: strCs b := by
      rw [zhd, List.drop_left' (by simp [strCs])]; rfl
     have hsl : (strCs (a ++ c :: b)).length = a.length + (b.length + 1) := by simp [strCs]
     have n1 : ¬ (c.toNat : Int) = 95 := by omega
     have n2 : (48 : Int) <= c.toNat := by omega
     have n3 : (c.toNat : Int) <= 57 := by omega
     have n4 : IntKind.u8.wrap ((c.toNat : Int) - 48) = d := by rw [ziZ _ (by omega) (by omega)]; omega
     have n5 : IntKind.u8.wrap 10 = 10 := by decide
     have n6 : ¬ (10 : Int) <= d := by omega
     have n7 : IntKind.u64.wrap 10 = 10 := by decide
     have n8 : IntKind.u64.wrap (d : Int) = d := wrap_u64 _ (by omega) (by omega)
     have hn : za9 (a ++ [c]) = 10 * za9 a + d := by rw [zf6]; omega
     have hge := numVal_ge (a ++ [c]) b
     rw [List.append_assoc, List.singleton_append] at hge
     obtain ⟨v, hvv⟩ : ∃ v, v = za9 a := ⟨_, rfl⟩
     rw [<- hvv] at hv h13 hn
     by_cases g1 : 1844674407370955162 <= v
     · have g1' : (1844674407370955162 : Int) <= v := by omega
       have hbig : ¬ za9 (a ++ c :: b) < 18446744073709551616 := by omega
       simp [h1, h8, h10, h11, h12, h13, h99, h100, h101, hlt, hle, hdr, hsl, n1, n2, n3, n4, n5, n6, n7, n8, g1']
       refine ⟨?_, ?_⟩
       · unfold zfv; rw [if_neg hbig]
       · intro j x hj
         simp [hj, old j x hj]
     · have g1' : ¬ (1844674407370955162 : Int) <= v := by omega
       have m1 : IntKind.u64.wrap ((v : Int) * 10) = v * 10 := wrap_u64 _ (by omega) (by omega)
       by_cases g2 : 10 * v + d < 18446744073709551616
       · have m2 : IntKind.u64.wrap ((v : Int) * 10 + d) = v * 10 + d := wrap_u64 _ (by omega) (by omega)
         have m3 : ¬ ((v : Int) * 10 + d < v * 10) := by omega
         have m4 : ¬ ((18446744073709551615 : Int) < v * 10 + d) := by omega
         simp [h1, h8, h10, h11, h12, h13, h99, h100, h101, hlt, hle, hdr, hsl, n1, n2, n3, n4, n5, n6, n7, n8, g1', m1, m2, m3, m4, hw1]
         refine ⟨b.length, by omega, a ++ [c], b, by simp, rfl, by omega, ?_⟩
         simp [hn]
         omega
       · have m2 : IntKind.u64.wrap ((v : Int) * 10 + d) = v * 10 + d - 18446744073709551616 := wrap_u64' _ (by omega) (by omega)
         have m3 : ((v : Int) * 10 + d - 18446744073709551616 < v * 10) := by omega
         have hbig : ¬ za9 (a ++ c :: b) < 18446744073709551616 := by omega
         simp [h1, h8, h10, h11, h12, h13, h99, h100, h101, hlt, hle, hdr, hsl, n1, n2, n3, n4, n5, n6, n7, n8, g1', m1, m2, m3]
         refine ⟨?_, ?_⟩
         · unfold zfv; rw [if_neg hbig]
         · intro j x hj
           simp [hj, old j x hj]
 · rintro hw ha r H1 ⟨rfl, h⟩
   refine ⟨h, ?_, rfl, rfl⟩
   unfold zfv; split <;> rfl
theorem wrap_i64 (n : Int) (h0 : 0 <= n) (h1 : n < 9223372036854775808) : IntKind.i64.wrap n = n := IntWalk.i64_in _ (by omega)
def intOf (s : Bs) : AV := if za9 s < 9223372036854775808 then .tuple [.int .i64 (za9 s), .niliface] else .tuple [.int .i64 9223372036854775807, .iface 247 (.int .i64 1)]
theorem parseInt (s : Bs) (hd : ∀ b ∈ s, zay b = true) (hs : s ≠ []) (hl : s.length <= 1000000) (H : AHeap) :
  Does Tryz.prog G 164 [.str s, .int .i64 10, .int .i64 64] H fun r H' => r = intOf s /\ H' = H := by
 refine zaf Tryz.call164 Tryz.func164 rfl (by simp [Tryz.f164]) ?_
 cases s with
 | nil => exact absurd rfl hs
 | cons c q =>
   have hc := hd c (by simp)
   simp only [zay, Bool.and_eq_true, decide_eq_true_eq] at hc
   have n1 : ¬ (c.toNat : Int) = 43 := by omega
   have n2 : ¬ (c.toNat : Int) = 45 := by omega
   have m1 : (0 : Int) < q.length + 1 := by omega
   simp [n1, n2, m1]
   refine zaa (parseUint (c :: q) hd hs hl H) ?_
   rintro _ _ ⟨rfl, rfl⟩
   have e1 : IntKind.u64.wrap 63 = 63 := by decide
   have e2 : IntKind.u64.wrap (2 ^ min 63 IntKind.u64.bits) = 9223372036854775808 := by decide
   have e3 : IntKind.u64.wrap 9223372036854775807 = 9223372036854775807 := by decide
   have e4 : IntKind.i64.wrap 9223372036854775807 = 9223372036854775807 := by decide
   have e5 : IntKind.i64.wrap 63 = 63 := by decide
   have e6 : Tryz.t247.comparable = true := by kernel_rfl
   obtain ⟨v, hv⟩ : ∃ v, v = za9 (c :: q) := ⟨_, rfl⟩
   unfold zfv intOf
   rw [<- hv]
   by_cases g1 : v < 9223372036854775808
   · have g2 : v < 18446744073709551616 := by omega
     have g3 : ¬ (9223372036854775808 : Int) <= v := by omega
     have g4 : IntKind.i64.wrap (v : Int) = v := wrap_i64 _ (by omega) (by omega)
     rw [if_pos g2, if_pos g1]
     simp [e1, e2, e3, e4, e5, e6, g3, g4]
   · rw [if_neg g1]
     by_cases g2 : v < 18446744073709551616
     · have g3 : (9223372036854775808 : Int) <= v := by omega
       rw [if_pos g2]
       simp [e1, e2, e3, e4, e5, e6, g3]
     · rw [if_neg g2]
       simp [e1, e2, e3, e4, e5, e6]
theorem mixedOrders : Tryz.prog.follows .mixedOrders = true := by kernel_rfl
def zdd (G : Nat -> Option AV) : Prop := ∃ t v, G 2 = some (.vptr [.iface t v])
theorem rangeError (s : Bs) (fn : Bs) (hl : s.length <= 1000000) (hG : zdd G) (H : AHeap) : Does Tryz.prog G 192 [.str fn, .str s] H fun r H' => r = .ptr H.next 0 /\ ∃ cs, H' = H.push (.cells cs) := by
 obtain ⟨et, ev, he⟩ := hG
 refine zaf Tryz.call192 Tryz.func192 rfl (by simp [Tryz.f192]) ?_
 simp
 refine zak [(3, 0), (3, 3)] ?_ ?_ ?_
 · exact mixedOrders
 · kernel_rfl
 intro es hes
 simp
 refine ⟨_, _, copy_does isCopy s (by omega) H, by simp, ?_⟩
 simp [he, rds, heapF]
 refine ⟨?_, _, rfl⟩
 subst hes
 exact ⟨by kernel_rfl, by kernel_rfl⟩
theorem toError (s : Bs) (fn : Bs) (hl : s.length <= 1000000) (hG : zdd G) (H : AHeap) : Does Tryz.prog G 165 [.str fn, .str s, .int .i64 10, .int .i64 64, .iface 247 (.int .i64 1)] H fun r H' => r = .iface 250 (.ptr H.next 0) /\ ∃ cs, H' = H.push (.cells cs) := by
 have e6 : Tryz.t247.comparable = true := by kernel_rfl
 refine zaf Tryz.call165 Tryz.func165 rfl (by simp [Tryz.f165]) ?_
 simp [e6]
 refine zaa (rangeError s fn hl hG H) ?_
 rintro _ _ ⟨rfl, cs, rfl⟩
 simp
 exact ⟨cs, rfl⟩
theorem parseInt' (s : Bs) (hd : ∀ b ∈ s, zay b = true) (hs : s ≠ []) (hl : s.length <= 1000000) (hG : zdd G) (H : AHeap) :
  Does Tryz.prog G 132 [.str s, .int .i64 10, .int .i64 64] H fun r H' => (if za9 s < 9223372036854775808 then r = .tuple [.int .i64 (za9 s), .niliface] /\ H' = H else r = .tuple [.int .i64 9223372036854775807, .iface 250 (.ptr H.next 0)] /\ ∃ cs, H' = H.push (.cells cs)) := by
 refine zaf Tryz.call132 Tryz.func132 rfl (by simp [Tryz.f132]) ?_
 simp
 refine zaa (parseInt s hd hs hl H) ?_
 rintro _ _ ⟨rfl, rfl⟩
 unfold intOf
 by_cases h : za9 s < 9223372036854775808
 · rw [if_pos h]
   simp [h]
 · rw [if_neg h]
   simp [h]
   refine zaa (toError s _ hl hG _) ?_
   rintro _ _ ⟨rfl, cs, rfl⟩
   simp
   exact ⟨by omega, cs, rfl⟩
def numN (s : Bs) : Int := if za9 s < 9223372036854775808 then za9 s else 9223372036854775807
def numOk (s : Bs) : Bool := decide (za9 s < 9223372036854775808) && (decide (s.length = 1) || decide (s.head? ≠ some 48))
theorem zjo (s : Bs) (hd : ∀ b ∈ s, zay b = true) (hs : s ≠ []) (hl : s.length <= 1000000) (hG : zdd G) (H : AHeap) :
  Does Tryz.prog G 96 [.str s] H fun r H' => r = .tuple [.agg [.int .i64 3, .str s, .int .i64 (numN s), .int .i64 0], .bool (numOk s)] /\ H' = H := by
 refine Does.forgot (R := fun r H' => r = .tuple [.agg [.int .i64 3, .str s, .int .i64 (numN s), .int .i64 0], .bool (numOk s)] /\ ∀ j x, H.get j = some x -> H'.get j = some x) ?_ ?_
 · refine Does.wf Tryz.call96 fun hw _ => ?_
   have old : ∀ j x, H.get j = some x -> j ≠ H.next /\ j ≠ H.next + 1 := fun j x hj => by have := zac hw hj; omega
   refine zaf Tryz.call96 Tryz.func96 rfl (by simp [Tryz.f96]) ?_
   simp
   refine zaa (parseInt' s hd hs hl hG _) ?_
   rintro r H1 hr
   obtain ⟨c, q, rfl⟩ : ∃ c q, s = c :: q := by
    cases s with
    | nil => exact absurd rfl hs
    | cons c q => exact ⟨c, q, rfl⟩
   have h0 : (0 : Int) < q.length + 1 := by omega
   have hg : (if za9 (c :: q) < 9223372036854775808 then r = .tuple [.int .i64 (za9 (c :: q)), .niliface] else ∃ i, r = .tuple [.int .i64 9223372036854775807, .iface 250 (.ptr i 0)]) /\ H1.get H.next = some (.cells [.int .i64 0, .str [], .int .i64 0, .int .i64 0]) /\ ∀ j x, H.get j = some x -> H1.get j = some x := by
    by_cases h : za9 (c :: q) < 9223372036854775808
    · rw [if_pos h] at hr ⊢
      obtain ⟨rfl, rfl⟩ := hr
      exact ⟨rfl, by simp, fun j x hj => by simp [hj, old j x hj]⟩
    · rw [if_neg h] at hr ⊢
      obtain ⟨rfl, cs, rfl⟩ := hr
      exact ⟨⟨_, rfl⟩, by simp, fun j x hj => by simp [hj, old j x hj]⟩
   clear hr
   obtain ⟨hr, hf, hk⟩ := hg
   have fin : ∀ j x, H.get j = some x -> ∀ cs, (H1.set H.next (.cells cs)).get j = some x := fun j x hj cs => by
    simp only [AHeap.get_set]
    rw [if_neg (old j x hj).1]; exact hk j x hj
   by_cases h : za9 (c :: q) < 9223372036854775808
   · rw [if_pos h] at hr
     subst hr
     simp
     refine zak [] mixedOrders (by kernel_rfl) ?_
     intro es hes
     by_cases hq : q = []
     · subst hq
       simp [hf, rds]
       refine ⟨?_, ?_, fun j x hj => ?_⟩
       · subst hes
         exact ⟨by kernel_rfl, by kernel_rfl⟩
       · simp [numN, numOk, h]
       · simp [old j x hj, hk j x hj]
     · have hq0 : q.length ≠ 0 := by simpa using hq
       have hq1 : ¬ ((q.length : Int) + 1 = 1) := by omega
       have hq2 : ((c.toNat : Int) = 48) ↔ c = 48 := by
        constructor
        · intro e
          have e1 : c.toNat = (48 : UInt8).toNat := by simpa using (by omega : c.toNat = 48)
          exact UInt8.toNat_inj.1 e1
        · rintro rfl; rfl
       simp [hf, rds, hq, hq1, h0]
       refine ⟨?_, ?_, fun j x hj => ?_⟩
       · subst hes
         exact ⟨by kernel_rfl, by kernel_rfl⟩
       · have hq3 : ((c.toNat : Int) != 48) = !decide (c = 48) := by
          rw [Bool.eq_iff_iff]
          simp [hq2]
         simp [numN, numOk, h, hq, hq3]
       · simp [old j x hj, hk j x hj]
   · rw [if_neg h] at hr
     obtain ⟨i, rfl⟩ := hr
     simp
     refine zak [] mixedOrders (by kernel_rfl) ?_
     intro es hes
     simp [hf, rds]
     refine ⟨?_, ?_, fun j x hj => ?_⟩
     · subst hes
       exact ⟨by kernel_rfl, by kernel_rfl⟩
     · simp [numN, numOk, h]
     · simp [old j x hj, hk j x hj]
 · rintro hw ha r H1 ⟨rfl, h⟩
   exact ⟨h, rfl, rfl, rfl⟩
def lettersL : Bs := [97,98,99,100,101,102,103,104,105,106,107,108,109,110,111,112,113,114,115,116,117,118,119,120,121,122]
def digitsL : Bs := [48,49,50,51,52,53,54,55,56,57]
def namesL : Bs := [97,98,99,100,101,102,103,104,105,106,107,108,109,110,111,112,113,114,115,116,117,118,119,120,121,122,48,49,50,51,52,53,54,55,56,57,95]
theorem byAll (p q : UInt8 -> Bool) (h : ∀ n : Fin 256, p (UInt8.ofNat n.val) = q (UInt8.ofNat n.val)) (b : UInt8) : p b = q b := by
 have := h ⟨b.toNat, b.toNat_lt⟩
 simpa using this
theorem letters_eq (b : UInt8) : lettersL.contains b = zbC b := byAll _ _ (by decide +kernel) b
theorem ziy (b : UInt8) : digitsL.contains b = zay b := byAll _ _ (by decide +kernel) b
theorem names_eq (b : UInt8) : namesL.contains b = zaC b := byAll _ _ (by decide +kernel) b
theorem zdA (p : UInt8 -> Bool) (s : Bs) : s.take (s.takeWhile p).length = s.takeWhile p := by
 have := List.takeWhile_prefix p (l := s)
 rw [List.prefix_iff_eq_take] at this
 exact this.symm
def zat (w : Wd) (i : Nat) : List AV := [.int .i64 w.kind, .str w.text, .int .i64 w.n, .int .i64 i]
def zdN (s : Bs) (r : AV) : Prop := match wordS s with
 | some w => r = .tuple [.agg (zat w 0), .bool true]
 | none => ∃ k t n, r = .tuple [.agg [.int .i64 k, .str t, .int .i64 n, .int .i64 0], .bool false]
theorem word_does (c : UInt8) (q : Bs) (hl : (c :: q).length <= 1000000) (hG : zdd G) (H : AHeap) : Does Tryz.prog G 48 [.str (c :: q)] H fun r H' => zdN (c :: q) r /\ H' = H := by
 refine Does.forgot (R := fun r H' => zdN (c :: q) r /\ ∀ j x, H.get j = some x -> H'.get j = some x) ?_ ?_
 · refine Does.wf Tryz.call48 fun hw _ => ?_
   have old : ∀ j x, H.get j = some x -> j ≠ H.next /\ j ≠ H.next + 1 := fun j x hj => by have := zac hw hj; omega
   refine zaf Tryz.call48 Tryz.func48 rfl (by simp [Tryz.f48]) ?_
   have m1 : (1 : Int) <= q.length + 1 := by omega
   simp [m1]
   refine zaa (zi5 lettersL c _) ?_
   rintro _ _ ⟨rfl, rfl⟩
   rw [letters_eq]
   cases hL : zbC c with
   | true =>
     simp
     refine zaa (ze2 (c :: q) namesL zaC names_eq (by decide) (by decide) (by decide) hl _) ?_
     rintro _ _ ⟨rfl, rfl⟩
     have ht := zdA zaC (c :: q)
     have hle : ((c :: q).takeWhile zaC).length <= (c :: q).length := (List.takeWhile_prefix zaC).length_le
     obtain ⟨t, htt⟩ : ∃ t, t = (c :: q).takeWhile zaC := ⟨_, rfl⟩
     rw [<- htt] at ht hle ⊢
     simp only [List.length_cons] at hle
     have hle' : (t.length : Int) <= q.length + 1 := by omega
     simp [hle, hle', ht]
     refine zaa (kept_does t _) ?_
     rintro _ _ ⟨rfl, rfl⟩
     cases hk : kept t with
     | true =>
       simp
       refine ⟨?_, ?_⟩
       · simp [zdN, wordS, hL, <- htt, hk, zat]
       · intro j x hj
         simp [hj, old j x hj]
     | false =>
       simp
       refine ⟨?_, ?_⟩
       · by_cases h24 : t.length <= 24
         · have : (t.length : Int) <= 24 := by omega
           simp [zdN, wordS, hL, <- htt, hk, zat, h24, this]
         · have : ¬ (t.length : Int) <= 24 := by omega
           simp [zdN, wordS, hL, <- htt, hk, zat, h24, this]
       · intro j x hj
         simp [hj, old j x hj]
   | false =>
     simp
     refine zaa (zi5 digitsL c _) ?_
     rintro _ _ ⟨rfl, rfl⟩
     rw [ziy]
     cases hD : zay c with
     | true =>
       simp
       refine zaa (ze2 (c :: q) digitsL zay ziy (by decide) (by decide) (by decide) hl _) ?_
       rintro _ _ ⟨rfl, rfl⟩
       have ht := zdA zay (c :: q)
       have hle : ((c :: q).takeWhile zay).length <= (c :: q).length := (List.takeWhile_prefix zay).length_le
       have hall : ∀ b ∈ (c :: q).takeWhile zay, zay b = true := fun b hb => List.all_eq_true.1 (List.all_takeWhile) b hb
       have hcons : (c :: q).takeWhile zay = c :: q.takeWhile zay := by rw [List.takeWhile_cons, if_pos hD]
       obtain ⟨t, htt⟩ : ∃ t, t = (c :: q).takeWhile zay := ⟨_, rfl⟩
       rw [<- htt] at ht hle hall hcons ⊢
       simp only [List.length_cons] at hle hl
       have hle' : (t.length : Int) <= q.length + 1 := by omega
       simp [hle, hle', ht]
       refine zaa (zjo t hall (by rw [hcons]; simp) (by omega) hG _) ?_
       rintro _ _ ⟨rfl, rfl⟩
       simp
       refine ⟨?_, ?_⟩
       · have hh : t.head? = some c := by rw [hcons]; rfl
         unfold zdN wordS numOk numN
         simp only [hL, hD, <- htt, hh]
         by_cases g1 : za9 t < 9223372036854775808
         · by_cases g2 : t.length = 1 \/ c ≠ 48
           · rcases g2 with g2 | g2 <;> simp [g1, g2, zat]
           · simp only [not_or] at g2
             simp [g1, g2.1, Decidable.not_not.1 g2.2]
         · simp [g1]
       · intro j x hj
         simp [hj, old j x hj]
     | false =>
       simp
       refine zaa (sign_does (c :: q) _) ?_
       rintro r _ ⟨hr, rfl⟩
       cases hs : zeh (c :: q) with
       | some t =>
         rw [hs] at hr
         simp only at hr
         subst hr
         simp
         refine ⟨?_, ?_⟩
         · simp [zdN, wordS, hL, hD, hs, zat]
         · intro j x hj
           simp [hj, old j x hj]
       | none =>
         rw [hs] at hr
         simp only at hr
         subst hr
         simp
         refine ⟨?_, ?_⟩
         · simp [zdN, wordS, hL, hD, hs, zat]
         · intro j x hj
           simp [hj, old j x hj]
 · rintro hw ha r H1 ⟨hr, h⟩
   refine ⟨h, ?_, hr, rfl⟩
   unfold zdN at hr
   split at hr
   · subst hr; rfl
   · obtain ⟨k, t, n, rfl⟩ := hr; rfl
def flatW : List (Nat × Wd) -> List AV
 | [] => []
 | (i, w) :: l => zat w i ++ flatW l
theorem zix (a b : List (Nat × Wd)) : flatW (a ++ b) = flatW a ++ flatW b := by
 induction a with
 | nil => rfl
 | cons x a ih => obtain ⟨i, w⟩ := x; simp [flatW, ih]
@[simp] theorem wdCells_length (w : Wd) (i : Nat) : (zat w i).length = 4 := rfl
@[simp] theorem flatW_length (l : List (Nat × Wd)) : (flatW l).length = l.length * 4 := by
 induction l with
 | nil => rfl
 | cons x l ih => obtain ⟨i, w⟩ := x; simp [flatW, ih]; omega
def zdH (t : Bs) : AV := if 16384 < t.length then .tuple [.nilsl, .agg [.int .i64 2, .int .i64 t.length]] else match cutS t.length t with
 | .ok l => .tuple [.vsl (flatW l ++ [.int .i64 0, .str [], .int .i64 0, .int .i64 t.length]) (l.length + 1), .agg [.int .i64 0, .int .i64 0]]
 | .error e => .tuple [.nilsl, .agg [.int .i64 7, .int .i64 e]]
def Wrds (H : AHeap) (lo : Nat) (x : AV) (ws : List (Nat × Wd)) : Prop := (x = .nilsl /\ ws = []) \/ ∃ b, x = .sl b 0 4 ws.length ws.length true /\ lo <= b /\ H.get b = some (.cells (flatW ws))
def CutR (H : AHeap) (t : Bs) (r : AV) (H1 : AHeap) : Prop := (∀ j x, H.get j = some x -> H1.get j = some x) /\
 (if 16384 < t.length then r = .tuple [.nilsl, .agg [.int .i64 2, .int .i64 t.length]] else match cutS t.length t with
 | .ok l => ∃ b, H.next <= b /\ r = .tuple [.sl b 0 4 (l.length + 1) (l.length + 1) true, .agg [.int .i64 0, .int .i64 0]] /\ H1.get b = some (.cells (flatW l ++ [.int .i64 0, .str [], .int .i64 0, .int .i64 t.length]))
 | .error e => r = .tuple [.nilsl, .agg [.int .i64 7, .int .i64 e]])
theorem CutR.okEnd {H : AHeap} {t : Bs} {ws : List (Nat × Wd)} {H2 : AHeap} {b : Nat} (hL : ¬ 16384 < t.length) (hc : cutS t.length t = .ok ws) (hb : H.next <= b)
  (hg : H2.get b = some (.cells (flatW ws ++ [.int .i64 0, .str [], .int .i64 0, .int .i64 t.length]))) (hk : ∀ j x, H.get j = some x -> H2.get j = some x) :
  CutR H t (.tuple [.sl b 0 4 (ws.length + 1) (ws.length + 1) true, .agg [.int .i64 0, .int .i64 0]]) H2 := by
 refine ⟨hk, ?_⟩
 rw [if_neg hL, hc]
 exact ⟨b, hb, rfl, hg⟩
theorem CutR.badEnd {H : AHeap} {t : Bs} {e : Nat} {H2 : AHeap} (hL : ¬ 16384 < t.length) (hc : cutS t.length t = .error e) (hk : ∀ j x, H.get j = some x -> H2.get j = some x) :
  CutR H t (.tuple [.nilsl, .agg [.int .i64 7, .int .i64 e]]) H2 := by
 refine ⟨hk, ?_⟩
 rw [if_neg hL, hc]
theorem zh4 (t : Bs) (hG : zdd G) (H : AHeap) (hbig : t.length < 9223372036854775808) : Does Tryz.prog G 23 [.str t] H (CutR H t) := by
 refine Does.wf Tryz.call23 fun hw _ => ?_
 have old : ∀ j x, H.get j = some x -> j < H.next := fun j x hj => zac hw hj
 refine zaf Tryz.call23 Tryz.func23 rfl (by simp [Tryz.f23]) ?_
 by_cases hL : 16384 < t.length
 · have hL' : (16384 : Int) < t.length := by omega
   simp [hL']
   refine ⟨fun j x hj => ?_, by simp [hL]⟩
   have := old j x hj
   have h1 : j ≠ H.next := by omega
   simp [hj, h1]
 · have hL' : ¬ (16384 : Int) < t.length := by omega
   simp [hL']
   refine zaa (zdu t (by omega) _) ?_
   rintro _ _ ⟨⟨n, rfl, hn, hbn⟩, rfl⟩
   simp
   refine zai (fun m T' H' => ∃ (ws : List (Nat × Wd)) (rest : Bs) (n : Nat), cutS t.length t = ziR ws (cutS t.length rest) /\ n <= t.length /\ t.drop n = betw rest /\ m = t.length - n /\ ws.length <= n /\
    T' 0 = .str t /\ T' 3 = .ptr H.next 0 /\ T' 5 = .int .i64 n /\ Wrds H' (H.next + 1) (T' 4) ws /\ H'.get H.next = some (.cells [.int .i64 0, .int .i64 0]) /\ (∀ j x, H.get j = some x -> H'.get j = some x)) (t.length - n) ?_ ?_
   · refine ⟨[], t, n, ?_, hn, hbn, rfl, by simp, by simp, by simp, by simp, .inl ⟨by simp, rfl⟩, by simp, fun j x hj => ?_⟩
     · cases cutS t.length t <;> rfl
     · have := old j x hj
       have h1 : j ≠ H.next := by omega
       simp [hj, h1]
   rintro m T H1 ⟨ws, rest, n, hcut, hn, hbn, rfl, hws, h0, h3, h5, h4, hf, hkeep⟩ hw1 _
   have oldn : ∀ j x, H1.get j = some x -> j < H1.next := fun j x hj => zac hw1 hj
   have hfn := oldn _ _ hf
   have hne : H.next ≠ H1.next := by omega
   have hne2 : H.next ≠ H1.next + 1 := by omega
   have hne3 : H.next ≠ H1.next + 1 + 1 := by omega
   have hgrow : ¬ (ws.length + 1 <= ws.length) := by omega
   have hws' : ws.length <= 16384 := by omega
   by_cases hend : n = t.length
   · subst hend
     have hnil : betw rest = [] := by rw [<- hbn]; simp
     have hc : cutS t.length t = .ok ws := by rw [hcut, zet hnil]; simp [ziR]
     have hfin : ∀ j x, H.get j = some x -> H1.get j = some x /\ j ≠ H.next /\ j ≠ H1.next /\ j ≠ H1.next + 1 := fun j x hj => by
      have := old j x hj
      have := oldn j x (hkeep j x hj)
      exact ⟨hkeep j x hj, by omega, by omega, by omega⟩
     rcases h4 with ⟨h4, rfl⟩ | ⟨b, h4, hlo, hb⟩
     · simp [h0, h3, h4, h5, hf, hne, hne2, hne3]
       refine CutR.okEnd hL hc (by omega) (by simp [flatW, Ne.symm hne2]) fun j x hj => ?_
       obtain ⟨k1, k2, k3, k4⟩ := hfin j x hj
       simp [k1, k2, k3, k4]
     · have hbn' := oldn _ _ hb
       have hb1 : b ≠ H1.next := by omega
       have hb2 : H.next ≠ b := by omega
       have hl1 : (ws.length + 1) * 40 <= 140737488355328 := by omega
       have hl2 : ws.length <= 4611686018427387903 := by omega
       simp [h0, h3, h4, h5, hf, hne, hne2, hne3, hb, hb1, hb2, hgrow, hl1, hl2]
       have htk : List.take (ws.length * 4) (flatW ws) = flatW ws := by rw [List.take_of_length_le]; simp
       rw [htk]
       refine CutR.okEnd hL hc (by omega) (by simp [Ne.symm hne2]) fun j x hj => ?_
       obtain ⟨k1, k2, k3, k4⟩ := hfin j x hj
       have := old j x hj
       have k5 : j ≠ b := by omega
       simp [k1, k2, k3, k4, k5]
   · have hlt : (n : Int) < t.length := by omega
     have hn' : (n : Int) <= t.length := by omega
     obtain ⟨c, q, hcq⟩ : ∃ c q, t.drop n = c :: q := by
      cases h : t.drop n with
      | nil => rw [List.drop_eq_nil_iff] at h; omega
      | cons c q => exact ⟨c, q, rfl⟩
     have hlen : (c :: q).length = t.length - n := by rw [<- hcq]; simp
     rw [hcq] at hbn
     have htk0 : List.take (t.length - n) (c :: q) = c :: q := by rw [List.take_of_length_le]; omega
     simp [h0, h3, h4, h5, hf, hlt, hn, hn', hcq, htk0]
     refine zaa (word_does c q (by omega) hG _) ?_
     rintro r H2 ⟨hr, e⟩
     subst e
     have hkeep2 : ∀ j x, H.get j = some x -> H2.get j = some x /\ j ≠ H.next /\ j ≠ H2.next /\ j ≠ H2.next + 1 /\ j ≠ H2.next + 1 + 1 := fun j x hj => by
      have := old j x hj
      have := oldn j x (hkeep j x hj)
      exact ⟨hkeep j x hj, by omega, by omega, by omega, by omega⟩
     unfold zdN at hr
     cases hwd : wordS (c :: q) with
     | none =>
       rw [hwd] at hr
       simp only at hr
       obtain ⟨k, tx, nn, rfl⟩ := hr
       have hc : cutS t.length t = .error n := by
        rw [hcut, zfo hbn.symm hwd, hlen]
        simp only [ziR]
        congr 1
        omega
       simp [h0, h3, h4, h5, hf, hne]
       refine CutR.badEnd hL hc fun j x hj => ?_
       obtain ⟨k1, k2, k3, k4, k5⟩ := hkeep2 j x hj
       simp [k1, k2, k3]
     | some w =>
       rw [hwd] at hr
       simp only at hr
       subst hr
       obtain ⟨hpre, htne⟩ := zdy hwd
       have hwl : w.text.length <= (c :: q).length := hpre.length_le
       have hwl0 : w.text.length ≠ 0 := by simpa using htne
       rw [hlen] at hwl
       have hw1 : IntKind.i64.wrap ((n : Int) + w.text.length) = ((n + w.text.length : Nat) : Int) := by rw [IntWalk.i64_in _ (by omega)]; omega
       have hn2 : ((n + w.text.length : Nat) : Int) <= t.length := by omega
       have hn3 : n + w.text.length <= t.length := by omega
       have hrest : t.drop (n + w.text.length) = (c :: q).drop w.text.length := by rw [<- List.drop_drop, hcq]
       obtain ⟨n2, hn2'⟩ : ∃ n2, n2 = n + w.text.length := ⟨_, rfl⟩
       rw [<- hn2'] at hw1 hn2 hn3 hrest
       have hcut2 : cutS t.length t = ziR (ws ++ [(n, w)]) (cutS t.length (t.drop n2)) := by
        rw [hcut, zds hbn.symm hwd, hrest, hlen]
        have e : t.length - (t.length - n) = n := by omega
        rw [e]
        cases cutS t.length ((c :: q).drop w.text.length) <;> simp [ziR]
       rcases h4 with ⟨h4, rfl⟩ | ⟨b, h4, hlo, hb⟩
       · simp [h0, h3, h4, h5, hf, hne, hne2, hne3, zat, hw1, hn2, hn3]
         refine zaa (zdu (t.drop n2) (by simp; omega) _) ?_
         rintro _ _ ⟨⟨k, rfl, hk, hk2⟩, rfl⟩
         simp only [List.length_drop] at hk
         have hw2 : IntKind.i64.wrap ((n2 : Int) + k) = ((n2 + k : Nat) : Int) := by rw [IntWalk.i64_in _ (by omega)]; omega
         simp [h0, h3, h4, h5, hf, hne, hne2, hne3, hw2]
         refine ⟨t.length - (n2 + k), by omega, [(n, w)], t.drop n2, by simpa using hcut2, n2 + k, by omega, by rw [<- List.drop_drop]; exact hk2, rfl, by simp; omega, by omega, .inr ⟨H2.next + 1 + 1, rfl, by omega, by simp [flatW, zat]⟩, fun j x hj => ?_⟩
         obtain ⟨k1, k2, k3, k4, k5⟩ := hkeep2 j x hj
         simp [k1, k3, k4, k5]
       · have hbn' := oldn _ _ hb
         have hb1 : b ≠ H2.next := by omega
         have hb2 : H.next ≠ b := by omega
         have hb3 : b ≠ H2.next + 1 := by omega
         have hl1 : (ws.length + 1) * 40 <= 140737488355328 := by omega
         have hl2 : ws.length <= 4611686018427387903 := by omega
         have hb4 : H2.next ≠ b := Ne.symm hb1
         have hb5 : H2.next ≠ H2.next + 1 + 1 := by omega
         have htk : List.take (ws.length * 4) (flatW ws) = flatW ws := by rw [List.take_of_length_le]; simp
         simp [h0, h3, h4, h5, hf, hne, hne2, hne3, zat, hw1, hn2, hn3, hb, hb1, hb2, hb3, hb4, hb5, hgrow, hl1, hl2, htk]
         refine zaa (zdu (t.drop n2) (by simp; omega) _) ?_
         rintro _ _ ⟨⟨k, rfl, hk, hk2⟩, rfl⟩
         simp only [List.length_drop] at hk
         have hw2 : IntKind.i64.wrap ((n2 : Int) + k) = ((n2 + k : Nat) : Int) := by rw [IntWalk.i64_in _ (by omega)]; omega
         simp [h0, h3, h4, h5, hf, hne, hne2, hne3, hw2]
         refine ⟨t.length - (n2 + k), by omega, ws ++ [(n, w)], t.drop n2, hcut2, n2 + k, by omega, by rw [<- List.drop_drop]; exact hk2, rfl, by simp; omega, by omega, .inr ⟨H2.next + 1 + 1, by simp, by omega, by simp [zix, flatW, zat]⟩, hb2, fun j x hj => ?_⟩
         obtain ⟨k1, k2, k3, k4, k5⟩ := hkeep2 j x hj
         have := old j x hj
         have k6 : j ≠ b := by omega
         simp [k1, k3, k4, k5, k6]
theorem zhx (n : Nat) : ∀ l : List (Nat × Wd), AV.allLt n (flatW l) = true
 | [] => rfl
 | (i, w) :: l => by simp [flatW, zat, AV.allLt, AV.idLt, zhx n l]
theorem zbh (n : Nat) (a b : List AV) : AV.allLt n (a ++ b) = (AV.allLt n a && AV.allLt n b) := AV.allLt_append a b
theorem cut_does (t : Bs) (hG : zdd G) (H : AHeap) (hbig : t.length < 9223372036854775808) : Does Tryz.prog G 23 [.str t] H fun r H' => r = zdH t /\ H' = H := by
 by_cases hL : 16384 < t.length
 · refine Does.forgot (zh4 t hG H hbig) ?_
   rintro hw ha r H1 ⟨hk, hr⟩
   rw [if_pos hL] at hr
   subst hr
   exact ⟨hk, rfl, by simp [zdH, hL], rfl⟩
 · cases hc : cutS t.length t with
   | error e =>
     refine Does.forgot (zh4 t hG H hbig) ?_
     rintro hw ha r H1 ⟨hk, hr⟩
     rw [if_neg hL, hc] at hr
     simp only at hr
     subst hr
     exact ⟨hk, rfl, by simp [zdH, hL, hc], rfl⟩
   | ok l =>
     refine Does.frozen (zh4 t hG H hbig) ?_
     rintro hw ha r H1 ⟨hk, hr⟩
     rw [if_neg hL, hc] at hr
     obtain ⟨b, hb, rfl, hg⟩ := hr
     refine ⟨b, _, hb, hg, hk, ?_, ?_, rfl⟩
     · simp [AV.frz, AV.frzs, AV.idLt, AV.allLt]
       rw [List.take_of_length_le (by simp; omega)]
       simp [zbh, zhx, AV.allLt, AV.idLt]
     · simp [AV.frz, AV.frzs, zdH, hL, hc]
       rw [List.take_of_length_le (by simp; omega)]
mutual
def zas : Syn.Ex -> List AV
 | .mk op nm n p ks => [.str op, .str nm, .int .i64 n, .int .i64 p, if ks.isEmpty then .nilsl else .vsl (zae ks) ks.length]
def zae : List Syn.Ex -> List AV
 | [] => []
 | e :: l => zas e ++ zae l
end
def zaj (W : Syn.Ws) (s : Syn.St) : List AV := [.vsl (flatW W) W.length, .int .i64 s.i, .int .i64 s.names, .int .i64 s.parts, .int .i64 s.err, .int .i64 s.pos]
def PAt (H : AHeap) (p : Nat) (W : Syn.Ws) (s : Syn.St) : Prop := H.get p = some (.cells (zaj W s))
structure WsOk (W : Syn.Ws) : Prop where
 small : W.length <= 20000
 last : ∀ i, i < W.length -> (W.getD i (0, ⟨0, [], 0⟩)).2.kind ≠ 0 -> i + 1 < W.length
theorem flatW_at : ∀ (L : List (Nat × Wd)) (i : Nat), i < L.length -> (flatW L).drop (i * 4) = zat (L.getD i (0, ⟨0, [], 0⟩)).2 (L.getD i (0, ⟨0, [], 0⟩)).1 ++ flatW (L.drop (i + 1))
 | [], i, h => by simp at h
 | (a, b) :: L, 0, _ => by simp [flatW]
 | (a, b) :: L, i + 1, h => by
   have := flatW_at L i (by simpa using h)
   rw [Nat.succ_mul]
   simp only [flatW, List.drop_succ_cons, List.getD_cons_succ]
   rw [<- this, Nat.add_comm (i * 4) 4, <- List.drop_drop]
   rw [List.drop_left' (by simp)]
theorem zej {H : AHeap} {p : Nat} {x : AObj} (h : H.get p = some x) : H.set p x = H := by
 refine AHeap.ext' rfl fun i => ?_
 simp only [AHeap.get_set]
 split
 · rename_i e; subst e; exact h.symm
 · rfl
theorem p_ok {W : Syn.Ws} {s : Syn.St} {p : Nat} {H : AHeap} (h : PAt H p W s) : Does Tryz.prog G 24 [.ptr p 0] H fun r H' => r = .bool (decide (s.err = 0)) /\ H' = H := by
 refine zaf Tryz.call24 Tryz.func24 rfl (by simp [Tryz.f24]) ?_
 unfold PAt zaj at h
 simp [h]
theorem zbO {W : Syn.Ws} {s : Syn.St} {p : Nat} {H : AHeap} (h : PAt H p W s) (hi : s.i < W.length) : Does Tryz.prog G 25 [.ptr p 0] H fun r H' => r = .agg (zat (Syn.at_ W s).2 (Syn.at_ W s).1) /\ H' = H := by
 refine Does.forgot (R := fun r H' => r = .agg (zat (Syn.at_ W s).2 (Syn.at_ W s).1) /\ ∀ j x, H.get j = some x -> H'.get j = some x) ?_ ?_
 · refine Does.wf Tryz.call25 fun hw _ => ?_
   have old : ∀ j x, H.get j = some x -> j ≠ H.next := fun j x hj => by have := zac hw hj; omega
   refine zaf Tryz.call25 Tryz.func25 rfl (by simp [Tryz.f25]) ?_
   have hp := old _ _ h
   unfold PAt zaj at h
   have hi' : (s.i : Int) < W.length := by omega
   have hd : (flatW W).drop (s.i * 4) = zat (Syn.at_ W s).2 (Syn.at_ W s).1 ++ flatW (W.drop (s.i + 1)) := flatW_at W s.i hi
   simp
   refine zak [(3, 0), (7, 0), (9, 0)] mixedOrders (by kernel_rfl) ?_
   intro es hes
   simp [h, hp, hi, hi', hd, rds, heapF, zat]
   refine ⟨?_, ?_⟩
   · subst hes
     exact ⟨by kernel_rfl, by kernel_rfl⟩
   intro j x hj
   simp [hj, old j x hj]
 · rintro hw ha r H1 ⟨rfl, h⟩
   exact ⟨h, by simp [AV.idLt, AV.allLt, zat], rfl, rfl⟩
theorem zd0 (a b : Bs) : (a == b) = decide (a = b) := by
 rw [Bool.eq_iff_iff]; simp
theorem zeQ {W : Syn.Ws} {s : Syn.St} {p : Nat} {H : AHeap} (h : PAt H p W s) (hi : s.i < W.length) (e : Nat) : Does Tryz.prog G 26 [.ptr p 0, .int .i64 e] H fun r H' => r = .tuple [] /\ H' = H.set p (.cells (zaj W (Syn.fail W e s))) := by
 refine zaf Tryz.call26 Tryz.func26 rfl (by simp [Tryz.f26]) ?_
 simp
 refine zaa (p_ok h) ?_
 rintro _ H1 ⟨rfl, rfl⟩
 by_cases h0 : s.err = 0
 · simp [h0]
   refine zaa (zbO h hi) ?_
   rintro _ H2 ⟨rfl, rfl⟩
   unfold PAt zaj at h
   simp [h, h0, zat, Syn.fail, zaj]
 · simp [h0, Syn.fail]
   exact (zej h).symm
theorem p_is {W : Syn.Ws} {s : Syn.St} {p : Nat} {H : AHeap} (h : PAt H p W s) (hi : s.i < W.length) (t : Bs) : Does Tryz.prog G 99 [.ptr p 0, .str t] H fun r H' => r = .bool (Syn.is W s t) /\ H' = H := by
 refine Does.forgot (R := fun r H' => r = .bool (Syn.is W s t) /\ ∀ j x, H.get j = some x -> H'.get j = some x) ?_ ?_
 · refine Does.wf Tryz.call99 fun hw _ => ?_
   have old : ∀ j x, H.get j = some x -> j ≠ H.next := fun j x hj => by have := zac hw hj; omega
   refine zaf Tryz.call99 Tryz.func99 rfl (by simp [Tryz.f99]) ?_
   simp
   refine zaa (zbO h hi) ?_
   rintro _ H1 ⟨rfl, rfl⟩
   have hp := old _ _ h
   simp [zat]
   refine zaa (p_ok (W := W) (s := s) (by unfold PAt; simp [hp]; exact h)) ?_
   rintro _ H2 ⟨rfl, rfl⟩
   by_cases h0 : s.err = 0
   · by_cases h2 : (Syn.at_ W s).2.kind = 2
     · have h2' : (((Syn.at_ W s).2.kind : Nat) : Int) = 2 := by omega
       simp [h0, h2, h2', Syn.is, Syn.kind, Syn.text]
       intro j x hj
       simp [hj, old j x hj]
     · have h2' : ¬ (((Syn.at_ W s).2.kind : Nat) : Int) = 2 := by omega
       by_cases h4 : (Syn.at_ W s).2.kind = 4
       · have h4' : (((Syn.at_ W s).2.kind : Nat) : Int) = 4 := by omega
         simp [h0, h2, h2', h4, h4', Syn.is, Syn.kind, Syn.text]
         intro j x hj
         simp [hj, old j x hj]
       · have h4' : ¬ (((Syn.at_ W s).2.kind : Nat) : Int) = 4 := by omega
         simp [h0, h2, h2', h4, h4', Syn.is, Syn.kind, Syn.text]
         intro j x hj
         simp [hj, old j x hj]
   · simp [h0, Syn.is]
     intro j x hj
     simp [hj, old j x hj]
 · rintro hw ha r H1 ⟨rfl, h⟩
   exact ⟨h, by simp [AV.idLt], rfl, rfl⟩
theorem wrap_eq (n : Int) : IntKind.i64.wrap n = Syn.wrap n := by rw [IntKind.wrap_i64]; rfl
theorem is_kind {W : Syn.Ws} {s : Syn.St} {t : Bs} (h : Syn.is W s t = true) : s.err = 0 /\ (Syn.at_ W s).2.kind ≠ 0 := by
 simp only [Syn.is, Syn.kind, Bool.and_eq_true, Bool.or_eq_true, beq_iff_eq] at h
 exact ⟨h.1, by omega⟩
theorem zcq {W : Syn.Ws} {s : Syn.St} {ts : List Bs} (h : Syn.one W s ts = true) : s.err = 0 /\ (Syn.at_ W s).2.kind ≠ 0 := by
 simp only [Syn.one, List.any_eq_true] at h
 obtain ⟨t, _, h⟩ := h
 exact is_kind h
theorem zb4 {W : Syn.Ws} (hW : WsOk W) {s : Syn.St} (hi : s.i < W.length) (hk : (Syn.at_ W s).2.kind ≠ 0) : s.i + 1 < W.length := hW.last s.i hi hk
theorem zgI (W : Syn.Ws) (e : Nat) (s : Syn.St) : (Syn.fail W e s).i = s.i := by unfold Syn.fail; split <;> rfl
theorem za2 {W : Syn.Ws} (hW : WsOk W) {s : Syn.St} (hi : s.i < W.length) (t : Bs) : (Syn.want1 W s t).i < W.length := by
 unfold Syn.want1
 split
 · rename_i h; exact zb4 hW hi (is_kind h).2
 · rw [zgI]; exact hi
theorem ze4 {W : Syn.Ws} (hW : WsOk W) : ∀ (ts : List Bs) {s : Syn.St}, s.i < W.length -> (Syn.want W s ts).i < W.length
 | [], _, h => h
 | t :: ts, _, h => ze4 hW ts (za2 hW h t)
theorem zhb {W : Syn.Ws} (hW : WsOk W) {s : Syn.St} (hi : s.i < W.length) (t : Bs) : (Syn.take W s t).2.i < W.length := by
 unfold Syn.take
 split
 · rename_i h; exact zb4 hW hi (is_kind h).2
 · exact hi
theorem zcI {W : Syn.Ws} (hW : WsOk W) {s : Syn.St} (hi : s.i < W.length) (hk : (Syn.at_ W s).2.kind ≠ 0) : (Syn.part W s).i < W.length := by
 have h := zb4 hW hi hk
 unfold Syn.part
 simp only
 by_cases hc : 300 < Syn.wrap (s.parts + 1)
 · simp only [hc, if_true]
   split <;> simp only [zgI] <;> omega
 · simp only [hc, if_false]
   split <;> omega
theorem zcS (W : Syn.Ws) (b : Bool) (s : Syn.St) : (Syn.deeper W b s).2.i = s.i := by
 unfold Syn.deeper
 simp only
 split
 · exact zgI W 2 s
 · rfl
theorem name_ok {W : Syn.Ws} (hW : WsOk W) {s : Syn.St} (hi : s.i < W.length) : (Syn.name W s).2.i < W.length := by
 unfold Syn.name
 simp only
 by_cases h1 : Syn.kind W s = 1
 · rw [if_pos h1]
   split
   · exact zb4 hW hi (by unfold Syn.kind at h1; omega)
   · exact hi
 · rw [if_neg h1]
   split
   · rename_i h
     unfold Syn.fail at h
     split at h
     · simp at h
     · rename_i h2; exact absurd h h2
   · rw [zgI]; exact hi
theorem PAt.set {H : AHeap} {p : Nat} {W : Syn.Ws} (s : Syn.St) : PAt (H.set p (.cells (zaj W s))) p W s := by unfold PAt; simp
theorem stCells_lt (n : Nat) (W : Syn.Ws) (s : Syn.St) : AV.allLt n (zaj W s) = true := by
 simp [zaj, AV.allLt, AV.idLt, zhx]
theorem zcp {W : Syn.Ws} {s s' : Syn.St} {p : Nat} {H H1 : AHeap} (hw : H.Wf) (h : PAt H p W s) (h1 : H1.get p = some (.cells (zaj W s'))) (h2 : ∀ j x, j ≠ p -> H.get j = some x -> H1.get j = some x) :
  ∀ i x, (H.set p (.cells (zaj W s'))).get i = some x -> H1.get i = some x /\ i < H.next /\ AV.allLt H.next x.cellsList = true := by
 intro i x hi
 simp only [AHeap.get_set] at hi
 split at hi
 · rename_i e; subst e
   simp only [Option.some.injEq] at hi; subst hi
   exact ⟨h1, zac hw h, stCells_lt _ _ _⟩
 · rename_i e
   exact ⟨h2 i x e hi, (hw i x hi).1, (hw i x hi).2⟩
theorem p_index {W : Syn.Ws} {s : Syn.St} {p : Nat} {H : AHeap} (h : PAt H p W s) (hi : s.i < W.length) (ts : List Bs) (j cap : Nat) (op : Bool) (hj : H.get j = some (.cells (ts.map .str))) (hl : ts.length <= 1000) :
  Does Tryz.prog G 182 [.sl j 0 1 ts.length cap op, .func (.func 99) [.ptr p 0] []] H fun r H' => (∃ n : Int, r = .int .i64 n /\ (0 <= n ↔ Syn.one W s ts = true)) /\ H' = H := by
 refine zaf Tryz.call182 Tryz.func182 rfl (by simp [Tryz.f182]) ?_
 simp
 refine za6 (fun m T' H' => ∃ a b, ts = a ++ b /\ m = b.length /\ (∀ y ∈ a, Syn.is W s y = false) /\ T' 0 = .sl j 0 1 ts.length cap op /\ T' 1 = .func (.func 99) [.ptr p 0] [] /\ T' 7 = .int .i64 ts.length /\ T' 8 = .int .i64 a.length /\ H' = H) ts.length ⟨[], ts, rfl, rfl, by simp, by simp, by simp, by simp, by simp, rfl⟩ ?_
 rintro m T H1 ⟨a, b, hab, rfl, hn, t0, t1, t7, t8, rfl⟩
 have hlen : a.length + b.length = ts.length := by rw [<- List.length_append, <- hab]
 cases b with
 | nil =>
   have ha : a.length = ts.length := by simpa using hlen
   have hone : Syn.one W s ts = false := by
    rw [Syn.one, hab, List.append_nil, List.any_eq_false]
    intro x hx; rw [hn x hx]; simp
   simp [t0, t1, t7, t8, ha, hone]
 | cons t b =>
   simp only [List.length_cons] at hlen
   have hlt : (a.length : Int) < ts.length := by omega
   have hlt2 : a.length < ts.length := by omega
   have hlt3 : a.length <= ts.length := by omega
   have hw1 : IntKind.i64.wrap ((a.length : Int) + 1) = a.length + 1 := IntWalk.i64_in _ (by omega)
   have hd : List.drop a.length (List.map AV.str ts) = .str t :: b.map .str := by
    rw [hab, List.map_append, List.drop_left' (by simp)]; rfl
   simp [t0, t1, t7, t8, hlt, hlt2, hlt3, hd, hj]
   refine zaa (p_is h hi t) ?_
   rintro _ H2 ⟨rfl, rfl⟩
   by_cases ht : Syn.is W s t = true
   · have hone : Syn.one W s ts = true := by
      rw [Syn.one, List.any_eq_true]
      exact ⟨t, by rw [hab]; simp, ht⟩
     simp [ht, hone]
   · have ht' : Syn.is W s t = false := by simpa using ht
     simp [ht', t0, t1, t7, t8, hw1]
     refine ⟨b.length, by omega, a ++ [t], b, by simp [hab], rfl, ?_, by simp⟩
     intro y hy
     simp at hy
     rcases hy with hy | rfl
     · exact hn y hy
     · exact ht'
theorem p_contains {W : Syn.Ws} {s : Syn.St} {p : Nat} {H : AHeap} (h : PAt H p W s) (hi : s.i < W.length) (ts : List Bs) (j cap : Nat) (op : Bool) (hj : H.get j = some (.cells (ts.map .str))) (hl : ts.length <= 1000) :
  Does Tryz.prog G 195 [.sl j 0 1 ts.length cap op, .func (.func 99) [.ptr p 0] []] H fun r H' => r = .bool (Syn.one W s ts) /\ H' = H := by
 refine zaf Tryz.call195 Tryz.func195 rfl (by simp [Tryz.f195]) ?_
 simp
 refine zaa (p_index h hi ts j cap op hj hl) ?_
 rintro _ H1 ⟨⟨n, rfl, hn⟩, rfl⟩
 simp
 rw [Bool.eq_iff_iff, decide_eq_true_eq, hn]
theorem p_one {W : Syn.Ws} {s : Syn.St} {p : Nat} {H : AHeap} (h : PAt H p W s) (hi : s.i < W.length) (ts : List Bs) (j cap : Nat) (op : Bool) (hj : H.get j = some (.cells (ts.map .str))) (hl : ts.length <= 1000) :
  Does Tryz.prog G 166 [.ptr p 0, .sl j 0 1 ts.length cap op] H fun r H' => r = .bool (Syn.one W s ts) /\ H' = H := by
 refine zaf Tryz.call166 Tryz.func166 rfl (by simp [Tryz.f166]) ?_
 simp
 refine zaa (p_contains h hi ts j cap op hj hl) ?_
 rintro _ H1 ⟨rfl, rfl⟩
 simp
theorem zbF {W : Syn.Ws} (hW : WsOk W) {s : Syn.St} {p : Nat} {H : AHeap} (h : PAt H p W s) (hi : s.i < W.length) (t : Bs) : Does Tryz.prog G 52 [.ptr p 0, .str t] H fun r H' => r = .bool (Syn.take W s t).1 /\ H' = H.set p (.cells (zaj W (Syn.take W s t).2)) := by
 refine zaf Tryz.call52 Tryz.func52 rfl (by simp [Tryz.f52]) ?_
 simp
 refine zaa (p_is h hi t) ?_
 rintro _ H1 ⟨rfl, rfl⟩
 have hsm := hW.small
 have hw1 : IntKind.i64.wrap ((s.i : Int) + 1) = s.i + 1 := IntWalk.i64_in _ (by omega)
 by_cases ht : Syn.is W s t = true
 · unfold PAt zaj at h
   simp [ht, Syn.take, h, hw1, zaj]
 · have ht' : Syn.is W s t = false := by simpa using ht
   simp [ht', Syn.take]
   exact (zej h).symm
theorem zaI {W : Syn.Ws} (hW : WsOk W) {s : Syn.St} {p : Nat} {H : AHeap} (h : PAt H p W s) (hi : s.i < W.length) (ts : List Bs) (j cap : Nat) (op : Bool) (hj : H.get j = some (.cells (ts.map .str))) (hjp : j ≠ p) (hl : ts.length <= 1000) :
  Does Tryz.prog G 49 [.ptr p 0, .sl j 0 1 ts.length cap op] H fun r H' => r = .tuple [] /\ H' = H.set p (.cells (zaj W (Syn.want W s ts))) := by
 refine zaf Tryz.call49 Tryz.func49 rfl (by simp [Tryz.f49]) ?_
 simp
 refine za6 (fun m T' H' => ∃ a b, ts = a ++ b /\ m = b.length /\ T' 0 = .ptr p 0 /\ T' 6 = .sl j 0 1 ts.length cap op /\ T' 7 = .int .i64 ts.length /\ T' 8 = .int .i64 a.length /\ H' = H.set p (.cells (zaj W (Syn.want W s a)))) ts.length ⟨[], ts, rfl, rfl, by simp, by simp, by simp, by simp, by simp [Syn.want]; exact (zej h).symm⟩ ?_
 rintro m T H1 ⟨a, b, hab, rfl, t0, t6, t7, t8, rfl⟩
 have hlen : a.length + b.length = ts.length := by rw [<- List.length_append, <- hab]
 cases b with
 | nil =>
   have ha : a.length = ts.length := by simpa using hlen
   rw [List.append_nil] at hab
   subst hab
   simp [t0, t6, t7, t8]
 | cons t b =>
   simp only [List.length_cons] at hlen
   have hlt : (a.length : Int) < ts.length := by omega
   have hlt2 : a.length < ts.length := by omega
   have hlt3 : a.length <= ts.length := by omega
   have hw1 : IntKind.i64.wrap ((a.length : Int) + 1) = a.length + 1 := IntWalk.i64_in _ (by omega)
   have hd : List.drop a.length (List.map AV.str ts) = .str t :: b.map .str := by
    rw [hab, List.map_append, List.drop_left' (by simp)]; rfl
   have hia := ze4 hW a hi
   have hst : Syn.want W s (a ++ [t]) = Syn.want1 W (Syn.want W s a) t := by simp [Syn.want]
   simp [t0, t6, t7, t8, hlt, hlt2, hlt3, hd, hj, hjp]
   refine zaa (zbF hW (PAt.set _) hia t) ?_
   rintro _ H2 ⟨rfl, rfl⟩
   simp
   by_cases ht : Syn.is W (Syn.want W s a) t = true
   · simp [ht, Syn.take, t0, t6, t7, t8, hw1]
     exact ⟨b.length, by omega, a ++ [t], b, by simp [hab], rfl, by simp, by rw [hst, Syn.want1, if_pos ht]⟩
   · have ht' : Syn.is W (Syn.want W s a) t = false := by simpa using ht
     simp [ht', Syn.take, t0, t6, t7, t8, hw1]
     refine zaa (zeQ (PAt.set _) hia 7) ?_
     rintro _ H3 ⟨rfl, rfl⟩
     simp [t0, t6, t7, t8, hw1]
     exact ⟨b.length, by omega, a ++ [t], b, by simp [hab], rfl, by simp, by rw [hst, Syn.want1, if_neg ht]⟩
theorem zfk {W : Syn.Ws} {s : Syn.St} {p : Nat} {H : AHeap} (h : PAt H p W s) (hi : s.i < W.length) (d : Int) : Does Tryz.prog G 135 [.ptr p 0, .int .i64 d] H fun r H' => r = .bool (Syn.deeper W (decide (d = 30)) s).1 /\ H' = H.set p (.cells (zaj W (Syn.deeper W (decide (d = 30)) s).2)) := by
 refine zaf Tryz.call135 Tryz.func135 rfl (by simp [Tryz.f135]) ?_
 by_cases hd : d = 30
 · simp [hd]
   refine zaa (zeQ h hi 2) ?_
   rintro _ H1 ⟨rfl, rfl⟩
   simp
   refine zaa (p_ok (PAt.set _)) ?_
   rintro _ H2 ⟨rfl, rfl⟩
   subst hd
   simp [Syn.deeper]
 · simp [hd]
   refine zaa (p_ok h) ?_
   rintro _ H2 ⟨rfl, rfl⟩
   simp [Syn.deeper, hd]
   exact (zej h).symm
theorem zeP {W : Syn.Ws} (hW : WsOk W) {s : Syn.St} {p : Nat} {H : AHeap} (h : PAt H p W s) (hi : s.i < W.length) : Does Tryz.prog G 134 [.ptr p 0] H fun r H' => r = .agg (zat (Syn.at_ W s).2 (Syn.at_ W s).1) /\ H' = H.set p (.cells (zaj W (Syn.part W s))) := by
 refine Does.deep (R := fun r H' => r = .agg (zat (Syn.at_ W s).2 (Syn.at_ W s).1) /\ H'.get p = some (.cells (zaj W (Syn.part W s))) /\ ∀ j x, j ≠ p -> H.get j = some x -> H'.get j = some x) ?_ ?_
 · refine Does.wf Tryz.call134 fun hw _ => ?_
   have old : ∀ j x, H.get j = some x -> j ≠ H.next /\ j ≠ H.next + 1 := fun j x hj => by have := zac hw hj; omega
   refine zaf Tryz.call134 Tryz.func134 rfl (by simp [Tryz.f134]) ?_
   obtain ⟨hp1, hp2⟩ := old _ _ h
   have hsm := hW.small
   have hw1 : IntKind.i64.wrap ((s.i : Int) + 1) = s.i + 1 := IntWalk.i64_in _ (by omega)
   have hw2 : IntKind.i64.wrap (s.parts + 1) = Syn.wrap (s.parts + 1) := wrap_eq _
   simp
   refine zaa (zbO (W := W) (s := s) (by unfold PAt; simp [hp1]; exact h) hi) ?_
   rintro _ H1 ⟨rfl, rfl⟩
   have h' := h
   unfold PAt zaj at h'
   by_cases hc : 300 < Syn.wrap (s.parts + 1)
   · simp [zat, h', hp1, hp2, hw2, hc]
     refine zaa (zeQ (W := W) (s := { s with parts := Syn.wrap (s.parts + 1) }) (by unfold PAt zaj; simp) hi 2) ?_
     rintro _ H2 ⟨rfl, rfl⟩
     simp
     refine zaa (p_ok (PAt.set _)) ?_
     rintro _ H3 ⟨rfl, rfl⟩
     by_cases h0 : (Syn.fail W 2 { s with parts := Syn.wrap (s.parts + 1) }).err = 0
     · exact absurd h0 (by unfold Syn.fail; split <;> simp_all)
     · simp [h0, Syn.part, hc, hp1, hp2, Ne.symm hp1, Ne.symm hp2]
       refine ⟨rfl, fun j x hjp hj => ?_⟩
       obtain ⟨k1, k2⟩ := old j x hj
       simp [hj, hjp, k1, k2]
   · simp [zat, h', hp1, hp2, hw2, hc]
     refine zaa (p_ok (W := W) (s := { s with parts := Syn.wrap (s.parts + 1) }) (by unfold PAt zaj; simp)) ?_
     rintro _ H3 ⟨rfl, rfl⟩
     by_cases h0 : s.err = 0
     · simp [h0, Syn.part, hc, hp1, hp2, Ne.symm hp1, Ne.symm hp2, hw1, zaj]
       refine ⟨rfl, fun j x hjp hj => ?_⟩
       obtain ⟨k1, k2⟩ := old j x hj
       simp [hj, hjp, k1, k2]
     · simp [h0, Syn.part, hc, hp1, hp2, Ne.symm hp1, Ne.symm hp2, hw1, zaj]
       refine ⟨rfl, fun j x hjp hj => ?_⟩
       obtain ⟨k1, k2⟩ := old j x hj
       simp [hj, hjp, k1, k2]
 · rintro hw ha r H1 ⟨rfl, h1, h2⟩
   exact ⟨_, H.set p (.cells (zaj W (Syn.part W s))), .old (by simp [AV.idLt, AV.allLt, zat]), rfl, zcp hw h h1 h2, rfl, rfl⟩
def kidsV (ks : List Syn.Ex) : AV := if ks.isEmpty then .nilsl else .vsl (zae ks) ks.length
@[simp] theorem kidsV_scalar (ks : List Syn.Ex) : (kidsV ks).scalar = true := by unfold kidsV; split <;> rfl
@[simp] theorem kidsV_cells (ks : List Syn.Ex) : (kidsV ks).cells = [kidsV ks] := by unfold kidsV; split <;> rfl
theorem zab (op nm : Bs) (n p : Nat) (ks : List Syn.Ex) : zas (.mk op nm n p ks) = [.str op, .str nm, .int .i64 n, .int .i64 p, kidsV ks] := by
 simp only [zas, kidsV]
mutual
theorem zc5 (m : Nat) : ∀ e : Syn.Ex, AV.allLt m (zas e) = true
 | .mk op nm n p ks => by
   have h := zb7 m ks
   rw [zab]
   unfold kidsV
   split <;> simp [AV.allLt, AV.idLt, h]
theorem zb7 (m : Nat) : ∀ l : List Syn.Ex, AV.allLt m (zae l) = true
 | [] => rfl
 | e :: l => by rw [zae, zbh, zc5 m e, zb7 m l]; rfl
end
theorem za1 (m : Nat) (ks : List Syn.Ex) : (kidsV ks).idLt m = true := by
 unfold kidsV
 split
 · rfl
 · simpa [AV.idLt] using zb7 m ks
def PRes (H : AHeap) (p : Nat) (W : Syn.Ws) (x : Syn.Ex × Syn.St) (r : AV) (H' : AHeap) : Prop :=
 ResV H'.get H.next r (.agg (zas x.1)) /\ H'.get p = some (.cells (zaj W x.2)) /\ ∀ j y, j ≠ p -> H.get j = some y -> H'.get j = some y
theorem PRes.deep {f : FuncId} {args : List AV} {H : AHeap} {p : Nat} {W : Syn.Ws} {s : Syn.St} {x : Syn.Ex × Syn.St} (h : PAt H p W s) (hd : Does Tryz.prog G f args H (PRes H p W x)) : Does Tryz.prog G f args H fun r H' => r = .agg (zas x.1) /\ H' = H.set p (.cells (zaj W x.2)) := by
 refine Does.deep hd ?_
 rintro hw ha r H1 ⟨h1, h2, h3⟩
 exact ⟨_, H.set p (.cells (zaj W x.2)), h1, rfl, zcp hw h h2 h3, rfl, rfl⟩
def Reads (G : Nat -> Option AV) (W : Syn.Ws) (p : Nat) (f : FuncId) (d : Int) (g : Syn.P) : Prop :=
 ∀ (H : AHeap) (s : Syn.St), PAt H p W s -> s.i < W.length -> Does Tryz.prog G f [.ptr p 0, .int .i64 d] H fun r H' => r = .agg (zas (g s).1) /\ H' = H.set p (.cells (zaj W (g s).2))
def zgX (G : Nat -> Option AV) (W : Syn.Ws) (p : Nat) (nf : FuncId) (t : Bs) (d : Int) (g : Syn.P) : Prop :=
 ∀ (H : AHeap) (s : Syn.St), PAt H p W s -> s.i < W.length -> Does Tryz.prog G 101 [.ptr p 0, .int .i64 d, .func (.func nf) [.ptr p 0] [], .str t] H fun r H' => r = .agg (zas (g s).1) /\ H' = H.set p (.cells (zaj W (g s).2))
def mu (W : Syn.Ws) (s : Syn.St) : Nat := if s.err = 0 then W.length - s.i else 0
structure Keeps (W : Syn.Ws) (g : Syn.P) : Prop where
 i : ∀ s, s.i < W.length -> (g s).2.i < W.length
 mu : ∀ s, s.i < W.length -> mu W (g s).2 <= mu W s
theorem zek {W : Syn.Ws} (hW : WsOk W) {s : Syn.St} {p : Nat} {H : AHeap} (h : PAt H p W s) (hi : s.i < W.length) : Does Tryz.prog G 50 [.ptr p 0] H fun r H' => r = .str (Syn.name W s).1 /\ H' = H.set p (.cells (zaj W (Syn.name W s).2)) := by
 refine Does.deep (R := fun r H' => r = .str (Syn.name W s).1 /\ H'.get p = some (.cells (zaj W (Syn.name W s).2)) /\ ∀ j x, j ≠ p -> H.get j = some x -> H'.get j = some x) ?_ ?_
 · refine Does.wf Tryz.call50 fun hw _ => ?_
   have old : ∀ j x, H.get j = some x -> j ≠ H.next := fun j x hj => by have := zac hw hj; omega
   refine zaf Tryz.call50 Tryz.func50 rfl (by simp [Tryz.f50]) ?_
   have hp1 := old _ _ h
   have hsm := hW.small
   have hw1 : IntKind.i64.wrap ((s.i : Int) + 1) = s.i + 1 := IntWalk.i64_in _ (by omega)
   simp
   refine zaa (zbO h hi) ?_
   rintro _ H1 ⟨rfl, rfl⟩
   by_cases hk : (Syn.at_ W s).2.kind = 1
   · have hk' : (((Syn.at_ W s).2.kind : Nat) : Int) = 1 := by omega
     simp [zat, hk']
     refine zaa (p_ok (W := W) (s := s) (by unfold PAt; simp [hp1]; exact h)) ?_
     rintro _ H2 ⟨rfl, rfl⟩
     by_cases h0 : s.err = 0
     · have h' := h
       unfold PAt zaj at h'
       simp [h0, h', hp1, Ne.symm hp1, hw1, Syn.name, Syn.kind, hk, Syn.text, zaj]
       intro j x hjp hj
       simp [hj, hjp, old j x hj]
     · simp [h0, hp1, Syn.name, Syn.kind, hk]
       refine ⟨h, fun j x hjp hj => ?_⟩
       simp [hj, hjp, old j x hj]
   · have hk' : ¬ (((Syn.at_ W s).2.kind : Nat) : Int) = 1 := by omega
     have hk2 : ((((Syn.at_ W s).2.kind : Nat) : Int) != 1) = true := by simp [hk']
     simp [zat, hk2]
     refine zaa (zeQ (W := W) (s := s) (by unfold PAt; simp [hp1]; exact h) hi 7) ?_
     rintro _ H2 ⟨rfl, rfl⟩
     simp
     refine zaa (p_ok (PAt.set _)) ?_
     rintro _ H3 ⟨rfl, rfl⟩
     have h0 : ¬ (Syn.fail W 7 s).err = 0 := by unfold Syn.fail; split <;> simp_all
     simp [h0, hp1, Syn.name, Syn.kind, hk]
     intro j x hjp hj
     simp [hj, hjp, old j x hj]
 · rintro hw ha r H1 ⟨rfl, h1, h2⟩
   exact ⟨_, H.set p (.cells (zaj W (Syn.name W s).2)), .old rfl, rfl, zcp hw h h1 h2, rfl, rfl⟩
theorem p_right {W : Syn.Ws} (hW : WsOk W) {p : Nat} {nf : FuncId} {t : Bs} {d : Int} {next below : Syn.P} (hd1 : 1 <= d) (hd2 : d <= 30) (hn : Reads G W p nf d next) (hk : Keeps W next) (hb : d ≠ 30 -> zgX G W p nf t (d + 1) below) :
  zgX G W p nf t d (Syn.right W next t (decide (d = 30)) below) := by
 intro H s h hi
 refine PRes.deep h ?_
 refine Does.wf Tryz.call101 fun hw _ => ?_
 have old : ∀ j x, H.get j = some x -> j ≠ H.next /\ j ≠ H.next + 1 /\ j ≠ H.next + 1 + 1 := fun j x hj => by have := zac hw hj; omega
 refine zaf Tryz.call101 Tryz.func101 rfl (by simp [Tryz.f101]) ?_
 obtain ⟨hp1, hp2, hp3⟩ := old _ _ h
 simp
 refine zaa (hn _ s (by unfold PAt; simp [hp1]; exact h) hi) ?_
 rintro _ H1 ⟨rfl, rfl⟩
 have hi1 := hk.i s hi
 rcases hx : next s with ⟨⟨op, nm, n, po, ks⟩, s1⟩
 rw [hx] at hi1
 simp only at hi1
 simp [zab, hp1, Ne.symm hp1]
 refine zaa (p_is (W := W) (s := s1) (by unfold PAt; simp [hp2]) hi1 t) ?_
 rintro _ H2 ⟨rfl, rfl⟩
 by_cases ht : Syn.is W s1 t = true
 · simp [ht]
   have hk1 := is_kind ht
   refine zaa (zeP hW (W := W) (s := s1) (by unfold PAt; simp [hp2]) hi1) ?_
   rintro _ H2 ⟨rfl, rfl⟩
   have hi2 := zcI hW hi1 hk1.2
   simp [zat]
   refine zaa (zfk (W := W) (s := Syn.part W s1) (by unfold PAt; simp [hp3]) hi2 d) ?_
   rintro _ H3 ⟨rfl, rfl⟩
   rcases hdp : Syn.deeper W (decide (d = 30)) (Syn.part W s1) with ⟨b, s2⟩
   have hi3 : s2.i < W.length := by
    have := zcS W (decide (d = 30)) (Syn.part W s1)
    rw [hdp] at this
    simp only at this
    omega
   have n0 : H.next ≠ H.next + 1 + 1 := by omega
   cases b with
   | false =>
     simp [hp1, hp2, hp3, Ne.symm hp1, Ne.symm hp2, Ne.symm hp3, n0]
     refine ⟨?_, ?_, ?_⟩
     · simp [Syn.right, hx, ht, hdp]
       rw [zab]
       exact .old (by simp [AV.idLt, AV.allLt, za1])
     · simp [Syn.right, hx, ht, hdp, hp1, hp2, hp3]
     · intro j x hjp hj
       obtain ⟨k1, k2, k3⟩ := old j x hj
       simp [hj, hjp, k1, k2, k3]
   | true =>
     have hd30 : d ≠ 30 := by
      intro e
      subst e
      simp only [decide_true, Syn.deeper, if_true, Prod.mk.injEq] at hdp
      have : ¬ (Syn.fail W 2 (Syn.part W s1)).err = 0 := by unfold Syn.fail; split <;> simp_all
      simp [this] at hdp
     have hw1 : IntKind.i64.wrap (d + 1) = d + 1 := IntWalk.i64_in _ (by omega)
     have hB := hb hd30
     simp [hp1, hp2, hp3, Ne.symm hp1, Ne.symm hp2, Ne.symm hp3, n0]
     refine zak [(2, 0), (2, 10), (3, 0), (3, 10)] mixedOrders (by kernel_rfl) ?_
     intro es hes
     simp [hp1, hp2, hp3, Ne.symm hp1, Ne.symm hp2, Ne.symm hp3, n0, hw1]
     refine ⟨_, _, hB _ s2 (by unfold PAt; simp) hi3, by simp, ?_⟩
     rcases hy : below s2 with ⟨⟨op2, nm2, n2, po2, ks2⟩, s4⟩
     have m1 : H.next ≠ H.next + 1 + 1 + 1 := by omega
     have m2 : H.next + 1 + 1 + 1 ≠ H.next := by omega
     have m3 : H.next + 1 + 1 + 1 ≠ H.next + 1 := by omega
     have hp4 : p ≠ H.next + 1 + 1 + 1 := by have := zac hw h; omega
     simp [zab, hp1, hp2, hp3, hp4, Ne.symm hp1, Ne.symm hp2, Ne.symm hp3, Ne.symm hp4, n0, m1, m2, m3, rds, heapF]
     refine ⟨?_, ?_, ?_, ?_⟩
     · subst hes
       exact ⟨by kernel_rfl, by kernel_rfl⟩
     · simp [Syn.right, hx, ht, hdp, hy]
       rw [zab]
       refine .agg (.cons (.old rfl) (.cons (.old rfl) (.cons (.old rfl) (.cons (.old rfl) (.cons ?_ .nil)))))
       have hkk : kidsV [Syn.Ex.mk op nm n po ks, Syn.Ex.mk op2 nm2 n2 po2 ks2] = .vsl (zae [Syn.Ex.mk op nm n po ks, Syn.Ex.mk op2 nm2 n2 po2 ks2]) 2 := rfl
       rw [hkk]
       refine .sl (cs := zae [Syn.Ex.mk op nm n po ks, Syn.Ex.mk op2 nm2 n2 po2 ks2]) (by omega) ?_ ?_
       · simp [zae, zab, hp4, Ne.symm hp4, m1, m2, m3]
       · simp only [zae, zab]
         exact .old (by simp [AV.allLt, AV.idLt, za1])
     · simp [Syn.right, hx, ht, hdp, hy, hp1, hp2, hp3, hp4]
     · intro j x hjp hj
       obtain ⟨k1, k2, k3⟩ := old j x hj
       have k4 : j ≠ H.next + 1 + 1 + 1 := by have := zac hw hj; omega
       simp [hj, hjp, k1, k2, k3, k4]
 · have ht' : Syn.is W s1 t = false := by simpa using ht
   simp [ht', hp1, hp2, Ne.symm hp1, Ne.symm hp2]
   refine ⟨?_, ?_, ?_⟩
   · simp [Syn.right, hx, ht']
     rw [zab]
     exact .old (by simp [AV.idLt, AV.allLt, za1])
   · simp [Syn.right, hx, ht', hp1, hp2]
   · intro j x hjp hj
     obtain ⟨k1, k2, k3⟩ := old j x hj
     simp [hj, hjp, k1, k2, k3]
theorem fail_err (W : Syn.Ws) {e : Nat} (he : e ≠ 0) (s : Syn.St) : ¬ (Syn.fail W e s).err = 0 := by unfold Syn.fail; split <;> simp_all
theorem zfO {W : Syn.Ws} {d : Int} {s s2 : Syn.St} (h : Syn.deeper W (decide (d = 30)) s = (true, s2)) : d ≠ 30 /\ s2 = s := by
 by_cases e : d = 30
 · subst e
   simp [Syn.deeper, fail_err W (e := 2) (by omega)] at h
 · simp only [Syn.deeper, e, decide_false, Bool.false_eq_true, if_false, Prod.mk.injEq] at h
   exact ⟨e, h.2.symm⟩
theorem p_inner {W : Syn.Ws} {p : Nat} {d : Int} {below : Syn.P} (hd1 : 1 <= d) (hd2 : d <= 30) (hb : d ≠ 30 -> Reads G W p 54 (d + 1) below) :
  Reads G W p 232 d (Syn.inner W (decide (d = 30)) below) := by
 intro H s h hi
 refine PRes.deep h ?_
 refine Does.wf Tryz.call232 fun hw _ => ?_
 have old : ∀ j x, H.get j = some x -> j ≠ H.next := fun j x hj => by have := zac hw hj; omega
 refine zaf Tryz.call232 Tryz.func232 rfl (by simp [Tryz.f232]) ?_
 have hp1 := old _ _ h
 simp
 refine zaa (zfk (W := W) (s := s) (by unfold PAt; simp [hp1]; exact h) hi d) ?_
 rintro _ H1 ⟨rfl, rfl⟩
 rcases hdp : Syn.deeper W (decide (d = 30)) s with ⟨b, s2⟩
 have hi3 : s2.i < W.length := by
  have := zcS W (decide (d = 30)) s
  rw [hdp] at this
  simp only at this
  omega
 cases b with
 | false =>
   simp [hp1, Ne.symm hp1]
   refine ⟨?_, ?_, ?_⟩
   · simp [Syn.inner, hdp]
     exact .old rfl
   · simp [Syn.inner, hdp, hp1]
   · intro j x hjp hj
     simp [hj, hjp, old j x hj]
 | true =>
   have hd30 := (zfO hdp).1
   have hw1 : IntKind.i64.wrap (d + 1) = d + 1 := IntWalk.i64_in _ (by omega)
   have hB := hb hd30
   simp [hp1, Ne.symm hp1, hw1]
   refine zaa (hB _ s2 (PAt.set _) hi3) ?_
   rintro _ H2 ⟨rfl, rfl⟩
   rcases hy : below s2 with ⟨⟨op, nm, n, po, ks⟩, s4⟩
   simp [zab, hp1, Ne.symm hp1]
   refine ⟨?_, ?_, ?_⟩
   · simp [Syn.inner, hdp, hy]
     rw [zab]
     exact .old (by simp [AV.idLt, AV.allLt, za1])
   · simp [Syn.inner, hdp, hy, hp1]
   · intro j x hjp hj
     simp [hj, hjp, old j x hj]
theorem p_merged {W : Syn.Ws} {p : Nat} {d : Int} {below : Syn.P} (hd1 : 1 <= d) (hd2 : d <= 30) (hb : d ≠ 30 -> Reads G W p 229 (d + 1) below) :
  Reads G W p 235 d (Syn.inner W (decide (d = 30)) below) := by
 intro H s h hi
 refine PRes.deep h ?_
 refine Does.wf Tryz.call235 fun hw _ => ?_
 have old : ∀ j x, H.get j = some x -> j ≠ H.next := fun j x hj => by have := zac hw hj; omega
 refine zaf Tryz.call235 Tryz.func235 rfl (by simp [Tryz.f235]) ?_
 have hp1 := old _ _ h
 simp
 refine zaa (zfk (W := W) (s := s) (by unfold PAt; simp [hp1]; exact h) hi d) ?_
 rintro _ H1 ⟨rfl, rfl⟩
 rcases hdp : Syn.deeper W (decide (d = 30)) s with ⟨b, s2⟩
 have hi3 : s2.i < W.length := by
  have := zcS W (decide (d = 30)) s
  rw [hdp] at this
  simp only at this
  omega
 cases b with
 | false =>
   simp [hp1, Ne.symm hp1]
   refine ⟨?_, ?_, ?_⟩
   · simp [Syn.inner, hdp]
     exact .old rfl
   · simp [Syn.inner, hdp, hp1]
   · intro j x hjp hj
     simp [hj, hjp, old j x hj]
 | true =>
   have hd30 := (zfO hdp).1
   have hw1 : IntKind.i64.wrap (d + 1) = d + 1 := IntWalk.i64_in _ (by omega)
   have hB := hb hd30
   simp [hp1, Ne.symm hp1, hw1]
   refine zaa (hB _ s2 (PAt.set _) hi3) ?_
   rintro _ H2 ⟨rfl, rfl⟩
   rcases hy : below s2 with ⟨⟨op, nm, n, po, ks⟩, s4⟩
   simp [zab, hp1, Ne.symm hp1]
   refine ⟨?_, ?_, ?_⟩
   · simp [Syn.inner, hdp, hy]
     rw [zab]
     exact .old (by simp [AV.idLt, AV.allLt, za1])
   · simp [Syn.inner, hdp, hy, hp1]
   · intro j x hjp hj
     simp [hj, hjp, old j x hj]
theorem p_un {W : Syn.Ws} (hW : WsOk W) {p : Nat} {d : Int} {prim below : Syn.P} (hd1 : 1 <= d) (hd2 : d <= 30) (hn : Reads G W p 229 d prim) (hb : d ≠ 30 -> Reads G W p 223 (d + 1) below) :
  Reads G W p 223 d (Syn.un W prim (decide (d = 30)) below) := by
 intro H s h hi
 refine PRes.deep h ?_
 refine Does.wf Tryz.call223 fun hw _ => ?_
 have old : ∀ j x, H.get j = some x -> j ≠ H.next /\ j ≠ H.next + 1 /\ j ≠ H.next + 1 + 1 /\ j ≠ H.next + 1 + 1 + 1 := fun j x hj => by have := zac hw hj; omega
 refine zaf Tryz.call223 Tryz.func223 rfl (by simp [Tryz.f223]) ?_
 obtain ⟨hp1, hp2, hp3, hp4⟩ := old _ _ h
 have hq1 := Ne.symm hp1
 have hq2 := Ne.symm hp2
 have hq3 := Ne.symm hp3
 have hq4 := Ne.symm hp4
 have m1 : H.next ≠ H.next + 1 := by omega
 have m2 : H.next ≠ H.next + 1 + 1 := by omega
 have m3 : H.next ≠ H.next + 1 + 1 + 1 := by omega
 have m4 : H.next + 1 ≠ H.next + 1 + 1 + 1 := by omega
 have m5 : H.next + 1 + 1 + 1 ≠ H.next := by omega
 simp
 refine zaa (p_one (W := W) (s := s) (by unfold PAt; simp [hp1, hp2]; exact h) hi [[110, 111, 116], [45], [112, 114, 101]] (H.next + 1) 3 false (by simp) (by simp)) ?_
 rintro _ H1 ⟨rfl, rfl⟩
 by_cases ho : Syn.one W s [[110, 111, 116], [45], [112, 114, 101]] = true
 · have hk1 := zcq ho
   simp [ho]
   refine zaa (zeP hW (W := W) (s := s) (by unfold PAt; simp [hp1, hp2]; exact h) hi) ?_
   rintro _ H2 ⟨rfl, rfl⟩
   have hi2 := zcI hW hi hk1.2
   obtain ⟨opn, hopn⟩ : ∃ opn, opn = if (Syn.at_ W s).2.text = [45] then [110, 101, 103] else (Syn.at_ W s).2.text := ⟨_, rfl⟩
   have main : ∀ (c : Bool), c = decide ((Syn.at_ W s).2.text = [45]) -> True := fun _ _ => trivial
   by_cases ht : (Syn.at_ W s).2.text = [45]
   all_goals
    simp [ht] at hopn
    subst hopn
    simp [zat, ht, zd0]
    refine zaa (zfk (W := W) (s := Syn.part W s) (by unfold PAt; simp [hp1, hp2, hp3, hq1, hq2, hq3]) hi2 d) ?_
    rintro _ H3 ⟨rfl, rfl⟩
    rcases hdp : Syn.deeper W (decide (d = 30)) (Syn.part W s) with ⟨b, s2⟩
    have hi3 : s2.i < W.length := by
     have := zcS W (decide (d = 30)) (Syn.part W s)
     rw [hdp] at this
     simp only at this
     omega
    cases b with
    | false =>
      simp [hp1, hp2, hp3, hq1, hq2, hq3, m1, m2, m3, m4]
      refine ⟨?_, ?_, ?_⟩
      · simp [Syn.un, ho, hdp]
        exact .old rfl
      · simp [Syn.un, ho, hdp, hp1, hp2, hp3]
      · intro j x hjp hj
        obtain ⟨k1, k2, k3, k4⟩ := old j x hj
        simp [hj, hjp, k1, k2, k3, k4]
    | true =>
      have hd30 := (zfO hdp).1
      have hw1 : IntKind.i64.wrap (d + 1) = d + 1 := IntWalk.i64_in _ (by omega)
      have hB := hb hd30
      simp [hp1, hp2, hp3, hq1, hq2, hq3, m1, m2, m3, m4]
      refine zak [(2, 0), (2, 7)] mixedOrders (by kernel_rfl) ?_
      intro es hes
      simp [hp1, hp2, hp3, hq1, hq2, hq3, m1, m2, m3, m4, hw1]
      refine ⟨_, _, hB _ s2 (by unfold PAt; simp) hi3, by simp, ?_⟩
      rcases hy : below s2 with ⟨⟨op2, nm2, n2, po2, ks2⟩, s4⟩
      simp [zab, hp1, hp2, hp3, hp4, hq1, hq2, hq3, hq4, m1, m2, m3, m4, m5, rds, heapF]
      refine ⟨?_, ?_, ?_, ?_⟩
      · subst hes
        exact ⟨by kernel_rfl, by kernel_rfl⟩
      · simp [Syn.un, ho, hdp, hy, ht]
        rw [zab]
        refine .agg (.cons (.old rfl) (.cons (.old rfl) (.cons (.old rfl) (.cons (.old rfl) (.cons ?_ .nil)))))
        have hkk : kidsV [Syn.Ex.mk op2 nm2 n2 po2 ks2] = .vsl (zae [Syn.Ex.mk op2 nm2 n2 po2 ks2]) 1 := rfl
        rw [hkk]
        refine .sl (cs := zae [Syn.Ex.mk op2 nm2 n2 po2 ks2]) (by omega) ?_ ?_
        · simp [zae, zab, hp4, hq4, m1, m2, m3, m4, m5]
        · simp only [zae, zab]
          exact .old (by simp [AV.allLt, AV.idLt, za1])
      · simp [Syn.un, ho, hdp, hy, hp1, hp2, hp3, hp4]
      · intro j x hjp hj
        obtain ⟨k1, k2, k3, k4⟩ := old j x hj
        simp [hj, hjp, k1, k2, k3, k4]
 · have ho' : Syn.one W s [[110, 111, 116], [45], [112, 114, 101]] = false := by simpa using ho
   simp [ho']
   refine zaa (hn _ s (by unfold PAt; simp [hp1, hp2]; exact h) hi) ?_
   rintro _ H2 ⟨rfl, rfl⟩
   rcases hy : prim s with ⟨⟨op, nm, n, po, ks⟩, s4⟩
   simp [zab, hp1, hp2, hq1, hq2, m1]
   refine ⟨?_, ?_, ?_⟩
   · simp [Syn.un, ho', hy]
     rw [zab]
     exact .old (by simp [AV.idLt, AV.allLt, za1])
   · simp [Syn.un, ho', hy, hp1, hp2]
   · intro j x hjp hj
     obtain ⟨k1, k2, k3, k4⟩ := old j x hj
     simp [hj, hjp, k1, k2, k3, k4]
theorem zjl {W : Syn.Ws} {s : Syn.St} (hi : s.i < W.length) (h0 : s.err = 0) : mu W (Syn.part W s) < mu W s := by
 have e1 : mu W s = W.length - s.i := by unfold mu; rw [if_pos h0]
 rw [e1]
 unfold Syn.part
 simp only
 by_cases hc : 300 < Syn.wrap (s.parts + 1)
 · simp only [hc, if_true]
   have := fail_err W (e := 2) (by omega) { s with parts := Syn.wrap (s.parts + 1) }
   rw [if_neg this]
   unfold mu
   rw [if_neg this]
   omega
 · simp only [hc, if_false, h0, if_true]
   unfold mu
   simp only [h0, if_true]
   omega
theorem p_cmp {W : Syn.Ws} (hW : WsOk W) {p : Nat} {d : Int} {next : Syn.P} (hn : Reads G W p 196 d next) (hk : Keeps W next) : Reads G W p 167 d (Syn.cmp W next) := by
 intro H s h hi
 refine PRes.deep h ?_
 refine Does.wf Tryz.call167 fun hw _ => ?_
 have old : ∀ j x, H.get j = some x -> j ≠ H.next /\ j ≠ H.next + 1 /\ j ≠ H.next + 1 + 1 /\ j ≠ H.next + 1 + 1 + 1 /\ j ≠ H.next + 1 + 1 + 1 + 1 := fun j x hj => by have := zac hw hj; omega
 refine zaf Tryz.call167 Tryz.func167 rfl (by simp [Tryz.f167]) ?_
 obtain ⟨hp1, hp2, hp3, hp4, hp5⟩ := old _ _ h
 have hq1 := Ne.symm hp1
 have hq2 := Ne.symm hp2
 have hq3 := Ne.symm hp3
 have hq4 := Ne.symm hp4
 have hq5 := Ne.symm hp5
 have m1 : H.next ≠ H.next + 1 := by omega
 have m2 : H.next ≠ H.next + 1 + 1 := by omega
 have m3 : H.next ≠ H.next + 1 + 1 + 1 := by omega
 have m4 : H.next + 1 ≠ H.next + 1 + 1 + 1 := by omega
 have m5 : H.next + 1 + 1 + 1 ≠ H.next := by omega
 have m6 : H.next ≠ H.next + 1 + 1 + 1 + 1 := by omega
 have m7 : H.next + 1 ≠ H.next + 1 + 1 + 1 + 1 := by omega
 have m8 : H.next + 1 + 1 + 1 + 1 ≠ H.next := by omega
 have m9 : H.next + 1 + 1 + 1 + 1 ≠ H.next + 1 := by omega
 simp
 refine zaa (hn _ s (by unfold PAt; simp [hp1]; exact h) hi) ?_
 rintro _ H1 ⟨rfl, rfl⟩
 have hi1 := hk.i s hi
 rcases hx : next s with ⟨⟨op, nm, n, po, ks⟩, s1⟩
 rw [hx] at hi1
 simp only at hi1
 simp [zab, hp1, hq1]
 refine zaa (p_one (W := W) (s := s1) (by unfold PAt; simp [hp2, hp3]) hi1 [[61], [60, 62], [60], [60, 61], [62], [62, 61]] (H.next + 1 + 1) 6 false (by simp) (by simp)) ?_
 rintro _ H2 ⟨rfl, rfl⟩
 by_cases ho : Syn.one W s1 [[61], [60, 62], [60], [60, 61], [62], [62, 61]] = true
 · have hk1 := zcq ho
   simp [ho]
   refine zaa (zeP hW (W := W) (s := s1) (by unfold PAt; simp [hp2, hp3]) hi1) ?_
   rintro _ H3 ⟨rfl, rfl⟩
   have hi2 := zcI hW hi1 hk1.2
   simp [zat, hp1, hp2, hp3, hp4, hq1, hq2, hq3, hq4, m1, m2, m3, m4]
   refine zak [(1, 0), (1, 8), (3, 0), (3, 8), (4, 0), (4, 8)] mixedOrders (by kernel_rfl) ?_
   intro es hes
   simp [hp1, hp2, hp3, hp4, hq1, hq2, hq3, hq4, m1, m2, m3, m4]
   refine ⟨_, _, hn _ (Syn.part W s1) (by unfold PAt; simp [hp4]) hi2, by simp, ?_⟩
   rcases hy : next (Syn.part W s1) with ⟨⟨op2, nm2, n2, po2, ks2⟩, s4⟩
   simp [zab, hp1, hp2, hp3, hp4, hp5, hq1, hq2, hq3, hq4, hq5, m1, m2, m3, m4, m5, m6, m7, m8, m9, rds, heapF]
   refine ⟨?_, ?_, ?_, ?_⟩
   · subst hes
     exact ⟨by kernel_rfl, by kernel_rfl⟩
   · simp [Syn.cmp, hx, ho, hy]
     rw [zab]
     refine .agg (.cons (.old rfl) (.cons (.old rfl) (.cons (.old rfl) (.cons (.old rfl) (.cons ?_ .nil)))))
     have hkk : kidsV [Syn.Ex.mk op nm n po ks, Syn.Ex.mk op2 nm2 n2 po2 ks2] = .vsl (zae [Syn.Ex.mk op nm n po ks, Syn.Ex.mk op2 nm2 n2 po2 ks2]) 2 := rfl
     rw [hkk]
     refine .sl (cs := zae [Syn.Ex.mk op nm n po ks, Syn.Ex.mk op2 nm2 n2 po2 ks2]) (by omega) ?_ ?_
     · simp [zae, zab, hp5, hq5, m1, m2, m3, m4, m5, m6, m7, m8, m9]
     · simp only [zae, zab]
       exact .old (by simp [AV.allLt, AV.idLt, za1])
   · simp [Syn.cmp, hx, ho, hy, hp1, hp2, hp3, hp4, hp5]
   · intro j x hjp hj
     obtain ⟨k1, k2, k3, k4, k5⟩ := old j x hj
     simp [hj, hjp, k1, k2, k3, k4, k5]
 · have ho' : Syn.one W s1 [[61], [60, 62], [60], [60, 61], [62], [62, 61]] = false := by simpa using ho
   simp [ho', hp1, hp2, hp3, hq1, hq2, hq3, m1, m2]
   refine ⟨?_, ?_, ?_⟩
   · simp [Syn.cmp, hx, ho']
     rw [zab]
     exact .old (by simp [AV.idLt, AV.allLt, za1])
   · simp [Syn.cmp, hx, ho', hp1, hp2, hp3]
   · intro j x hjp hj
     obtain ⟨k1, k2, k3, k4, k5⟩ := old j x hj
     simp [hj, hjp, k1, k2, k3]
def ExAt (H : AHeap) (c n : Nat) (e : Syn.Ex) : Prop := ∃ (op nm : Bs) (k po : Int) (kv : AV), H.get c = some (.cells [.str op, .str nm, .int .i64 k, .int .i64 po, kv]) /\ kv.scalar = true /\ kv.cells = [kv] /\ ResL H.get n [.str op, .str nm, .int .i64 k, .int .i64 po, kv] (zas e)
theorem p_row {W : Syn.Ws} (hW : WsOk W) {p : Nat} {nf : FuncId} {d : Int} {next : Syn.P} (hn : Reads G W p nf d next) (hk : Keeps W next) (H : AHeap) (s : Syn.St) (h : PAt H p W s) (hi : s.i < W.length)
  (ts : List Bs) (j cap : Nat) (opn : Bool) (hj : H.get j = some (.cells (ts.map .str))) (hjp : j ≠ p) (hl : ts.length <= 1000) :
  Does Tryz.prog G 136 [.ptr p 0, .int .i64 d, .func (.func nf) [.ptr p 0] [], .sl j 0 1 ts.length cap opn] H fun r H' => r = .agg (zas (Syn.row W next ts s).1) /\ H' = H.set p (.cells (zaj W (Syn.row W next ts s).2)) := by
 refine PRes.deep h ?_
 refine Does.wf Tryz.call136 fun hw _ => ?_
 have old : ∀ j x, H.get j = some x -> j < H.next := fun j x hj => zac hw hj
 refine zaf Tryz.call136 Tryz.func136 rfl (by simp [Tryz.f136]) ?_
 have hpl := old _ _ h
 have hjl := old _ _ hj
 have hp1 : p ≠ H.next := by omega
 have hp2 : p ≠ H.next + 1 := by omega
 have hq1 := Ne.symm hp1
 have hq2 := Ne.symm hp2
 have hj1 : j ≠ H.next := by omega
 have hj2 : j ≠ H.next + 1 := by omega
 have m1 : H.next ≠ H.next + 1 := by omega
 simp
 refine zaa (hn _ s (by unfold PAt; simp [hp1]; exact h) hi) ?_
 rintro _ H1 ⟨rfl, rfl⟩
 have hi1 := hk.i s hi
 rcases hx : next s with ⟨⟨op, nm, n, po, ks⟩, s1⟩
 rw [hx] at hi1
 simp only at hi1
 simp [zab, hp1, hq1]
 refine zai (fun m T' H' => ∃ e s', Syn.rowL W next ts m e s' = Syn.rowL W next ts (W.length + 1) (.mk op nm n po ks) s1 /\ mu W s' < m /\ s'.i < W.length /\
  T' 0 = .ptr p 0 /\ T' 1 = .int .i64 d /\ T' 2 = .func (.func nf) [.ptr p 0] [] /\ T' 3 = .sl j 0 1 ts.length cap opn /\ T' 8 = .ptr H.next 0 /\ T' 9 = .ptr (H.next + 1) 0 /\ PAt H' p W s' /\ ExAt H' (H.next + 1) (H.next + 2) e /\
  H'.get H.next = some (.cells [.str [], .str [], .int .i64 0, .int .i64 0, .nilsl]) /\ (∀ x y, x ≠ p -> H.get x = some y -> H'.get x = some y)) (W.length + 1) ?_ ?_
 · refine ⟨_, _, rfl, ?_, hi1, by simp, by simp, by simp, by simp, by simp, by simp, by unfold PAt; simp [hp2], ?_, by simp [hp1, hq1], fun x y hxp hxy => ?_⟩
   · unfold mu; split <;> omega
   · refine ⟨op, nm, n, po, kidsV ks, by simp, by simp, by simp, ?_⟩
     rw [zab]
     exact .old (by simp [AV.idLt, AV.allLt, za1])
   · have := old x y hxy
     have k1 : x ≠ H.next := by omega
     have k2 : x ≠ H.next + 1 := by omega
     simp [hxy, hxp, k1, k2]
 rintro m T H1 ⟨e, s', hrow, hmu, hi', t0, t1, t2, t3, t8, t9, hP, ⟨eo, en, ek, ep, kv, hE, hkv1, hkv2, hres⟩, hZ, hkeep⟩ hw1 _
 have hjj := hkeep _ _ hjp hj
 have hN := zac hw1 hE
 have hp3 : p ≠ H1.next := by omega
 have hp4 : p ≠ H1.next + 1 := by omega
 have hq3 := Ne.symm hp3
 have hq4 := Ne.symm hp4
 have n1 : H.next ≠ H1.next := by omega
 have n2 : H.next + 1 ≠ H1.next := by omega
 have n3 : H.next ≠ H1.next + 1 := by omega
 have n4 : H.next + 1 ≠ H1.next + 1 := by omega
 have n5 := Ne.symm n1
 have n6 := Ne.symm n2
 have n7 := Ne.symm n3
 have n8 := Ne.symm n4
 obtain ⟨k, rfl⟩ : ∃ k, m = k + 1 := ⟨m - 1, by omega⟩
 simp [t0, t1, t2, t3, t8, t9]
 refine zaa (p_one hP hi' ts j cap opn hjj hl) ?_
 rintro _ H2 ⟨rfl, rfl⟩
 by_cases ho : Syn.one W s' ts = true
 · have hk1 := zcq ho
   simp [ho, t0, t1, t2, t3, t8, t9]
   refine zaa (zeP hW hP hi') ?_
   rintro _ H3 ⟨rfl, rfl⟩
   have hi2 := zcI hW hi' hk1.2
   simp [zat, t0, t1, t2, t3, t8, t9, hp3, hq3]
   refine zak [(1, 0), (1, 8), (3, 0), (3, 8), (4, 0), (4, 8)] mixedOrders (by kernel_rfl) ?_
   intro es hes
   simp [t0, t1, t2, t3, t8, t9, hp1, hp2, hp3, hq1, hq2, hq3, n1, n2, n5, n6, hE]
   refine ⟨_, _, hn _ (Syn.part W s') (by unfold PAt; simp [hp3]) hi2, by simp, ?_⟩
   have hi4 := hk.i (Syn.part W s') hi2
   have hm4 := hk.mu (Syn.part W s') hi2
   rcases hy : next (Syn.part W s') with ⟨⟨op2, nm2, n2', po2, ks2⟩, s4⟩
   rw [hy] at hi4 hm4
   simp only at hi4 hm4
   simp [zab, t0, t1, t2, t3, t8, t9, hp1, hp2, hp3, hp4, hq1, hq2, hq3, hq4, n1, n2, n3, n4, n5, n6, n7, n8, hE, hkv1, hkv2, hZ, rds, heapF]
   refine ⟨?_, ?_⟩
   · subst hes
     exact ⟨by kernel_rfl, by kernel_rfl⟩
   have hm5 := zjl hi' hk1.1
   have hlt1 := old _ _ h
   refine ⟨k, by omega, .mk (Syn.at_ W s').2.text [] 0 (Syn.at_ W s').1 [e, .mk op2 nm2 n2' po2 ks2], s4, by rw [<- hrow]; simp [Syn.rowL, ho, hy], by omega, hi4, ?_, ?_, ?_⟩
   · unfold PAt
     simp [hp2, hp3, hp4]
   · refine ⟨_, _, _, _, _, by simp; exact ⟨rfl, rfl, rfl, rfl, rfl⟩, rfl, rfl, ?_⟩
     rw [zab]
     refine .cons (.old rfl) (.cons (.old rfl) (.cons (.old rfl) (.cons (.old rfl) (.cons ?_ .nil))))
     have hkk : kidsV [e, Syn.Ex.mk op2 nm2 n2' po2 ks2] = .vsl (zae [e, Syn.Ex.mk op2 nm2 n2' po2 ks2]) 2 := rfl
     rw [hkk]
     refine .sl (cs := [AV.str eo, AV.str en, AV.int IntKind.i64 ek, AV.int IntKind.i64 ep, kv, AV.str op2, AV.str nm2, AV.int IntKind.i64 ↑n2', AV.int IntKind.i64 ↑po2, kidsV ks2]) (by omega) (by simp [n1, n2, n3, n4, n5, n6, n7, n8, hp4, hq4]) ?_
     simp only [zae, List.append_nil]
     have hr2 := ResL.mono (g' := ((((((H2.set p (AObj.cells (zaj W (Syn.part W s')))).push (AObj.cells [AV.int IntKind.i64 0, AV.str [], AV.int IntKind.i64 0, AV.int IntKind.i64 0])).set H2.next (AObj.cells [AV.int IntKind.i64 ↑(Syn.at_ W s').snd.kind, AV.str (Syn.at_ W s').snd.text, AV.int IntKind.i64 ↑(Syn.at_ W s').snd.n, AV.int IntKind.i64 ↑(Syn.at_ W s').fst])).set p (AObj.cells (zaj W s4))).push (AObj.cells [AV.str eo, AV.str en, AV.int IntKind.i64 ek, AV.int IntKind.i64 ep, kv, AV.str op2, AV.str nm2, AV.int IntKind.i64 ↑n2', AV.int IntKind.i64 ↑po2, kidsV ks2])).set (H.next + 1) (AObj.cells [AV.str (Syn.at_ W s').snd.text, AV.str [], AV.int IntKind.i64 0, AV.int IntKind.i64 ↑(Syn.at_ W s').fst, AV.sl (H2.next + 1) 0 5 2 2 false])).get) (fun i cs hi hc => by
      have := zac hw1 hc
      have k1 : i ≠ H.next + 1 := by omega
      have k2 : i ≠ H2.next := by omega
      have k3 : i ≠ H2.next + 1 := by omega
      have k4 : i ≠ p := by omega
      simp [k1, k2, k3, k4, hc]) hres
     have hr3 : ResL ((((((H2.set p (AObj.cells (zaj W (Syn.part W s')))).push (AObj.cells [AV.int IntKind.i64 0, AV.str [], AV.int IntKind.i64 0, AV.int IntKind.i64 0])).set H2.next (AObj.cells [AV.int IntKind.i64 ↑(Syn.at_ W s').snd.kind, AV.str (Syn.at_ W s').snd.text, AV.int IntKind.i64 ↑(Syn.at_ W s').snd.n, AV.int IntKind.i64 ↑(Syn.at_ W s').fst])).set p (AObj.cells (zaj W s4))).push (AObj.cells [AV.str eo, AV.str en, AV.int IntKind.i64 ek, AV.int IntKind.i64 ep, kv, AV.str op2, AV.str nm2, AV.int IntKind.i64 ↑n2', AV.int IntKind.i64 ↑po2, kidsV ks2])).set (H.next + 1) (AObj.cells [AV.str (Syn.at_ W s').snd.text, AV.str [], AV.int IntKind.i64 0, AV.int IntKind.i64 ↑(Syn.at_ W s').fst, AV.sl (H2.next + 1) 0 5 2 2 false])).get (H.next + 2) [.str op2, .str nm2, .int .i64 n2', .int .i64 po2, kidsV ks2] (zas (.mk op2 nm2 n2' po2 ks2)) := by
      rw [zab]
      exact .old (by simp [AV.allLt, AV.idLt, za1])
     exact hr2.append hr3
   · intro x y hxp hxy
     have := old x y hxy
     have k1 : x ≠ H.next + 1 := by omega
     have k2 : x ≠ H2.next := by omega
     have k3 : x ≠ H2.next + 1 := by omega
     simp [hxp, k1, k2, k3, hkeep x y hxp hxy]
 · have ho' : Syn.one W s' ts = false := by simpa using ho
   have hfin : Syn.row W next ts s = (e, s') := by
    simp only [Syn.row, hx]
    rw [<- hrow]
    simp [Syn.rowL, ho']
   simp [ho', t0, t1, t2, t3, t8, t9, hE, hZ, hkv1, hkv2, m1]
   refine ⟨?_, ?_, ?_⟩
   · rw [hfin]
     refine .agg (ResL.down (n := H.next + 2) (by omega) (ResL.mono (fun i cs hi hc => ?_) hres) (zc5 _ _))
     have : i ≠ H.next := by omega
     simp [this, hc]
   · rw [hfin]
     simp [hp1]
     exact hP
   · intro x y hxp hxy
     have := old x y hxy
     have k1 : x ≠ H.next := by omega
     simp [k1, hkeep x y hxp hxy]
theorem zhm (W : Syn.Ws) {e : Nat} (he : e ≠ 0) (s : Syn.St) : mu W (Syn.fail W e s) <= mu W s := by
 have := fail_err W he s
 unfold mu
 rw [if_neg this]
 omega
theorem ze9 (W : Syn.Ws) (s : Syn.St) : mu W { s with i := s.i + 1 } <= mu W s := by
 unfold mu
 simp only
 split <;> omega
theorem take_mu (W : Syn.Ws) (s : Syn.St) (t : Bs) : mu W (Syn.take W s t).2 <= mu W s := by
 unfold Syn.take
 split
 · exact ze9 W s
 · exact Nat.le_refl _
theorem zaU (W : Syn.Ws) (s : Syn.St) (t : Bs) : mu W (Syn.want1 W s t) <= mu W s := by
 unfold Syn.want1
 split
 · exact ze9 W s
 · exact zhm W (by omega) s
theorem name_mu (W : Syn.Ws) (s : Syn.St) : mu W (Syn.name W s).2 <= mu W s := by
 unfold Syn.name
 by_cases hk : Syn.kind W s = 1
 · simp only [hk, if_true]
   split
   · exact ze9 W s
   · exact Nat.le_refl _
 · simp only [hk, if_false]
   rw [if_neg (fail_err W (by omega) s)]
   exact zhm W (by omega) s
theorem ziz (W : Syn.Ws) (b : Bool) (s : Syn.St) : mu W (Syn.deeper W b s).2 <= mu W s := by
 unfold Syn.deeper
 simp only
 split
 · exact zhm W (by omega) s
 · exact Nat.le_refl _
theorem part_mu' {W : Syn.Ws} (s : Syn.St) : mu W (Syn.part W s) <= mu W s := by
 by_cases h0 : s.err = 0
 · by_cases hi : s.i < W.length
   · exact Nat.le_of_lt (zjl hi h0)
   · unfold Syn.part
     simp only
     by_cases hc : 300 < Syn.wrap (s.parts + 1)
     · simp only [hc, if_true]
       have := fail_err W (e := 2) (by omega) { s with parts := Syn.wrap (s.parts + 1) }
       rw [if_neg this]
       unfold mu
       rw [if_neg this]
       omega
     · simp only [hc, if_false, h0, if_true]
       unfold mu
       simp only [h0, if_true]
       omega
 · unfold Syn.part
   simp only
   by_cases hc : 300 < Syn.wrap (s.parts + 1)
   · simp only [hc, if_true]
     have := fail_err W (e := 2) (by omega) { s with parts := Syn.wrap (s.parts + 1) }
     rw [if_neg this]
     unfold mu
     rw [if_neg this]
     omega
   · simp only [hc, if_false, h0]
     unfold mu
     simp only [h0, if_false]
     omega
theorem p_when {W : Syn.Ws} (hW : WsOk W) {p : Nat} {d : Int} {next : Syn.P} (hn : Reads G W p 223 d next) (hk : Keeps W next) : Reads G W p 217 d (Syn.when_ W next) := by
 intro H s h hi
 refine PRes.deep h ?_
 refine Does.wf Tryz.call217 fun hw _ => ?_
 have old : ∀ j x, H.get j = some x -> j < H.next := fun j x hj => zac hw hj
 refine zaf Tryz.call217 Tryz.func217 rfl (by simp [Tryz.f217]) ?_
 have hpl := old _ _ h
 have hp1 : p ≠ H.next := by omega
 have hp2 : p ≠ H.next + 1 := by omega
 have hq1 := Ne.symm hp1
 have hq2 := Ne.symm hp2
 have m1 : H.next ≠ H.next + 1 := by omega
 simp
 refine zaa (hn _ s (by unfold PAt; simp [hp1]; exact h) hi) ?_
 rintro _ H1 ⟨rfl, rfl⟩
 have hi1 := hk.i s hi
 rcases hx : next s with ⟨⟨op, nm, n, po, ks⟩, s1⟩
 rw [hx] at hi1
 simp only at hi1
 simp [zab, hp1, hq1]
 refine zai (fun m T' H' => ∃ e s', Syn.whenL W m e s' = Syn.whenL W (W.length + 1) (.mk op nm n po ks) s1 /\ mu W s' < m /\ s'.i < W.length /\
  T' 0 = .ptr p 0 /\ T' 1 = .int .i64 d /\ T' 4 = .ptr H.next 0 /\ T' 5 = .ptr (H.next + 1) 0 /\ PAt H' p W s' /\ ExAt H' (H.next + 1) (H.next + 2) e /\
  H'.get H.next = some (.cells [.str [], .str [], .int .i64 0, .int .i64 0, .nilsl]) /\ (∀ x y, x ≠ p -> H.get x = some y -> H'.get x = some y)) (W.length + 1) ?_ ?_
 · refine ⟨_, _, rfl, ?_, hi1, by simp, by simp, by simp, by simp, by unfold PAt; simp [hp2], ?_, by simp [hp1, hq1], fun x y hxp hxy => ?_⟩
   · unfold mu; split <;> omega
   · refine ⟨op, nm, n, po, kidsV ks, by simp, by simp, by simp, ?_⟩
     rw [zab]
     exact .old (by simp [AV.idLt, AV.allLt, za1])
   · have := old x y hxy
     have k1 : x ≠ H.next := by omega
     have k2 : x ≠ H.next + 1 := by omega
     simp [hxy, hxp, k1, k2]
 rintro m T H1 ⟨e, s', hrow, hmu, hi', t0, t1, t4, t5, hP, ⟨eo, en, ek, ep, kv, hE, hkv1, hkv2, hres⟩, hZ, hkeep⟩ hw1 _
 have hN := zac hw1 hE
 have hp3 : p ≠ H1.next := by omega
 have hp4 : p ≠ H1.next + 1 := by omega
 have hq3 := Ne.symm hp3
 have hq4 := Ne.symm hp4
 have n1 : H.next ≠ H1.next := by omega
 have n2 : H.next + 1 ≠ H1.next := by omega
 have n3 : H.next ≠ H1.next + 1 := by omega
 have n4 : H.next + 1 ≠ H1.next + 1 := by omega
 have n5 := Ne.symm n1
 have n6 := Ne.symm n2
 have n7 := Ne.symm n3
 have n8 := Ne.symm n4
 obtain ⟨k, rfl⟩ : ∃ k, m = k + 1 := ⟨m - 1, by omega⟩
 simp [t0, t1, t4, t5]
 refine zaa (p_is hP hi' [119, 104, 101, 110]) ?_
 rintro _ H2 ⟨rfl, rfl⟩
 by_cases ho : Syn.is W s' [119, 104, 101, 110] = true
 · have hk1 := is_kind ho
   simp [ho, t0, t1, t4, t5]
   refine zaa (zeP hW hP hi') ?_
   rintro _ H3 ⟨rfl, rfl⟩
   have hi2 := zcI hW hi' hk1.2
   have hm5 := zjl hi' hk1.1
   simp [zat, t0, t1, t4, t5, hp3, hq3]
   refine zaa (zbF hW (W := W) (s := Syn.part W s') (by unfold PAt; simp [hp3]) hi2 [110, 111, 116]) ?_
   rintro _ H3 ⟨rfl, rfl⟩
   have hi3 := zhb hW hi2 [110, 111, 116]
   have hm6 := take_mu W (Syn.part W s') [110, 111, 116]
   rcases htk : Syn.take W (Syn.part W s') [110, 111, 116] with ⟨b, s2⟩
   rw [htk] at hi3 hm6
   simp only at hi3 hm6
   have hi4 := name_ok hW hi3
   have hm7 := name_mu W s2
   rcases hnm : Syn.name W s2 with ⟨nm2, s4⟩
   rw [hnm] at hi4 hm7
   simp only at hi4 hm7
   obtain ⟨nn, hnn⟩ : ∃ nn : Nat, nn = if b then 0 else 1 := ⟨_, rfl⟩
   cases b
   all_goals
    simp at hnn
    simp [t0, t1, t4, t5, hp3, hq3]
    refine zak [(4, 0), (4, 2), (5, 0), (5, 2)] mixedOrders (by kernel_rfl) ?_
    intro es hes
    simp [t0, t1, t4, t5, hp1, hp2, hp3, hq1, hq2, hq3, n1, n2, n5, n6, hE]
    refine ⟨_, _, zek hW (W := W) (s := s2) (by unfold PAt; simp) hi3, by simp, ?_⟩
    simp [hnm, zab, t0, t1, t4, t5, hp1, hp2, hp3, hp4, hq1, hq2, hq3, hq4, n1, n2, n3, n4, n5, n6, n7, n8, hE, hkv1, hkv2, hZ, rds, heapF]
    refine ⟨?_, ?_⟩
    · subst hes
      exact ⟨by kernel_rfl, by kernel_rfl⟩
    refine ⟨k, by omega, .mk [119, 104, 101, 110] nm2 nn (Syn.at_ W s').1 [e], s4, by rw [<- hrow]; simp [Syn.whenL, ho, htk, hnm, hnn], by omega, hi4, ?_, ?_, ?_⟩
    · unfold PAt
      simp [hp2, hp3, hp4]
    · refine ⟨_, _, _, _, _, by simp; exact ⟨rfl, rfl, rfl, rfl, rfl⟩, rfl, rfl, ?_⟩
      rw [zab, hnn]
      refine .cons (.old rfl) (.cons (.old rfl) (.cons (.old rfl) (.cons (.old rfl) (.cons ?_ .nil))))
      have hkk : kidsV [e] = .vsl (zae [e]) 1 := rfl
      rw [hkk]
      refine .sl (cs := [AV.str eo, AV.str en, AV.int IntKind.i64 ek, AV.int IntKind.i64 ep, kv]) (by omega) (by simp [n1, n2, n3, n4, n5, n6, n7, n8, hp4, hq4]) ?_
      simp only [zae, List.append_nil]
      refine ResL.mono (fun i cs hi hc => ?_) hres
      have := zac hw1 hc
      have k1 : i ≠ H.next + 1 := by omega
      have k2 : i ≠ H2.next := by omega
      have k3 : i ≠ H2.next + 1 := by omega
      have k4 : i ≠ p := by omega
      simp [k1, k2, k3, k4, hc]
    · intro x y hxp hxy
      have := old x y hxy
      have k1 : x ≠ H.next + 1 := by omega
      have k2 : x ≠ H2.next := by omega
      have k3 : x ≠ H2.next + 1 := by omega
      simp [hxp, k1, k2, k3, hkeep x y hxp hxy]
 · have ho' : Syn.is W s' [119, 104, 101, 110] = false := by simpa using ho
   have hfin : Syn.when_ W next s = (e, s') := by
    simp only [Syn.when_, hx]
    rw [<- hrow]
    simp [Syn.whenL, ho']
   simp [ho', t0, t1, t4, t5, hE, hZ, hkv1, hkv2, m1]
   refine ⟨?_, ?_, ?_⟩
   · rw [hfin]
     refine .agg (ResL.down (n := H.next + 2) (by omega) (ResL.mono (fun i cs hi hc => ?_) hres) (zc5 _ _))
     have : i ≠ H.next := by omega
     simp [this, hc]
   · rw [hfin]
     simp [hp1]
     exact hP
   · intro x y hxp hxy
     have := old x y hxy
     have k1 : x ≠ H.next := by omega
     simp [k1, hkeep x y hxp hxy]
theorem zci (e : Syn.Ex) : (zas e).length = 5 := by cases e; rw [zab]; rfl
theorem zap : ∀ l : List Syn.Ex, (zae l).length = l.length * 5
 | [] => rfl
 | e :: l => by rw [zae, List.length_append, zci, zap l]; simp; omega
theorem zdn : ∀ a b : List Syn.Ex, zae (a ++ b) = zae a ++ zae b
 | [], b => rfl
 | e :: a, b => by rw [List.cons_append, zae, zae, zdn a b, List.append_assoc]
theorem zb6 {W : Syn.Ws} {b : Bool} {below : Syn.P} (hk : Keeps W below) : Keeps W (Syn.inner W b below) := by
 refine ⟨fun s hi => ?_, fun s hi => ?_⟩
 · unfold Syn.inner
   have h1 := zcS W b s
   rcases hd : Syn.deeper W b s with ⟨c, s1⟩
   rw [hd] at h1
   simp only at h1 ⊢
   cases c
   · simpa [h1] using hi
   · exact hk.i s1 (by omega)
 · unfold Syn.inner
   have h1 := zcS W b s
   have h2 := ziz W b s
   rcases hd : Syn.deeper W b s with ⟨c, s1⟩
   rw [hd] at h1 h2
   simp only at h1 h2 ⊢
   cases c
   · simpa using h2
   · exact Nat.le_trans (hk.mu s1 (by omega)) h2
theorem zjn {W : Syn.Ws} (hW : WsOk W) {p : Nat} {d : Int} {inn : Syn.P} (hn : Reads G W p 232 d inn) (hk : Keeps W inn) (H : AHeap) (s : Syn.St) (h : PAt H p W s) (hi : s.i < W.length) :
  Does Tryz.prog G 234 [.ptr p 0, .int .i64 d] H fun r H' => r = kidsV (Syn.arguments W inn s).1 /\ H' = H.set p (.cells (zaj W (Syn.arguments W inn s).2)) := by
 refine Does.deep (R := fun r H' => ResV H'.get H.next r (kidsV (Syn.arguments W inn s).1) /\ H'.get p = some (.cells (zaj W (Syn.arguments W inn s).2)) /\ ∀ j y, j ≠ p -> H.get j = some y -> H'.get j = some y) ?_ ?_
 rotate_left
 · rintro hw ha r H1 ⟨h1, h2, h3⟩
   exact ⟨_, H.set p (.cells (zaj W (Syn.arguments W inn s).2)), h1, rfl, zcp hw h h2 h3, rfl, rfl⟩
 refine Does.wf Tryz.call234 fun hw _ => ?_
 have old : ∀ j x, H.get j = some x -> j < H.next := fun j x hj => zac hw hj
 refine zaf Tryz.call234 Tryz.func234 rfl (by simp [Tryz.f234]) ?_
 have hpl := old _ _ h
 have hp1 : p ≠ H.next := by omega
 have hq1 := Ne.symm hp1
 simp
 refine zaa (zbF hW h hi [41]) ?_
 rintro _ H1 ⟨rfl, rfl⟩
 by_cases ht : Syn.is W s [41] = true
 · simp [Syn.take, ht]
   refine ⟨?_, ?_, ?_⟩
   · simp [Syn.arguments, ht]
     exact .old rfl
   · simp [Syn.arguments, ht]
   · intro j x hjp hj
     simp [hj, hjp]
 · have ht' : Syn.is W s [41] = false := by simpa using ht
   simp [Syn.take, ht']
   refine zaa (hn _ s (PAt.set _) hi) ?_
   rintro _ H1 ⟨rfl, rfl⟩
   have hi1 := hk.i s hi
   have hm1 := hk.mu s hi
   rcases hx : inn s with ⟨⟨op, nm, n, po, ks⟩, s1⟩
   rw [hx] at hi1 hm1
   simp only at hi1 hm1
   simp [zab, hp1, hq1]
   have hsm := hW.small
   refine zai (fun m T' H' => ∃ l s' b opn, Syn.argsL W inn m l s' = Syn.argsL W inn (W.length + 1) [.mk op nm n po ks] s1 /\ mu W s' < m /\ s'.i < W.length /\ l.length + m <= W.length + 2 /\ l ≠ [] /\
    T' 0 = .ptr p 0 /\ T' 1 = .int .i64 d /\ T' 5 = .sl b 0 5 l.length l.length opn /\ H'.get b = some (.cells (zae l)) /\ H.next <= b /\ PAt H' p W s' /\ (∀ x y, x ≠ p -> H.get x = some y -> H'.get x = some y)) (W.length + 1) ?_ ?_
   · refine ⟨_, _, H.next, false, rfl, ?_, hi1, by simp; omega, by simp, by simp, by simp, by simp, by simp [zae, zab], by omega, by unfold PAt; simp [hp1], fun x y hxp hxy => ?_⟩
     · unfold mu; split <;> omega
     · have := old x y hxy
       have k1 : x ≠ H.next := by omega
       simp [hxy, hxp, k1]
   rintro m T H1 ⟨l, s', b, opn, hargs, hmu, hi', hlm, hl0, t0, t1, t5, hb, hbn, hP, hkeep⟩ hw1 _
   have hN := zac hw1 hb
   have hp2 : p ≠ H1.next := by omega
   have hp3 : p ≠ H1.next + 1 := by omega
   have hq2 := Ne.symm hp2
   have hq3 := Ne.symm hp3
   have hpb : p ≠ b := by omega
   have hqb := Ne.symm hpb
   have n1 : b ≠ H1.next := by omega
   have n2 : b ≠ H1.next + 1 := by omega
   have n3 := Ne.symm n1
   have n4 := Ne.symm n2
   obtain ⟨k, rfl⟩ : ∃ k, m = k + 1 := ⟨m - 1, by omega⟩
   simp [t0, t1, t5]
   refine zaa (zbF hW hP hi' [44]) ?_
   rintro _ H2 ⟨rfl, rfl⟩
   by_cases ho : Syn.is W s' [44] = true
   · have hi2 := zb4 hW hi' (is_kind ho).2
     have hm2 : mu W { s' with i := s'.i + 1 } < mu W s' := by
      have h0 := (is_kind ho).1
      unfold mu
      simp only [h0, if_true]
      omega
     simp [Syn.take, ho, t0, t1, t5]
     refine zaa (hn _ { s' with i := s'.i + 1 } (PAt.set _) hi2) ?_
     rintro _ H3 ⟨rfl, rfl⟩
     have hi4 := hk.i { s' with i := s'.i + 1 } hi2
     have hm4 := hk.mu { s' with i := s'.i + 1 } hi2
     rcases hy : inn { s' with i := s'.i + 1 } with ⟨⟨op2, nm2, n2', po2, ks2⟩, s4⟩
     rw [hy] at hi4 hm4
     simp only at hi4 hm4
     have hgrow : ¬ (l.length + 1 <= l.length) := by omega
     have g1 : (l.length + 1) * 72 <= 140737488355328 := by omega
     have g2 : l.length <= 4611686018427387903 := by omega
     have g3 : List.take (l.length * 5) (zae l) = zae l := by rw [List.take_of_length_le]; rw [zap]; omega
     have g4 : l.length * 5 <= (zae l).length := by rw [zap]; omega
     cases opn <;> simp [zab, t0, t1, t5, hb, hpb, hqb, hp2, hp3, hq2, hq3, n1, n2, n3, n4, hgrow, g1, g2, g3, g4]
     all_goals
      refine ⟨k, by omega, l ++ [.mk op2 nm2 n2' po2 ks2], s4, by rw [<- hargs]; simp [Syn.argsL, ho, hy], by omega, hi4, by simp; omega, by simp, H1.next + 1, ⟨rfl, by simp⟩, by simp [zdn, zae, zab], by omega, ?_, ?_⟩
      · unfold PAt
        simp [hp2, hp3, hpb]
      · intro x y hxp hxy
        have := old x y hxy
        have k1 : x ≠ H1.next := by omega
        have k2 : x ≠ H1.next + 1 := by omega
        have k3 : x ≠ b := by omega
        simp [hxp, k1, k2, k3, hkeep x y hxp hxy]
   · have ho' : Syn.is W s' [44] = false := by simpa using ho
     simp [Syn.take, ho', t0, t1, t5]
     refine zaa (zaI hW (W := W) (s := s') (by unfold PAt; simp [hp2]) hi' [[41]] H1.next 1 false (by simp) hq2 (by simp)) ?_
     rintro _ H2 ⟨rfl, rfl⟩
     have hfin : Syn.arguments W inn s = (l, Syn.want1 W s' [41]) := by
      simp only [Syn.arguments, ht', Bool.false_eq_true, if_false, hx]
      rw [<- hargs]
      simp [Syn.argsL, ho']
     have hw1' : Syn.want W s' [[41]] = Syn.want1 W s' [41] := rfl
     have g3 : List.take (l.length * 5) (zae l) = zae l := by rw [List.take_of_length_le]; rw [zap]; omega
     have hkl : kidsV l = .vsl (zae l) l.length := by
      unfold kidsV
      cases l with
      | nil => exact absurd rfl hl0
      | cons a l => rfl
     simp [t0, t1, t5, hw1']
     refine ⟨?_, ?_, ?_⟩
     · rw [hfin, hkl]
       refine .sl (cs := zae l) (by omega) (by simp [hpb, hqb, n1, n3, hb]) ?_
       rw [List.drop_zero, g3]
       exact .old (zb7 _ _)
     · rw [hfin]
     · intro x y hxp hxy
       have := old x y hxy
       have k1 : x ≠ H1.next := by omega
       simp [hxp, k1, hkeep x y hxp hxy]
end Go.Proofs.YtnejkhhnpbcmaaaGreatDoor
