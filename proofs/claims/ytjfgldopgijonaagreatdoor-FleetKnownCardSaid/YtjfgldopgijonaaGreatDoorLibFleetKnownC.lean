/-
  Own library of this claim, part 3: texts one behind the other.
-/
import Derived.Lib.Bytealg
import Derived.Laws.Externs
import Derived.Below
import Derived.Laws.Entries
import Derived.Test.YtjfgldopgijonaaGreatDoorRows
import Derived.Lib.Walk
import Derived.Lib.UnsafeStr
import Derived.Lib.MakeNoZero
import Derived.Lib.Builder
import Derived.Laws.IdiomCopy
import Derived.Lib.BufferWrite
import Derived.Lib.Hide
import Derived.Laws.MakeOwn
import Derived.OwnWalk
import Derived.WalkKit
import Derived.ChangeArms
import Derived.DataReads
import Derived.OpenShut
import Derived.LaidLaws
import Derived.FnData
import GoSem.ClaimJoined
import Derived.ProofKit
import Derived.Laws.LoneSync
import Derived.Test.YtjfgldopgijonaaGreatDoorProg
import Derived.Tactics
import Derived.Tactics2
import Derived.Defers
import Derived.Laws.Pointers
import Derived.RegionTactic
import Derived.RegionCalls
import Derived.ChangeAlike
import Derived.IntWalk
import Derived.KernelRfl
import Derived.Test.YtjfgldopgijonaaGreatDoorLibFleetKnownB
set_option maxRecDepth 100000
set_option maxHeartbeats 8000000
set_option linter.unusedVariables false
set_option linter.unusedSimpArgs false
namespace Go.Abs
open Go
abbrev KC := ET -> FH -> Bool
def regOk (P : Program) (G : Nat -> Option AV) (N : Nat) (ops : Array Oper) : Bool := zaz N ops && statOk (ops.toList.map fun o => zai (fcop P G o)) (ancs ops.toList)
def regOkZ (P : Program) (G : Nat -> Option AV) (N : Nat) (ops : Array Oper) : Bool := zaz N ops && effOk (ops.toList.map fun o => zai (fcopZ P G o)) (ancs ops.toList)
def regOkM (P : Program) (G : Nat -> Option AV) (N : Nat) (ops : Array Oper) : Bool := zaz N ops && effOk (ops.toList.map fun o => zai (fcop P G o)) (ancs ops.toList)
noncomputable def fexec (ω : Om) (P : Program) (G : Nat -> Option AV) (N n : Nat) (c : Code) : KC -> KC -> (Nat -> KC) -> ET -> FH -> Bool :=
 Code.rec (motive := fun _ => KC -> KC -> (Nat -> KC) -> ET -> FH -> Bool)
  (fun kn _ _ T H => kn T H)
  (fun _ ops d kn _ _ T H => ifK d
    (ifK (regOk P G N ops) (runL ω P G (ops.toList.map (fcoper (fcop P G) ops true)) H.next T H kn)
      (ifK (regOkM P G N ops) (runM ω P G (ops.toList.map (fcoper (fcop P G) ops true)) H.next [] T H fun s T H' =>
        ifK ((hardPl (ops.toList.map fun o => zai (fcop P G o)) (ancs ops.toList)).all (checkR ω P G (fcop P G) ops (effPl (ops.toList.map fun o => zai (fcop P G o))) (ancs ops.toList) s.reverse H')) (kn T H') false)
        (ifK (regOkZ P G N ops) (runM ω P G (ops.toList.map (fcoper (fcopZ P G) ops true)) H.next [] T H fun s T H' =>
        ifK ((hardPl (ops.toList.map fun o => zai (fcopZ P G o)) (ancs ops.toList)).all (checkR ω P G (fcopZ P G) ops (effPl (ops.toList.map fun o => zai (fcopZ P G o))) (ancs ops.toList) s.reverse H')) (kn T H') false) false)))
    (ifK (dstOk N ops.toList) (runL ω P G (ops.toList.map (fcoper (fcop P G) ops false)) 1048576 T H kn) false))
  (fun _ _ iha ihb kn kr ke T H => iha (fun T H => ihb kn kr ke T H) kr ke T H)
  (fun x _ _ iha ihb kn kr ke T H => optK (fx G x) fun y => (y.get T).onBool false fun b => ifK b (iha kn kr ke T H) (ihb kn kr ke T H))
  (fun id _ ih kn kr ke T H => ih kn kr (fun i => ifK (Nat.beq i id) kn (ke i)) T H)
  (fun _ ih _ kr ke T H => Nat.rec (motive := fun _ => ET -> FH -> Bool) (fun _ _ => false) (fun _ lp T H => ih lp kr ke T H) n T H)
  (fun _ _ _ _ _ _ _ _ _ _ _ => false)
  (fun id _ _ ke T H => ke id T H)
  (fun _ _ _ _ _ _ _ => false)
  (fun _ _ _ _ _ _ => false)
  (fun _ _ _ _ _ _ => false)
  (fun _ kr _ T H => kr T H)
  (fun _ _ _ _ _ _ => false) c
def zaV (kn kr : KC) (ke : Nat -> KC) : Exit -> KC
 | .normal => kn
 | .ret => kr
 | .exit i => ke i
 | _ => fun _ _ => false
noncomputable def resK (P : Program) (G : Nat -> Option AV) (rs : List ResultVar) (T : ET) (H : FH) : (List AV -> Bool) -> Bool :=
 List.rec (motive := fun _ => (List AV -> Bool) -> Bool) (fun k => k [])
  (fun r _ ih k => ResultVar.rec (motive := fun _ => Bool)
    (fun t => optK (fx G (.tmp t)) fun x => ih fun vs => k (x.get T :: vs))
    (fun a t => optK (fx G (.tmp a)) fun x => optK (aagg P t) fun g => optK (asize P t) fun n => loadK 1048576 g n (x.get T) H fun v _ => v.force fun v => ih fun vs => k (v :: vs)) r) rs
noncomputable def oneK (vs : List AV) (k : AV -> Bool) : Bool := List.rec (motive := fun _ => Bool) (k (.tuple [])) (fun a r _ => List.rec (motive := fun _ => Bool) (k a) (fun _ _ _ => k (.tuple vs)) r) vs
noncomputable def initK (vs : List AV) : Nat -> ET -> (ET -> Bool) -> Bool :=
 List.rec (motive := fun _ => Nat -> ET -> (ET -> Bool) -> Bool) (fun _ T k => k T) (fun v _ ih i T k => ET.put (P32.of (Nat.div i 32)) (P32.of (Nat.mod i 32)) v T fun T => natK (Nat.add i 1) fun i => ih i T k) vs
abbrev Ov := FuncId -> Option (List AV -> FH -> (AV -> FH -> Bool) -> Bool)
noncomputable def fcall (ov : Ov) (P : Program) (G : Nat -> Option AV) (fuel n : Nat) : Om :=
 Nat.rec (motive := fun _ => Om) (fun _ _ _ _ => false) (fun _ ih f args H k =>
  Option.rec (motive := fun _ => Bool)
   (optK (P.funcs[f]?) fun fn => optK fn.body fun c => ifK (Nat.ble (lenN args) fn.ntmps) (ifK (Nat.ble fn.ntmps 1024)
     (initK args 0 ET.none fun T =>
       fexec ih P G fn.ntmps fuel c (fun T H => resK P G fn.results.toList T H fun vs => oneK vs fun v => k v H) (fun T H => resK P G fn.results.toList T H fun vs => oneK vs fun v => k v H) (fun _ _ _ => false) T H) false) false)
   (fun g => g args H k) (ov f)) n
section
variable {ω : Om} {P : Program} {G : Nat -> Option AV} {N : Nat}
theorem fexec_sound (hm : P.follows .mixedOrders = true) (hω : GoodK P G ω) (hN : N <= 1024) (n : Nat) : ∀ (c : Code) (kn kr : KC) (ke : Nat -> KC) (T : ET) (H : FH), fexec ω P G N n c kn kr ke T H = true ->
  ∃ e T' H', (∀ Q : Exit -> (Nat -> AV) -> AHeap -> Prop, Q e (ET.fn T') (FH.abs H') -> AW P G N c Q T.fn H.abs) /\ H.next <= H'.next /\ zaV kn kr ke e T' H' = true := by
 intro c
 induction c with
 | skip => exact fun kn kr ke T H h => ⟨.normal, T, H, fun Q hQ => aw_skip hQ, Nat.le_refl _, h⟩
 | region id ops d =>
   intro kn kr ke T H h
   cases d with
   | true =>
     have h : ifK (regOk P G N ops) (runL ω P G (ops.toList.map (fcoper (fcop P G) ops true)) H.next T H kn)
      (ifK (regOkM P G N ops) (runM ω P G (ops.toList.map (fcoper (fcop P G) ops true)) H.next [] T H fun s T H' =>
        ifK ((hardPl (ops.toList.map fun o => zai (fcop P G o)) (ancs ops.toList)).all (checkR ω P G (fcop P G) ops (effPl (ops.toList.map fun o => zai (fcop P G o))) (ancs ops.toList) s.reverse H')) (kn T H') false)
        (ifK (regOkZ P G N ops) (runM ω P G (ops.toList.map (fcoper (fcopZ P G) ops true)) H.next [] T H fun s T H' =>
        ifK ((hardPl (ops.toList.map fun o => zai (fcopZ P G o)) (ancs ops.toList)).all (checkR ω P G (fcopZ P G) ops (effPl (ops.toList.map fun o => zai (fcopZ P G o))) (ancs ops.toList) s.reverse H')) (kn T H') false) false)) = true := h
     cases hrg : regOk P G N ops with
     | true =>
       rw [hrg, zaK] at h
       simp only [regOk, Bool.and_eq_true] at hrg
       have hd : dstOk N ops.toList = true := by
        have := hrg.1
        simp only [zaz, Bool.and_eq_true] at this
        exact this.2
       obtain ⟨u, T', H', htr, hn, hb, hk⟩ := runL_inv (copOk hω) hN true ops.toList _ T H kn hd h
       exact ⟨.normal, T', H', fun Q hQ => quiet_draw hm hrg.1 hrg.2 htr hb hQ, hn, hk⟩
     | false =>
       rw [hrg, zax] at h
       cases hrm : regOkM P G N ops with
       | true =>
         rw [hrm, zaK] at h
         have h1 := hrm
         simp only [regOkM, Bool.and_eq_true] at h1
         have hd : dstOk N ops.toList = true := by
          have := h1.1
          simp only [zaz, Bool.and_eq_true] at this
          exact this.2
         obtain ⟨u, s, T', H', htr, hn, hb, hsr, hk⟩ := runM_inv (copOk hω) hN ops.toList _ [] T H _ hd h
         obtain ⟨h2, h3⟩ := zaa hk
         simp only [List.append_nil, List.reverse_reverse] at h2
         exact ⟨.normal, T', H', fun Q hQ => checked_draw hm (copOk hω) h1.1 _ rfl h1.2 htr hb hsr h2 hQ, hn, h3⟩
       | false =>
         rw [hrm, zax] at h
         obtain ⟨h1, h⟩ := zaa h
         simp only [regOkZ, Bool.and_eq_true] at h1
         have hd : dstOk N ops.toList = true := by
          have := h1.1
          simp only [zaz, Bool.and_eq_true] at this
          exact this.2
         obtain ⟨u, s, T', H', htr, hn, hb, hsr, hk⟩ := runM_inv (copZOk hω) hN ops.toList _ [] T H _ hd h
         obtain ⟨h2, h3⟩ := zaa hk
         simp only [List.append_nil, List.reverse_reverse] at h2
         exact ⟨.normal, T', H', fun Q hQ => checked_draw hm (copZOk hω) h1.1 _ rfl h1.2 htr hb hsr h2 hQ, hn, h3⟩
   | false =>
     have h : ifK (dstOk N ops.toList) (runL ω P G (ops.toList.map (fcoper (fcop P G) ops false)) 1048576 T H kn) false = true := h
     obtain ⟨h1, h⟩ := zaa h
     obtain ⟨u, T', H', htr, hn, hb, hk⟩ := runL_inv (copOk hω) hN false ops.toList _ T H kn h1 h
     exact ⟨.normal, T', H', fun Q hQ => aw_region (tr_al htr h1 hQ), hn, hk⟩
 | seq a b iha ihb =>
   intro kn kr ke T H h
   obtain ⟨e, T1, H1, h1, h2, h3⟩ := iha (fun T H => fexec ω P G N n b kn kr ke T H) kr ke T H h
   cases e with
   | normal =>
     obtain ⟨e', T2, H2, g1, g2, g3⟩ := ihb kn kr ke T1 H1 h3
     exact ⟨e', T2, H2, fun Q hQ => aw_seq (h1 (QThen (fun T H => AW P G N b Q T H) Q) (g1 Q hQ)), by omega, g3⟩
   | exit i => exact ⟨.exit i, T1, H1, fun Q hQ => aw_seq (h1 (QThen (fun T H => AW P G N b Q T H) Q) hQ), h2, h3⟩
   | ret => exact ⟨.ret, T1, H1, fun Q hQ => aw_seq (h1 (QThen (fun T H => AW P G N b Q T H) Q) hQ), h2, h3⟩
   | goto _ => simp [zaV] at h3
   | panic _ => simp [zaV] at h3
   | outgrown => simp [zaV] at h3
 | cond x a b iha ihb =>
   intro kn kr ke T H h
   obtain ⟨y, hy, h⟩ := zaJ (show optK (fx G x) (fun y => (y.get T).onBool false fun b' => ifK b' (fexec ω P G N n a kn kr ke T H) (fexec ω P G N n b kn kr ke T H)) = true from h)
   rcases AV.onBool_inv h with ⟨t, ht, h⟩ | ⟨h, _⟩
   · have hx : aval G T.fn x = some (.bool t) := by rw [fx_eq hy, ht]
     cases t with
     | true =>
       obtain ⟨e, T1, H1, h1, h2, h3⟩ := iha kn kr ke T H h
       exact ⟨e, T1, H1, fun Q hQ => aw_cond hx (h1 Q hQ), h2, h3⟩
     | false =>
       obtain ⟨e, T1, H1, h1, h2, h3⟩ := ihb kn kr ke T H h
       exact ⟨e, T1, H1, fun Q hQ => aw_cond hx (h1 Q hQ), h2, h3⟩
   · simp at h
 | block id c ih =>
   intro kn kr ke T H h
   obtain ⟨e, T1, H1, h1, h2, h3⟩ := ih kn kr (fun i => ifK (Nat.beq i id) kn (ke i)) T H h
   cases e with
   | exit i =>
     have h3 : ifK (Nat.beq i id) kn (ke i) T1 H1 = true := h3
     cases hb : Nat.beq i id with
     | true =>
       rw [hb] at h3
       have hid : i = id := by simpa using hb
       exact ⟨.normal, T1, H1, fun Q hQ => aw_block (h1 (QBlock id Q) (by simp only [QBlock]; rw [if_pos hid]; exact hQ)), h2, h3⟩
     | false =>
       rw [hb] at h3
       have hid : ¬ i = id := fun e => by subst e; simp at hb
       exact ⟨.exit i, T1, H1, fun Q hQ => aw_block (h1 (QBlock id Q) (by simp only [QBlock]; rw [if_neg hid]; exact hQ)), h2, h3⟩
   | normal => exact ⟨.normal, T1, H1, fun Q hQ => aw_block (h1 (QBlock id Q) hQ), h2, h3⟩
   | ret => exact ⟨.ret, T1, H1, fun Q hQ => aw_block (h1 (QBlock id Q) hQ), h2, h3⟩
   | goto _ => simp [zaV] at h3
   | panic _ => simp [zaV] at h3
   | outgrown => simp [zaV] at h3
 | loop c ih =>
   intro kn kr ke T H h
   have key : ∀ (m : Nat) (T : ET) (H : FH), Nat.rec (motive := fun _ => ET -> FH -> Bool) (fun _ _ => false) (fun _ lp T H => fexec ω P G N n c lp kr ke T H) m T H = true ->
     ∃ e T' H', e ≠ Exit.normal /\ H.next <= H'.next /\ zaV kn kr ke e T' H' = true /\
       ∀ (Q : Exit -> (Nat -> AV) -> AHeap -> Prop) (E0 : Env) (a : Act) (w : World) b k cs, Q e (ET.fn T') (FH.abs H') -> GRel E0 G -> St E0 N T.fn H.abs a w ->
         ∃ e a' w', lift Q E0 N e a' w' /\ Arrives P (lone (b.at a (.code c :: .inLoop c :: k)) cs w) b k cs e a' w' := by
    intro m
    induction m with
    | zero => intro T H h; simp at h
    | succ m ihm =>
      intro T H h
      obtain ⟨e, T1, H1, h1, h2, h3⟩ := ih _ kr ke T H h
      have pass : e ≠ .normal -> zaV kn kr ke e T1 H1 = true -> (∀ i, e ≠ .goto i) -> ∃ e T' H', e ≠ Exit.normal /\ H.next <= H'.next /\ zaV kn kr ke e T' H' = true /\
       ∀ (Q : Exit -> (Nat -> AV) -> AHeap -> Prop) (E0 : Env) (a : Act) (w : World) b k cs, Q e (ET.fn T') (FH.abs H') -> GRel E0 G -> St E0 N T.fn H.abs a w ->
         ∃ e a' w', lift Q E0 N e a' w' /\ Arrives P (lone (b.at a (.code c :: .inLoop c :: k)) cs w) b k cs e a' w' := by
       intro hne hk hng
       refine ⟨e, T1, H1, hne, h2, hk, fun Q E0 a w b k cs hQ hG hs => ?_⟩
       obtain ⟨e2, a1, w1, ⟨T2, H2, ⟨rfl, rfl, rfl⟩, s⟩, harr⟩ := h1 (fun e' T' H' => e' = e /\ T' = T1.fn /\ H' = H1.abs) ⟨rfl, rfl, rfl⟩ E0 a w hG hs b (.inLoop c :: k) cs
       cases e2 with
       | normal => exact absurd rfl hne
       | exit i => exact ⟨_, a1, w1, ⟨_, _, hQ, s⟩, .pass (x := .inLoop c) rfl (fun _ _ => .inl (by simp)) harr⟩
       | ret => exact ⟨_, a1, w1, ⟨_, _, hQ, s⟩, .pass (x := .inLoop c) rfl (fun _ _ => .inl (by simp)) harr⟩
       | goto l => exact absurd rfl (hng l)
       | panic _ => exact ⟨_, a1, w1, ⟨_, _, hQ, s⟩, .pass (x := .inLoop c) rfl (fun _ _ => .inl (by simp)) harr⟩
       | outgrown => exact ⟨_, a1, w1, ⟨_, _, hQ, s⟩, .pass (x := .inLoop c) rfl (fun _ _ => .inl (by simp)) harr⟩
      cases e with
      | normal =>
        obtain ⟨e2, T2, H2, g1, g2, g3, g4⟩ := ihm T1 H1 h3
        refine ⟨e2, T2, H2, g1, by omega, g3, fun Q E0 a w b k cs hQ hG hs => ?_⟩
        obtain ⟨e3, a1, w1, ⟨T3, H3, ⟨rfl, rfl, rfl⟩, s⟩, harr⟩ := h1 (fun e' T' H' => e' = .normal /\ T' = T1.fn /\ H' = H1.abs) ⟨rfl, rfl, rfl⟩ E0 a w hG hs b (.inLoop c :: k) cs
        obtain ⟨e4, a2, w2, q2, harr2⟩ := g4 Q E0 a1 w1 b k cs hQ hG s
        exact ⟨e4, a2, w2, q2, .of_steps (Steps.trans harr (.one step_inLoop)) harr2⟩
      | exit i => exact pass (by simp) h3 (by simp)
      | ret => exact pass (by simp) h3 (by simp)
      | goto _ => simp [zaV] at h3
      | panic _ => simp [zaV] at h3
      | outgrown => simp [zaV] at h3
   obtain ⟨e, T', H', h1, h2, h3, h4⟩ := key n T H h
   refine ⟨e, T', H', fun Q hQ E0 a w hG hs b k cs => ?_, h2, h3⟩
   obtain ⟨e2, a', w', hq, harr⟩ := h4 Q E0 a w b k cs hQ hG hs
   exact ⟨e2, a', w', hq, .of_steps (.one step_loop) harr⟩
 | exit id => exact fun kn kr ke T H h => ⟨.exit id, T, H, fun Q hQ => aw_exit hQ, Nat.le_refl _, h⟩
 | ret => exact fun kn kr ke T H h => ⟨.ret, T, H, fun Q hQ => aw_ret hQ, Nat.le_refl _, h⟩
 | rangeFunc _ _ _ _ _ _ => intro kn kr ke T H h; have h : false = true := h; simp at h
 | scope _ _ => intro kn kr ke T H h; have h : false = true := h; simp at h
 | label _ => intro kn kr ke T H h; have h : false = true := h; simp at h
 | goto _ => intro kn kr ke T H h; have h : false = true := h; simp at h
 | refuse _ => intro kn kr ke T H h; have h : false = true := h; simp at h
theorem loadK_inv {g : Bool} {n : Nat} {a : AV} {t : TypeId} {H : FH} {k : AV -> FH -> Bool} (hg : aagg P t = some g) (hn : asize P t = some n) (h : loadK 1048576 g n a H k = true) :
  ∃ cs v, aat H.abs.get a = some cs /\ acut P t cs = some v /\ k v H = true := by
 rcases AV.onPtr_inv h with ⟨i, off, rfl, h⟩ | ⟨cs, rfl, h⟩
 · obtain ⟨h1, h'⟩ := zaa h
   obtain ⟨b, hb, h', _⟩ := FH.atK_inv h'
   have hb : H.abs.get i = some (.cells b.list) := hb
   cases g with
   | true =>
     obtain ⟨h2, h3⟩ := FObj.cutK_inv (show b.cutK off n (fun l => k (.agg l) H) false = true from h')
     refine ⟨b.list.drop off, .agg ((b.list.drop off).take n), by simp only [aat, hb]; rw [if_pos (by omega)], ?_, h3⟩
     simp only [acut, hg, hn]
     rw [if_pos (by simp; omega)]
   | false =>
     obtain ⟨v, h2, h3⟩ := FObj.cellK_inv (show b.cellK off (fun v => k v H) false = true from h')
     have hlt : off < b.list.length := by
      rcases Nat.lt_or_ge off b.list.length with g | g
      · exact g
      · rw [List.getElem?_eq_none g] at h2; simp at h2
     refine ⟨b.list.drop off, v, by simp only [aat, hb]; rw [if_pos (by omega)], ?_, h3⟩
     simp only [acut, hg, hn]
     rw [List.getElem?_drop, Nat.add_zero]; exact h2
 · cases g with
   | true =>
     have h' : takeK cs n (fun l => k (.agg l) H) false = true := h
     rw [takeK_eq] at h'
     split at h' <;> try (simp at h'; done)
     rename_i h2
     exact ⟨cs, .agg (cs.take n), rfl, by simp only [acut, hg, hn, if_pos h2], h'⟩
   | false =>
     have h' : nthK cs 0 (fun v => k v H) false = true := h
     rw [zaQ] at h'
     split at h' <;> try (simp at h'; done)
     rename_i v hc
     exact ⟨cs, v, rfl, by simp only [acut, hg, hn, hc], h'⟩
theorem resK_inv {T : ET} {H : FH} : ∀ {rs : List ResultVar} {k : List AV -> Bool}, resK P G rs T H k = true -> ∃ vs, zaM P T.fn H.abs.get rs = some vs /\ k vs = true
 | [], k, h => ⟨[], rfl, h⟩
 | .tmp t :: rs, k, h => by
   obtain ⟨x, hx, h⟩ := zaJ (show optK (fx G (.tmp t)) (fun x => resK P G rs T H fun vs => k (x.get T :: vs)) = true from h)
   obtain ⟨vs, h1, h2⟩ := resK_inv h
   have hv : some (T.fn t) = some (x.get T) := fx_eq (G := G) (x := .tmp t) hx
   simp only [Option.some.injEq] at hv
   exact ⟨x.get T :: vs, by simp only [zaM, aresult, h1, hv], h2⟩
 | .cell a t :: rs, k, h => by
   obtain ⟨x, hx, h⟩ := zaJ (show optK (fx G (.tmp a)) (fun x => optK (aagg P t) fun g => optK (asize P t) fun n => loadK 1048576 g n (x.get T) H fun v _ => v.force fun v => resK P G rs T H fun vs => k (v :: vs)) = true from h)
   obtain ⟨g, hg, h⟩ := zaJ h
   obtain ⟨n, hn, h⟩ := zaJ h
   obtain ⟨cs, v, h1, h2, h⟩ := loadK_inv hg hn h
   have h := (AV.force_eq v (fun v => resK P G rs T H fun vs => k (v :: vs))).symm.trans h
   obtain ⟨vs, h3, h4⟩ := resK_inv h
   have hv : some (T.fn a) = some (x.get T) := fx_eq (G := G) (x := .tmp a) hx
   simp only [Option.some.injEq] at hv
   exact ⟨v :: vs, by simp only [zaM, aresult, hv, h1, h2, h3], h4⟩
theorem oneK_inv {T : Nat -> AV} {get : Nat -> Option AObj} {rs : List ResultVar} {vs : List AV} {k : AV -> Bool} (hv : zaM P T get rs = some vs) (h : oneK vs k = true) : ∃ r, ares P T get rs = some r /\ k r = true := by
 match vs with
 | [] => exact ⟨.tuple [], by simp only [ares, hv], h⟩
 | [a] => exact ⟨a, by simp only [ares, hv], h⟩
 | a :: b :: r => exact ⟨.tuple (a :: b :: r), by simp only [ares, hv], h⟩
theorem initK_inv : ∀ (vs : List AV) (i : Nat) (T : ET) (k : ET -> Bool), i + vs.length <= 1024 -> initK vs i T k = true -> ∃ T' : ET, (T'.fn = fun t => if i <= t then (match vs[t - i]? with | some v => v | none => T.fn t) else T.fn t) /\ k T' = true
 | [], i, T, k, _, h => ⟨T, by funext t; simp, h⟩
 | v :: vs, i, T, k, hl, h => by
   simp only [List.length_cons] at hl
   have h : ET.put (P32.of (Nat.div i 32)) (P32.of (Nat.mod i 32)) v T (fun T => natK (Nat.add i 1) fun i => initK vs i T k) = true := h
   rw [ET.put_eq, zao] at h
   obtain ⟨T', h1, h2⟩ := initK_inv vs (i + 1) _ k (by omega) h
   refine ⟨T', ?_, h2⟩
   rw [h1]
   have e : ET.fn (ET.set T (P32.of (Nat.div i 32)) (P32.of (Nat.mod i 32)) v) = tput T.fn (some i) v := ET.fn_set T i v (by omega)
   rw [e]
   funext t
   by_cases h3 : i + 1 <= t
   · have hp : tput T.fn (some i) v t = T.fn t := by simp only [tput]; rw [if_neg (by omega)]
     rw [if_pos h3, if_pos (by omega), hp]
     have : t - i = (t - (i + 1)) + 1 := by omega
     rw [this, List.getElem?_cons_succ]
   · rw [if_neg h3]
     simp only [tput]
     by_cases h4 : t = i
     · subst h4; simp
     · rw [if_neg h4, if_neg (by omega)]
def zau (P : Program) (G : Nat -> Option AV) (ov : Ov) : Prop :=
 ∀ f g, ov f = some g -> ∀ args H k, g args H k = true -> ∃ v H', Does P G f args H.abs (fun r h => r = v /\ h = FH.abs H') /\ H.next <= H'.next /\ k v H' = true
theorem fcall_sound {ov : Ov} {fuel : Nat} (hm : P.follows .mixedOrders = true) (hp : plainFn P = true) (hov : zau P G ov) : ∀ n, GoodK P G (fcall ov P G fuel n)
 | 0 => fun f args H k h => by have h : false = true := h; simp at h
 | n + 1 => fun f args H k h => by
   have ih := fcall_sound (fuel := fuel) hm hp hov n
   have h : Option.rec (motive := fun _ => Bool)
    (optK (P.funcs[f]?) fun fn => optK fn.body fun c => ifK (Nat.ble (lenN args) fn.ntmps) (ifK (Nat.ble fn.ntmps 1024)
      (initK args 0 ET.none fun T =>
        fexec (fcall ov P G fuel n) P G fn.ntmps fuel c (fun T H => resK P G fn.results.toList T H fun vs => oneK vs fun v => k v H) (fun T H => resK P G fn.results.toList T H fun vs => oneK vs fun v => k v H) (fun _ _ _ => false) T H) false) false)
    (fun g => g args H k) (ov f) = true := h
   cases ho : ov f with
   | some g => rw [ho] at h; exact hov f g ho args H k h
   | none =>
     rw [ho] at h
     obtain ⟨fn, hf, h⟩ := zaJ h
     obtain ⟨c, hb, h⟩ := zaJ h
     obtain ⟨h1, h⟩ := zaa h
     obtain ⟨h2, h⟩ := zaa h
     have h1 : lenN args <= fn.ntmps := Nat.le_of_ble_eq_true h1
     rw [zap] at h1
     have h2 : fn.ntmps <= 1024 := Nat.le_of_ble_eq_true h2
     obtain ⟨T, hT, h⟩ := initK_inv args 0 ET.none _ (by omega) h
     obtain ⟨e, T', H', g1, g2, g3⟩ := fexec_sound hm ih h2 fuel c _ _ _ T H h
     have hT0 : T.fn = fun t => args.getD t zam := by
      rw [hT]
      funext t
      rw [if_pos (Nat.zero_le _), Nat.sub_zero, ET.fn_none, List.getD]
      cases args[t]? <;> rfl
     have fin : (e = .normal \/ e = .ret) -> resK P G fn.results.toList T' H' (fun vs => oneK vs fun v => k v H') = true -> ∃ v H', Does P G f args H.abs (fun r h => r = v /\ h = FH.abs H') /\ H.next <= H'.next /\ k v H' = true := by
      intro he hr
      obtain ⟨vs, r1, r2⟩ := resK_inv hr
      obtain ⟨r, r3, r4⟩ := oneK_inv r1 r2
      refine ⟨r, H', does_of (enters_of hp hf hb) hf hb h1 ?_, g2, r4⟩
      rw [<- hT0]
      exact g1 _ ⟨he, r, r3, rfl, rfl⟩
     cases e with
     | normal => exact fin (.inl rfl) g3
     | ret => exact fin (.inr rfl) g3
     | exit _ => simp [zaV] at g3
     | goto _ => simp [zaV] at g3
     | panic _ => simp [zaV] at g3
     | outgrown => simp [zaV] at g3
noncomputable def yesK (v : AV) (_ : FH) : Bool := v.onBool false fun b => b
end
def noOv : Ov := fun _ => none
theorem noOv_good (P : Program) (G : Nat -> Option AV) : zau P G noOv := fun _ _ h => by simp [noOv] at h
end Go.Abs
namespace Go.Abs
open Go Go.RowKit
noncomputable def idxK (k : Int -> Bool) (s : List UInt8) : Nat -> Nat -> Bool :=
 List.rec (motive := fun _ => Nat -> Nat -> Bool) (fun _ _ => k (Int.negSucc 0)) (fun b _ ih c i => ifK (Nat.beq b.toNat c) (k (Int.ofNat i)) (natK (Nat.succ i) fun i => ih c i)) s
theorem indexByte_cases (b : UInt8) (l : List UInt8) (c : UInt8) : Go.Lib.indexByte (b :: l) c = if b = c then 0 else if Go.Lib.indexByte l c = -1 then -1 else Go.Lib.indexByte l c + 1 := by
 simp [Go.Lib.indexByte]
theorem idxK_inv {k : Int -> Bool} {c : UInt8} : ∀ (s : List UInt8) (i : Nat), idxK k s c.toNat i = true -> k (if Go.Lib.indexByte s c = -1 then -1 else Go.Lib.indexByte s c + i) = true
 | [], i, h => h
 | b :: l, i, h => by
   have h : ifK (Nat.beq b.toNat c.toNat) (k (Int.ofNat i)) (natK (Nat.succ i) fun i => idxK k l c.toNat i) = true := h
   rw [indexByte_cases]
   by_cases e : b = c
   · subst e
     have e1 : Nat.beq b.toNat b.toNat = true := Nat.beq_refl _
     rw [e1, zaK] at h
     simpa using h
   · have e1 : Nat.beq b.toNat c.toNat = false := by
      cases h' : Nat.beq b.toNat c.toNat with
      | false => rfl
      | true => exact absurd (UInt8.toNat_inj.1 (Nat.eq_of_beq_eq_true h')) e
     rw [e1, zax, zao] at h
     have := idxK_inv l (i + 1) h
     rw [if_neg e]
     have hge := Go.Lib.indexByte_ge l c
     by_cases e2 : Go.Lib.indexByte l c = -1
     · rw [if_pos e2] at this ⊢; simpa using this
     · rw [if_neg e2] at this ⊢
       rw [if_neg (by omega)]
       have : Go.Lib.indexByte l c + 1 + (i : Int) = Go.Lib.indexByte l c + ((i + 1 : Nat) : Int) := by omega
       rw [this]; assumption
noncomputable def idxOv (args : List AV) (H : FH) (k : AV -> FH -> Bool) : Bool :=
 nthK args 0 (fun a => nthK args 1 (fun b => ifK (Nat.beq (lenN args) 2)
  (a.onStr false fun s => b.onInt false fun kd n => ifK (kindB kd .u8) (natK n.toNat fun c => ifK (Nat.blt c 256) (idxK (fun r => k (.int .i64 r) H) s c 0) false) false) false) false) false
structure IsIdx (P : Program) (f : FuncId) : Prop where
 ex : ∃ fn, P.funcs[f]? = some fn /\ (fn.name == "runtime.NumGoroutine") = false /\ fn.body.isNone = true /\ Extern.findNext fn = none /\ Extern.find fn = some Extern.BytealgIndexByte.indexByte
theorem nthK_inv {α : Type} {l : List α} {n : Nat} {k : α -> Bool} (h : nthK l n k false = true) : ∃ a, l[n]? = some a /\ k a = true := by
 rw [zaQ] at h
 split at h
 · rename_i a ha; exact ⟨a, ha, h⟩
 · simp at h
theorem idx_does {P : Program} {G : Nat -> Option AV} {f : FuncId} (hf : IsIdx P f) (s : List UInt8) (c : Int) (H : AHeap) :
  Does P G f [.str s, .int .u8 c] H fun r h => r = .int .i64 (Go.Lib.indexByte s c.toNat.toUInt8) /\ h = H := by
 obtain ⟨fn, h1, h2, h3, h4, h5⟩ := hf.ex
 refine ⟨fun E w vs hR hG hv => ?_⟩
 cases hv with | cons ha hv =>
 cases hv with | cons hb hv =>
 cases hv
 cases ha
 cases hb
 refine .inr ⟨.int .i64 (Go.Lib.indexByte s c.toNat.toUInt8), w, ?_, _, H, E, ⟨rfl, rfl⟩, Ext.refl E, .int _ _, hR⟩
 rw [run_callFunc_extern h1 h2 h3 h4 h5]
 have := Go.Lib.run_indexByteString (P := P) ⟨s.toArray⟩ c w
 simp only at this
 rw [this]
 rfl
theorem idxOv_good {P : Program} {G : Nat -> Option AV} {f : FuncId} (hf : IsIdx P f) (args : List AV) (H : FH) (k : AV -> FH -> Bool) (h : idxOv args H k = true) :
  ∃ v H', Does P G f args H.abs (fun r h => r = v /\ h = FH.abs H') /\ H.next <= H'.next /\ k v H' = true := by
 obtain ⟨a, ha, h⟩ := nthK_inv h
 obtain ⟨b, hb, h⟩ := nthK_inv h
 obtain ⟨hl, h⟩ := zaa h
 have hl := Nat.eq_of_beq_eq_true hl
 rw [zap] at hl
 obtain rfl : args = [a, b] := by
  match args, hl with
  | [x, y], _ => simp at ha hb; subst ha; subst hb; rfl
 rcases AV.onStr_inv h with ⟨s, rfl, h⟩ | ⟨h, _⟩
 case inr => simp at h
 rcases AV.onInt_inv (show AV.onInt false _ b = true from h) with ⟨kd, n, rfl, h⟩ | ⟨h, _⟩
 case inr => simp at h
 have h : ifK (kindB kd .u8) (natK n.toNat fun c => ifK (Nat.blt c 256) (idxK (fun r => k (.int .i64 r) H) s c 0) false) false = true := h
 obtain ⟨hk, hx⟩ := zaa h
 rw [zao] at hx
 obtain ⟨hlt, hx⟩ := zaa hx
 have hlt : n.toNat < 256 := Nat.le_of_ble_eq_true hlt
 obtain rfl : kd = .u8 := kindB_eq.1 hk
 have e : (n.toNat.toUInt8).toNat = n.toNat := by simp [Nat.toUInt8]; omega
 rw [<- e] at hx
 have := idxK_inv s 0 hx
 refine ⟨_, H, idx_does hf s n H.abs, Nat.le_refl _, ?_⟩
 have hge := Go.Lib.indexByte_ge s n.toNat.toUInt8
 split at this
 · rename_i e; rw [e]; exact this
 · simpa using this
theorem closed_yesG {P : Program} {G : Nat -> Option AV} {ov : Ov} {f : FuncId} {fuel n : Nat} (he : Enters P f) (hm : P.follows .mixedOrders = true) (hp : plainFn P = true) (hov : zau P G ov) (h : fcall ov P G fuel n f [] FH.empty yesK = true) (w : World)
  (hG : GRel (Env.start w) G) : Calls P f #[] w fun e w' => e = .returned (.bool true) /\ Olds w w' := by
 obtain ⟨v, H', hd, _, hk⟩ := fcall_sound hm hp hov n f [] FH.empty yesK h
 rw [FH.abs_empty] at hd
 have hv : v = .bool true := by
  rcases AV.onBool_inv (show v.onBool false (fun b => b) = true from hk) with ⟨b, hb, h⟩ | ⟨h, _⟩
  · rw [hb, h]
  · simp at h
 exact hd.yes he (fun r H h => by rw [h.1, hv]) w hG .nil
end Go.Abs
namespace Go.Lex
abbrev Bs := List UInt8
def zah (b : UInt8) : Bool := b == 32 || b == 9 || b == 10 || b == 13
def isLetter (b : UInt8) : Bool := decide (97 <= b.toNat) && decide (b.toNat <= 122)
def zaf (b : UInt8) : Bool := decide (48 <= b.toNat) && decide (b.toNat <= 57)
def za6 (b : UInt8) : Bool := isLetter b || zaf b || b == 95
theorem zaF {α : Type} (p : α -> Bool) : ∀ l : List α, (l.dropWhile p).length <= l.length
 | [] => Nat.le_refl _
 | a :: l => by
   rw [List.dropWhile_cons]
   split
   · exact Nat.le_succ_of_le (zaF p l)
   · exact Nat.le_refl _
def betw (s : Bs) : Bs :=
 match h : s.dropWhile zah with
 | 45 :: 45 :: q => betw (q.dropWhile fun b => b != 10)
 | r => r
termination_by s.length
decreasing_by
 have h1 := zaF zah s
 rw [h] at h1
 have h2 := zaF (fun b : UInt8 => b != 10) q
 simp only [List.length_cons] at h1
 omega
def keptWords : List Bs := [[110,111,100,101],[114,101,116,117,114,110,115],[118,97,114],[108,101,116],[116,101,108],[98,111,111,108],[105,110,116],[116,114,117,101],[102,97,108,115,101],[110,111,116],[97,110,100],[111,114],[120,111,114],[109,111,100],[105,102],[116,104,101,110],[101,108,115,101],[112,114,101],[102,98,121],[119,104,101,110],[109,101,114,103,101]]
def kept (s : Bs) : Bool := keptWords.contains s
def signs : List Bs := [[60,61],[62,61],[60,62],[45,62],[40],[41],[58],[59],[44],[61],[43],[45],[42],[47],[60],[62]]
def signOf (s : Bs) : Option Bs := signs.find? fun x => x.isPrefixOf s
def zak (s : Bs) : Nat := s.foldl (fun n b => 10 * n + (b.toNat - 48)) 0
structure Wd where
 kind : Nat
 text : Bs
 n : Nat
 deriving DecidableEq
def wordS (s : Bs) : Option Wd := match s with
 | [] => none
 | b :: _ =>
   if isLetter b then
    (if kept (s.takeWhile za6) then some ⟨2, s.takeWhile za6, 0⟩ else if (s.takeWhile za6).length <= 24 then some ⟨1, s.takeWhile za6, 0⟩ else none)
   else if zaf b then
    (if zak (s.takeWhile zaf) < 9223372036854775808 /\ ((s.takeWhile zaf).length = 1 \/ b ≠ 48) then some ⟨3, s.takeWhile zaf, zak (s.takeWhile zaf)⟩ else none)
   else match signOf s with
    | some t => some ⟨4, t, 0⟩
    | none => none
def cutS (n : Nat) (s : Bs) : Except Nat (List (Nat × Wd)) :=
 match h : betw s with
 | [] => .ok []
 | b :: r => match wordS (b :: r) with
   | none => .error (n - (r.length + 1))
   | some w => match cutS n (r.drop (w.text.length - 1)) with
     | .ok l => .ok ((n - (r.length + 1), w) :: l)
     | .error e => .error e
termination_by s.length
decreasing_by
 have hb : ∀ s : Bs, (betw s).length <= s.length := by
  intro s
  induction s using betw.induct with
  | case1 s q h ih =>
    rw [betw]
    split
    · rename_i q' h'
      rw [h] at h'
      simp only [List.cons.injEq, true_and] at h'
      subst h'
      have h1 := zaF zah s
      rw [h] at h1
      have h2 := zaF (fun b : UInt8 => b != 10) q
      simp only [List.length_cons] at h1
      omega
    · rename_i h'
      exact absurd h (h' q)
  | case2 s h =>
    rw [betw]
    split
    · rename_i q h'
      exact absurd h' (h q)
    · exact zaF zah s
 have h1 := hb s
 rw [h] at h1
 simp only [List.length_cons, List.length_drop] at h1 ⊢
 omega
end Go.Lex
namespace Go.Abs
open Go Go.RowKit
theorem Rel.below {E : Env} {H : AHeap} {w w' : World} (h : Rel E H w) (b : Below w.heap.size w w') : Rel E H w' := by
 have hb : ∀ (B : Nat) (o : Obj), w.heap[B]? = some o -> w'.heap[B]? = some o := fun B o ho => by
  rw [b.block B (Array.getElem?_eq_some_iff.1 ho).1]; exact ho
 exact ⟨b.os.trans h.os, b.output.trans h.out, fun B o hB => hb _ _ (h.K B o hB), fun B o hB => hb _ _ (h.F B o hB), h.KF, h.dom, fun i x hi => by
  obtain ⟨p, ob, g1, g2, g3, g4, g5⟩ := h.live i x hi
  exact ⟨p, ob, g1, g2, g3, hb _ _ g4, g5⟩, h.inj⟩
structure IsCopy (P : Program) (f : FuncId) : Prop where
 enters : Enters P f
 runs : ∀ (s : ByteArray) (w : World), s.size <= 281474976710656 -> Calls P f #[.string s] w fun e w' => e = .returned (.string s) /\ Below w.heap.size w w'
theorem copy_does {P : Program} {G : Nat -> Option AV} {f : FuncId} (hf : IsCopy P f) (s : List UInt8) (hs : s.length <= 281474976710656) (H : AHeap) : Does P G f [.str s] H fun r h => r = .str s /\ h = H := by
 refine ⟨fun E w vs hR hG hv => ?_⟩
 cases hv with | cons ha hv =>
 cases hv
 cases ha
 refine .inl ⟨hf.enters _ _, (hf.runs ⟨s.toArray⟩ w (by simpa [ByteArray.size] using hs)).mono fun e w' ⟨h1, h2⟩ => ⟨_, h1, .str s, H, E, ⟨rfl, rfl⟩, Ext.refl E, .str s, hR.below h2⟩⟩
noncomputable def copyOv (args : List AV) (H : FH) (k : AV -> FH -> Bool) : Bool :=
 nthK args 0 (fun a => ifK (Nat.beq (lenN args) 1) (a.onStr false fun s => ifK (Nat.ble (lenN s) 281474976710656) (k (.str s) H) false) false) false
theorem copyOv_good {P : Program} {G : Nat -> Option AV} {f : FuncId} (hf : IsCopy P f) (args : List AV) (H : FH) (k : AV -> FH -> Bool) (h : copyOv args H k = true) :
  ∃ v H', Does P G f args H.abs (fun r h => r = v /\ h = FH.abs H') /\ H.next <= H'.next /\ k v H' = true := by
 obtain ⟨a, ha, h⟩ := nthK_inv h
 obtain ⟨hl, h⟩ := zaa h
 have hl := Nat.eq_of_beq_eq_true hl
 rw [zap] at hl
 obtain rfl : args = [a] := by
  match args, hl with
  | [x], _ => simp at ha; subst ha; rfl
 rcases AV.onStr_inv h with ⟨s, rfl, h⟩ | ⟨h, _⟩
 case inr => simp at h
 have h : ifK (Nat.ble (lenN s) 281474976710656) (k (.str s) H) false = true := h
 obtain ⟨h1, h2⟩ := zaa h
 have h1 : lenN s <= 281474976710656 := Nat.le_of_ble_eq_true h1
 rw [zap] at h1
 exact ⟨_, H, copy_does hf s h1 H.abs, Nat.le_refl _, h2⟩
noncomputable def ovAdd (a : FuncId) (g : List AV -> FH -> (AV -> FH -> Bool) -> Bool) (o : Ov) : Ov := fun f => ifK (Nat.beq f a) (some g) (o f)
theorem zaq {P : Program} {G : Nat -> Option AV} {a : FuncId} {g : List AV -> FH -> (AV -> FH -> Bool) -> Bool} {o : Ov}
  (hg : ∀ args H k, g args H k = true -> ∃ v H', Does P G a args H.abs (fun r h => r = v /\ h = FH.abs H') /\ H.next <= H'.next /\ k v H' = true) (ho : zau P G o) : zau P G (ovAdd a g o) := by
 intro f g' h args H k hk
 unfold ovAdd at h
 cases e : Nat.beq f a with
 | true =>
   obtain rfl := Nat.eq_of_beq_eq_true e
   rw [e, zaK] at h
   simp only [Option.some.injEq] at h; subst h
   exact hg args H k hk
 | false => rw [e, zax] at h; exact ho f g' h args H k hk
end Go.Abs
namespace Go.Abs
open Go
section
variable {P : Program} {E : Env} {w : World} {t u e ty : TypeId} {info : TypeInfo} {s : List UInt8} {us ux : Value}
end
section
variable {P : Program} (w : World)
end
end Go.Abs
namespace Go.Abs
open Go Go.RowKit
structure IsCheck (P : Program) (f : FuncId) (T u : TypeId) : Prop where
 enters : Enters P f
 lies : liesAt P P.depth T 1 0 u 1 = true
 cells : P.cellsOf T = 2
 fresh : ∀ (b n : Nat) (w : World), w.cell? ⟨b, 0, none⟩ = some (.pointer none) -> w.shape? b = some (T, n) -> 0 < n -> liesAt P P.depth T (n / P.cellsOf T) 0 u 1 = true -> w.frozen? ⟨b, 0, none⟩ = false ->
  Calls P f #[.pointer (some ⟨b, 0, none⟩)] w fun e w' => e = .returned (.tuple #[]) /\ w' = w.setCell ⟨b, 0, none⟩ (.pointer (some ⟨b, 0, none⟩))
 used : ∀ (b : Nat) (w : World), w.cell? ⟨b, 0, none⟩ = some (.pointer (some ⟨b, 0, none⟩)) -> Calls P f #[.pointer (some ⟨b, 0, none⟩)] w fun e w' => e = .returned (.tuple #[]) /\ w' = w
structure IsWrite (P : Program) (f ck : FuncId) (T e t u : TypeId) : Prop where
 enters : Enters P f
 slice : P.underlying t = some (.slice e)
 string : P.underlying u = some .string
 info : ∃ info z, P.info? e = some info /\ azero P e = some z /\ z.cells.length = 1 /\ info.size = 1 /\ info.bytes = 1
 runs : ∀ (b : Nat) (s : ByteArray) (x x' y : Value) (w w1 w2 : World), (Calls P ck #[.pointer (some ⟨b, 0, none⟩)] w fun e w' => e = .returned (.tuple #[]) /\ w' = w1) ->
  w1.cell? ⟨b, 1, none⟩ = some x -> (Builtin.append_ #[t, u] t #[x, .string s]).run P w1 = .ok x' w2 -> ∀ (ao : Option Addr) (n c : Nat), x' = .slice ao n c -> w2.cell? ⟨b, 1, none⟩ = some y -> w2.frozen? ⟨b, 1, none⟩ = false ->
  Calls P f #[.pointer (some ⟨b, 0, none⟩), .string s] w fun e w' => e = .returned (.tuple #[.int .i64 s.size, .nilIface]) /\ w' = w2.setCell ⟨b, 1, none⟩ x'
structure IsString (P : Program) (f : FuncId) (e : TypeId) : Prop where
 enters : Enters P f
 empty : ∀ (b : Nat) (w : World), w.cell? ⟨b, 1, none⟩ = some (.slice none 0 0) -> Calls P f #[.pointer (some ⟨b, 0, none⟩)] w fun e w' => e = .returned (.string ⟨#[]⟩) /\ Below w.heap.size w w'
 full : ∀ (b g cap : Nat) (l : List UInt8) (c : Array Value) (fz : Nat × Nat) (w : World), w.cell? ⟨b, 1, none⟩ = some (.slice (some ⟨g, 0, none⟩) l.length cap) -> w.heap[g]? = some (.cells c e fz) -> (∀ (j : Nat) (x : UInt8), l[j]? = some x -> w.cell? ⟨g, j, none⟩ = some (.int .u8 x.toNat)) ->
  l ≠ [] -> l.length <= cap -> cap <= c.size -> l.length <= 140737488355328 -> Calls P f #[.pointer (some ⟨b, 0, none⟩)] w fun e w' => e = .returned (.string ⟨l.toArray⟩) /\ (∀ C, C ≠ g -> w'.heap[C]? = w.heap[C]?) /\ w'.os = w.os /\ w'.output = w.output
structure IsGrow (P : Program) (f ck : FuncId) (e : TypeId) : Prop where
 enters : Enters P f
 runs : ∀ (b n : Nat) (w w1 : World), (Calls P ck #[.pointer (some ⟨b, 0, none⟩)] w fun e w' => e = .returned (.tuple #[]) /\ w' = w1) ->
  w1.cell? ⟨b, 1, none⟩ = some (.slice none 0 0) -> w1.frozen? ⟨b, 1, none⟩ = false -> b < w1.heap.size -> 0 < n -> n <= 140737488355328 ->
  Calls P f #[.pointer (some ⟨b, 0, none⟩), .int .i64 n] w fun x w' => x = .returned (.tuple #[]) /\ ∃ c : Array Value, w'.heap = ((w1.alloc (.cells c e)).setCell ⟨b, 1, none⟩ (.slice (some ⟨w1.heap.size, 0, none⟩) 0 c.size)).heap /\ w'.os = w1.os /\ w'.output = w1.output
 runs0 : ∀ (b : Nat) (w w1 : World), (Calls P ck #[.pointer (some ⟨b, 0, none⟩)] w fun e w' => e = .returned (.tuple #[]) /\ w' = w1) ->
  w1.cell? ⟨b, 1, none⟩ = some (.slice none 0 0) -> Calls P f #[.pointer (some ⟨b, 0, none⟩), .int .i64 0] w fun x w' => x = .returned (.tuple #[]) /\ w'.heap = w1.heap /\ w'.os = w1.os /\ w'.output = w1.output
section
variable {R : Type}
end
noncomputable def nilB {α : Type} (l : List α) : Bool := List.rec (motive := fun _ => Bool) true (fun _ _ _ => false) l
theorem nilB_eq {α : Type} (l : List α) : nilB l = true ↔ l = [] := by cases l <;> simp [nilB]
noncomputable def oneKK {R : Type} (cs : List AV) (f : AV -> R) (z : R) : R := List.rec (motive := fun _ => R) z (fun a r _ => List.rec (motive := fun _ => R) (f a) (fun _ _ _ => z) r) cs
theorem oneKK_inv {cs : List AV} {f : AV -> Bool} (h : oneKK cs f false = true) : ∃ a, cs = [a] /\ f a = true := by
 match cs, h with
 | [a], h => exact ⟨a, rfl, h⟩
 | [], h => simp [oneKK] at h
 | _ :: _ :: _, h => simp [oneKK] at h
end Go.Abs
namespace Go.Proofs.YtjfgldopgijonaaGreatDoor
open Go Go.Abs Go.RowKit
/- internal/stringslite.Clone: the same bytes; of what was there nothing has turned. -/
theorem clone_runs (s : ByteArray) (w : World) (hlim : s.size <= 281474976710656) : Calls Tryz.prog 443 #[.string s] w fun e w' => e = .returned (.string s) /\ Below w.heap.size w w' := by
 by_cases h0 : s.size = 0
 · obtain rfl : s = ⟨#[]⟩ := ByteArray.ext (Array.eq_empty_of_size_eq_zero h0)
   go_enter Tryz.func443, Tryz.ntmps443
   go_wp2
   go_ret
   exact ⟨rfl, Below.refl _ _⟩
 · have hi : Tryz.prog.info? 5 = some Tryz.t5 := by kernel_rfl
   have hz0 : Tryz.t5.zero = some (.int .u8 0) := by kernel_rfl
   have hz1 : Tryz.t5.size = 1 := by kernel_rfl
   have hz2 : Tryz.t5.bytes = 1 := by kernel_rfl
   have hinfo : (Tryz.prog.info? 5).map (·.size) = some 1 := by kernel_rfl
   have hco : Tryz.prog.cellsOf 5 = 1 := by kernel_rfl
   have u29 : Tryz.prog.underlying 101 = some (.slice 5) := Tryz.underlying101
   have u94 : Tryz.prog.underlying 574 = some (.pointer 5) := Tryz.underlying574
   have z5 : ∀ w, (Go.sizeOf 5).run Tryz.prog w = .ok 1 w := fun w => by kernel_rfl
   obtain ⟨M, hM⟩ : ∃ M, M = madeCells (Value.int .u8 0).cells (((s.size : Nat) : Int).toNat * Tryz.t5.size) := ⟨_, rfl⟩
   have hMs : M.size = s.size := by rw [hM, size_madeCells, hz1]; simp
   have hmk : ∀ W : World, (Instr.makeSlice 101 (.int .i64 (s.size : Int)) (.int .i64 (s.size : Int))).run Tryz.prog W = .ok (.slice (some ⟨W.heap.size, 0, none⟩) s.size s.size) (W.alloc (.cells M 5)) := fun W => by
    have h := run_make (P := Tryz.prog) W 101 5 Tryz.t5 (.int .u8 0) u29 hi hz0 .i64 .i64 (s.size : Int) (s.size : Int) (by omega) (by omega) (by rw [hz2]; omega) (by omega)
    rw [<- hM] at h
    simpa using h
   clear hM
   have hcp := Lib.run_copy_row_string (P := Tryz.prog) (w.alloc (.cells M 5)) 101 9 3 5 w.heap.size 0 s.size s.size s M 5 u29 hinfo (heap_alloc_new w _) (Nat.le_refl _) (by omega)
   obtain ⟨Y, hY⟩ : ∃ Y, Y = (M.toList.take 0 ++ Lib.byteCells s.data.toList ++ M.toList.drop (0 + s.size)).toArray := ⟨_, rfl⟩
   rw [<- hY] at hcp
   have hYl : Y.toList = Lib.byteCells s.data.toList := by
    rw [hY, List.toList_toArray, List.take_zero, List.nil_append, List.drop_of_length_le (by rw [Array.length_toList]; omega), List.append_nil]
   have hYs : Y.size = s.size := by rw [<- Array.length_toList, hYl, Lib.byteCells_length, <- Lib.size_eq]
   have hgY : ((w.alloc (.cells M 5)).setRow w.heap.size Y).heap[w.heap.size]? = some (.cells Y 5 (0, 0)) := setRow_heap _ _ M _ 5 (0, 0) (heap_alloc_new w _)
   have hne : s.data.toList ≠ [] := fun e => h0 (by rw [Lib.size_eq, e]; rfl)
   have hUS := Lib.run_unsafeString_row (P := Tryz.prog) ((w.alloc (.cells M 5)).setRow w.heap.size Y) 574 3 9 5 u94 hco w.heap.size Y.size (by unfold World.shape?; rw [hgY]) s.data.toList hne (by rw [<- Lib.size_eq]; omega) (by rw [<- Lib.size_eq]; omega)
    (fun j x hx => Lib.cells_of_row hgY Y.size j _ (by rw [List.take_of_length_le (by rw [Array.length_toList]; exact Nat.le_refl _), hYl]; simp [Lib.byteCells, hx]))
   rw [<- Lib.size_eq] at hUS
   clear hY
   go_enter Tryz.func443, Tryz.ntmps443
   go_wp2
   go_ret
   have hb1 : Below w.heap.size w (w.alloc (.cells M 5)) := (Below.refl _ w).alloc (Nat.le_refl _) _
   have hb2 : Below w.heap.size (w.alloc (.cells M 5)) ((w.alloc (.cells M 5)).setRow w.heap.size Y) := ⟨rfl, rfl, rfl, by simp, fun k hk => setRow_other _ _ _ _ (by omega)⟩
   exact ⟨rfl, Lib.below_freeze (hb1.trans hb2) (p := ⟨w.heap.size, 0, none⟩) (Nat.le_refl _) _⟩
theorem isCopy : IsCopy Tryz.prog 443 := ⟨Tryz.call443, clone_runs⟩
end Go.Proofs.YtjfgldopgijonaaGreatDoor
namespace Go.Lex
theorem betw_line' (s q : Bs) (h : s.dropWhile zah = 45 :: 45 :: q) : betw s = betw (q.dropWhile fun b => b != 10) := by
 rw [betw]
 split
 · rename_i q' h'
   rw [h] at h'
   simp only [List.cons.injEq, true_and] at h'
   rw [h']
 · rename_i h'
   exact absurd h (h' q)
theorem betw_word' (s : Bs) (h : ∀ q, s.dropWhile zah ≠ 45 :: 45 :: q) : betw s = s.dropWhile zah := by
 rw [betw]
 split
 · rename_i q hq
   exact absurd hq (h q)
 · rfl
theorem betw_blank {b : UInt8} {s : Bs} (h : zah b = true) : betw (b :: s) = betw s := by
 have e : (b :: s).dropWhile zah = s.dropWhile zah := by rw [List.dropWhile_cons, if_pos h]
 by_cases hq : ∃ q, s.dropWhile zah = 45 :: 45 :: q
 · obtain ⟨q, hq⟩ := hq
   rw [betw_line' _ q (e.trans hq), betw_line' _ q hq]
 · have hn : ∀ q, s.dropWhile zah ≠ 45 :: 45 :: q := fun q h => hq ⟨q, h⟩
   rw [betw_word' s hn, betw_word' _ (by rw [e]; exact hn), e]
theorem betw_rem (q : Bs) : betw (45 :: 45 :: q) = betw (q.dropWhile fun b => b != 10) := betw_line' _ q rfl
theorem betw_here {b : UInt8} {s : Bs} (h : zah b = false) (h2 : ∀ q, b :: s ≠ 45 :: 45 :: q) : betw (b :: s) = b :: s := by
 have e : (b :: s).dropWhile zah = b :: s := by rw [List.dropWhile_cons, h]; rfl
 rw [betw_word' _ (by rw [e]; exact h2), e]
theorem betw_nil' : betw [] = [] := betw_word' [] (fun q h => by simp at h)
theorem wordS_text {s : Bs} {w : Wd} (h : wordS s = some w) : w.text <+: s /\ w.text ≠ [] := by
 cases s with
 | nil => simp [wordS] at h
 | cons c q =>
   simp only [wordS] at h
   split at h
   · rename_i hL
     have hne : (c :: q).takeWhile za6 ≠ [] := by
      rw [List.takeWhile_cons, if_pos (by simp [za6, hL])]; simp
     split at h
     · simp only [Option.some.injEq] at h; subst h; exact ⟨List.takeWhile_prefix _, hne⟩
     · split at h
       · simp only [Option.some.injEq] at h; subst h; exact ⟨List.takeWhile_prefix _, hne⟩
       · simp at h
   · split at h
     · rename_i hD
       have hne : (c :: q).takeWhile zaf ≠ [] := by
        rw [List.takeWhile_cons, if_pos hD]; simp
       split at h
       · simp only [Option.some.injEq] at h; subst h; exact ⟨List.takeWhile_prefix _, hne⟩
       · simp at h
     · split at h
       · rename_i t ht
         simp only [Option.some.injEq] at h; subst h
         have h1 := List.find?_some ht
         have h2 := List.mem_of_find?_eq_some ht
         refine ⟨List.isPrefixOf_iff_prefix.1 h1, ?_⟩
         rintro rfl
         exact absurd h2 (by decide)
       · simp at h
theorem cutS_end {n : Nat} {s : Bs} (h : betw s = []) : cutS n s = .ok [] := by
 rw [cutS]; split
 · rfl
 · rename_i h'; rw [h] at h'; simp at h'
theorem cutS_bad {n : Nat} {s q : Bs} {c : UInt8} (h : betw s = c :: q) (hw : wordS (c :: q) = none) : cutS n s = .error (n - (c :: q).length) := by
 rw [cutS]; split
 · rename_i h'; rw [h] at h'; simp at h'
 · rename_i b r h'
   rw [h] at h'
   simp only [List.cons.injEq] at h'
   obtain ⟨rfl, rfl⟩ := h'
   rw [hw]; rfl
theorem cutS_word {n : Nat} {s q : Bs} {c : UInt8} {w : Wd} (h : betw s = c :: q) (hw : wordS (c :: q) = some w) :
  cutS n s = match cutS n ((c :: q).drop w.text.length) with
   | .ok l => .ok ((n - (c :: q).length, w) :: l)
   | .error e => .error e := by
 rw [cutS]; split
 · rename_i h'; rw [h] at h'; simp at h'
 · rename_i b r h'
   rw [h] at h'
   simp only [List.cons.injEq] at h'
   obtain ⟨rfl, rfl⟩ := h'
   rw [hw]
   obtain ⟨_, hne⟩ := wordS_text hw
   have h1 : (c :: q).drop w.text.length = q.drop (w.text.length - 1) := by
    have h0 : w.text.length ≠ 0 := by simpa using hne
    obtain ⟨k, hk⟩ : ∃ k, w.text.length = k + 1 := ⟨w.text.length - 1, by omega⟩
    rw [hk]; rfl
   rw [h1]; rfl
def aheadW (ws : List (Nat × Wd)) : Except Nat (List (Nat × Wd)) -> Except Nat (List (Nat × Wd))
 | .ok l => .ok (ws ++ l)
 | .error e => .error e
end Go.Lex
namespace Go.Abs
open Go Go.ChangeShapes
def consec (P : Program) : List Field -> Nat -> Option Nat
 | [], o => some o
 | f :: r, o => if f.offset = o then consec P r (o + P.cellsOf f.type) else none
theorem VRels.blocks {E : Env} {z : Nat} : ∀ (es : List (List AV)) (L : List Value), (∀ (i : Nat) (x : List AV), es[i]? = some x -> VRels E x ((L.drop (i * z)).take z)) -> VRels E es.flatten (L.take (es.length * z))
 | [], L, _ => by simpa using VRels.nil
 | x :: es, L, h => by
   have h0 := h 0 x rfl
   simp only [Nat.zero_mul, List.drop_zero] at h0
   have ih := VRels.blocks (z := z) es (L.drop z) fun i y hy => by
    have := h (i + 1) y (by simpa using hy)
    rw [List.drop_drop]
    have e : z + i * z = (i + 1) * z := by rw [Nat.add_mul]; omega
    rw [e]; exact this
   have e : L.take ((x :: es).length * z) = L.take z ++ (L.drop z).take (es.length * z) := by
    rw [<- List.take_add]
    congr 1
    simp only [List.length_cons, Nat.add_mul]; omega
   rw [e, List.flatten_cons]
   exact h0.append ih
theorem consec_le {P : Program} : ∀ {l : List Field} {o e : Nat}, consec P l o = some e -> o <= e
 | [], o, e, h => by simp [consec] at h; omega
 | f :: l, o, e, h => by
   simp only [consec] at h
   split at h <;> try (simp at h; done)
   have := consec_le h
   omega
theorem VRels.fields {P : Program} {E : Env} {cs : List Value} : ∀ (l : List Field) (xs : List (List AV)) (o e : Nat), consec P l o = some e -> xs.length = l.length -> (∀ (i : Nat) (f : Field) (x : List AV), l[i]? = some f -> xs[i]? = some x -> VRels E x ((cs.drop f.offset).take (P.cellsOf f.type))) -> VRels E xs.flatten ((cs.drop o).take (e - o))
 | [], xs, o, e, hc, hl, _ => by
   simp at hl; subst hl
   simp [consec] at hc; subst hc
   simpa using VRels.nil
 | f :: l, [], o, e, _, hl, _ => by simp at hl
 | f :: l, x :: xs, o, e, hc, hl, h => by
   simp only [consec] at hc
   split at hc <;> try (simp at hc; done)
   rename_i ho
   have hle := consec_le hc
   have h0 := h 0 f x rfl rfl
   rw [ho] at h0
   have ih := VRels.fields l xs _ e hc (by simpa using hl) fun i f x hf hx => h (i + 1) f x (by simpa using hf) (by simpa using hx)
   have e1 : (cs.drop o).take (e - o) = (cs.drop o).take (P.cellsOf f.type) ++ (cs.drop (o + P.cellsOf f.type)).take (e - (o + P.cellsOf f.type)) := by
    rw [<- List.drop_drop, <- List.take_add]
    congr 1; omega
   rw [e1, List.flatten_cons]
   exact h0.append ih
section
variable {H : Type} {enc : TypeId × Value -> H} {P : Program} {w : World} {base : Nat} {held : Bool}
end
def dataAll (f : DataW Unit -> Option (List AV)) : List (DataW Unit) -> Option (List (List AV))
 | [] => some []
 | d :: r => match f d, dataAll f r with
   | some x, some xs => some (x :: xs)
   | _, _ => none
def zaR (f : TypeId -> DataW Unit -> Option (List AV)) : List Field -> List (DataW Unit) -> Option (List (List AV))
 | [], [] => some []
 | fd :: fs, d :: r => match f fd.type d, zaR f fs r with
   | some x, some xs => some (x :: xs)
   | _, _ => none
 | _, _ => none
def dataAV (P : Program) (N : String -> Option TypeId) : Nat -> Bool -> TypeId -> DataW Unit -> Option (List AV)
 | 0, _, _, _ => none
 | n + 1, top, t, d => match P.underlying t, d with
   | some .bool, .lit (.bool b) => some [.bool b]
   | some (.int k), .lit (.int k' m) => if k' = k then some [.int k m] else none
   | some .string, .lit (.string l) => some [.str l]
   | some (.pointer _), .nil => some [.nilptr]
   | some (.pointer e), .ptr d => if 0 < P.cellsOf e then (dataAV P N n false e d).map fun as_ => [.vptr as_] else none
   | some (.array len e), .agg ds => if ds.length = len /\ P.cellsOf t = len * P.cellsOf e then (dataAll (dataAV P N n top e) ds).map List.flatten else none
   | some (.struct fs), .agg ds => if consec P fs.toList 0 = some (P.cellsOf t) then (zaR (dataAV P N n top) fs.toList ds).map List.flatten else none
   | some (.interface _), .nil => some [.niliface]
   | some (.interface _), .iface name d => if top = true then match N name with
     | some u => match P.underlying u with
       | some (.pointer _) => match dataAV P N n false u d with
         | some [a] => some [.iface u a]
         | _ => none
       | _ => none
     | none => none
    else none
   | _, _ => none
theorem dataAll_spec {f : DataW Unit -> Option (List AV)} : ∀ {ds : List (DataW Unit)} {xs : List (List AV)}, dataAll f ds = some xs -> xs.length = ds.length /\ ∀ (i : Nat) (x : List AV), xs[i]? = some x -> ∃ d, ds[i]? = some d /\ f d = some x
 | [], xs, h => by simp [dataAll] at h; subst h; simp
 | d :: r, xs, h => by
   simp only [dataAll] at h
   split at h <;> try (simp at h; done)
   rename_i x ys h1 h2
   simp only [Option.some.injEq] at h; subst h
   obtain ⟨hl, hx⟩ := dataAll_spec h2
   refine ⟨by simp [hl], fun i y hy => ?_⟩
   cases i with
   | zero => simp at hy; subst hy; exact ⟨d, rfl, h1⟩
   | succ i => simpa using hx i y (by simpa using hy)
theorem dataFields_spec {f : TypeId -> DataW Unit -> Option (List AV)} : ∀ {fs : List Field} {ds : List (DataW Unit)} {xs : List (List AV)}, zaR f fs ds = some xs -> xs.length = fs.length /\ ds.length = fs.length /\ ∀ (i : Nat) (fd : Field) (x : List AV), fs[i]? = some fd -> xs[i]? = some x -> ∃ d, ds[i]? = some d /\ f fd.type d = some x
 | [], [], xs, h => by simp [zaR] at h; subst h; simp
 | [], _ :: _, _, h => by simp [zaR] at h
 | _ :: _, [], _, h => by simp [zaR] at h
 | fd :: fs, d :: r, xs, h => by
   simp only [zaR] at h
   split at h <;> try (simp at h; done)
   rename_i x ys h1 h2
   simp only [Option.some.injEq] at h; subst h
   obtain ⟨hl, hd, hx⟩ := dataFields_spec h2
   refine ⟨by simp [hl], by simp [hd], fun i fd' y hf hy => ?_⟩
   cases i with
   | zero => simp at hf hy; subst hf; subst hy; exact ⟨d, rfl, h1⟩
   | succ i => simpa using hx i fd' y (by simpa using hf) (by simpa using hy)
section
variable {P : Program} {w : World} {N : String -> Option TypeId} {sp : Nat -> Bool}
theorem add_none (B o k : Nat) : (Addr.mk B o none).add k = ⟨B, o + k, none⟩ := by
 unfold Addr.add
 split
 · rename_i h; subst h; rfl
 · rfl
theorem data_open (hN : ∀ name u u', N name = some u -> P.typeName? 3 u' = some name -> u' = u) : ∀ {n : Nat} {top : Bool} {t : TypeId} {d : DataW Unit} {as_ : List AV} {fuel : Nat} {cs : List Value} {p : List MemPlace},
  dataAV P N n top t d = some as_ -> DataW.trod (fun _ => ()) P w 0 sp false fuel t cs = some (d, p) ->
  (top = true -> ∀ u v, Value.iface u v ∈ cs -> Value.okWide P w .any 0 u v) -> VRels (Env.start w) as_ cs
 | 0, _, _, _, _, _, _, _, h, _, _ => by simp [dataAV] at h
 | n + 1, top, t, d, as_, fuel, cs, p, h, hx, ok => by
   unfold dataAV at h
   split at h <;> rename_i hu
   · simp only [Option.some.injEq] at h; subst h
     obtain ⟨b, rfl, he⟩ := DataW.trod_bool hu hx
     simp at he; obtain ⟨rfl, rfl⟩ := he
     exact .cons (.bool _) .nil
   · obtain ⟨m, rfl, he, _⟩ := DataW.trod_int hu hx
     simp at he; obtain ⟨⟨rfl, rfl⟩, rfl⟩ := he
     simp at h; subst h
     exact .cons (.int _ _) .nil
   · simp only [Option.some.injEq] at h; subst h
     obtain ⟨s, rfl, he, _⟩ := DataW.trod_string hu hx
     simp at he; obtain ⟨rfl, rfl⟩ := he
     have := VRel.str (E := Env.start w) s.data.toList
     exact .cons (by simpa using this) .nil
   · simp only [Option.some.injEq] at h; subst h
     cases fuel with
     | zero => simp [DataW.trod] at hx
     | succ m =>
       match cs with
       | [] => simp [DataW.trod, hu] at hx
       | _ :: _ :: _ => simp [DataW.trod, hu] at hx
       | [c] =>
         cases c <;> simp [DataW.trod, hu] at hx
         rename_i o
         cases o with
         | none => exact .cons .nilptr .nil
         | some a =>
           simp only [Option.bind_eq_some_iff, Function.comp, Option.map_eq_some_iff] at hx
           obtain ⟨_, _, _, _, hx⟩ := hx
           simp at hx
   · rename_i e d'
     split at h <;> try (simp at h; done)
     rename_i hz
     simp only [Option.map_eq_some_iff] at h
     obtain ⟨xs, h, rfl⟩ := h
     obtain ⟨m, a, cs', q, rfl, hc, h2, rfl⟩ := ptr_of_trod hu hx
     have hv := data_open hN h h2 (by simp)
     obtain ⟨_, hcl, hce⟩ := World.cells?_some hc
     have h0 := hce 0 hz
     rw [List.getElem?_eq_getElem (by omega)] at h0
     have hspot : a.spot = none := by
      unfold World.cell? at h0
      split at h0
      · split at h0
        · simp at h0
        · rename_i hsn
          have : (a.add 0).spot = a.spot := rfl
          rw [this] at hsn
          simpa using hsn
      · simp at h0
     obtain ⟨B, o, s⟩ := a
     simp only at hspot; subst hspot
     have hblk : ∃ c e f, w.heap[B]? = some (.cells c e f) := by
      rw [add_none] at h0
      unfold World.cell? at h0
      simp only at h0
      split at h0
      · rename_i c e f hh; exact ⟨c, e, f, hh⟩
      · simp at h0
     obtain ⟨c, ce, cf, hh⟩ := hblk
     have hcell : ∀ k, w.cell? ⟨B, o + k, none⟩ = c[o + k]? := fun k => by
      unfold World.cell?; simp [hh]
     have he : cs' = (c.toList.drop o).take (P.cellsOf e) := by
      apply List.ext_getElem?
      intro j
      by_cases hj : j < P.cellsOf e
      · rw [<- hce j hj, add_none, hcell]
        simp only [List.getElem?_take, if_pos hj, List.getElem?_drop, Array.getElem?_toList]
      · rw [List.getElem?_eq_none (by omega), List.getElem?_take, if_neg hj]
     refine .cons (.vptr (.inr ⟨c, ce, cf, hh, ?_⟩) hv) .nil
     rw [he]
     exact List.take_prefix _ _
   · rename_i len e ds
     split at h <;> try (simp at h; done)
     rename_i hz
     simp only [Option.map_eq_some_iff] at h
     obtain ⟨xs, h, rfl⟩ := h
     obtain ⟨ys, m, _, hd, hcl, hyl, hy⟩ := DataW.trod_array hu hx
     simp only [Prod.mk.injEq, DataW.agg.injEq] at hd
     obtain ⟨rfl, rfl⟩ := hd
     obtain ⟨hxl, hxs⟩ := dataAll_spec h
     have hxl' : xs.length = len := by simpa [hyl] using hxl
     have := VRels.blocks (E := Env.start w) (z := P.cellsOf e) xs cs fun i x hi => by
      obtain ⟨d, hd, hf⟩ := hxs i x hi
      have hlt : i < len := by rw [<- hxl']; exact (List.getElem?_eq_some_iff.1 hi).1
      have h3 := hy i hlt
      rw [List.getElem?_eq_getElem (by omega)] at h3
      have hd' : (ys[i]'(by omega)).1 = d := by simpa [List.getElem?_eq_getElem (show i < ys.length by omega)] using hd
      rw [<- hd'] at hf
      exact data_open hN hf h3 fun ht u v hm => ok ht u v (List.mem_of_mem_drop (List.mem_of_mem_take hm))
     rw [hxl', List.take_of_length_le (by omega)] at this
     exact this
   · rename_i fs ds
     split at h <;> try (simp at h; done)
     rename_i hz
     simp only [Option.map_eq_some_iff] at h
     obtain ⟨xs, h, rfl⟩ := h
     obtain ⟨ys, m, _, hd, hcl, hyl, hy⟩ := DataW.trod_struct hu hx
     simp only [Prod.mk.injEq, DataW.agg.injEq] at hd
     obtain ⟨rfl, rfl⟩ := hd
     obtain ⟨hxl, _, hxs⟩ := dataFields_spec h
     have := VRels.fields (P := P) (E := Env.start w) (cs := cs) fs.toList xs 0 _ hz hxl fun i f x hf hi => by
      obtain ⟨d, hd, hff⟩ := hxs i f x hf hi
      have hlt : i < ys.length := by
       have := (List.getElem?_eq_some_iff.1 hd).1
       simpa using this
      have h3 := hy i f (by simpa using hf)
      rw [List.getElem?_eq_getElem hlt] at h3
      have hd' : (ys[i]).1 = d := by simpa [List.getElem?_eq_getElem hlt] using hd
      rw [<- hd'] at hff
      exact data_open hN hff h3 fun ht u v hm => ok ht u v (List.mem_of_mem_drop (List.mem_of_mem_take hm))
     rw [List.drop_zero, Nat.sub_zero, List.take_of_length_le (by omega)] at this
     exact this
   · simp only [Option.some.injEq] at h; subst h
     cases fuel with
     | zero => simp [DataW.trod] at hx
     | succ m =>
       match cs with
       | [] => simp [DataW.trod, hu] at hx
       | _ :: _ :: _ => simp [DataW.trod, hu] at hx
       | [c] =>
         cases c <;> simp [DataW.trod, hu] at hx
         · split at hx <;> simp at hx
         · exact .cons .niliface .nil
   · rename_i name d'
     split at h <;> try (simp at h; done)
     rename_i htop
     split at h <;> try (simp at h; done)
     rename_i u hnu
     split at h <;> try (simp at h; done)
     rename_i e hpu
     split at h <;> try (simp at h; done)
     rename_i a ha
     simp only [Option.some.injEq] at h; subst h
     obtain ⟨m, u', v, rfl, hname, h2⟩ := iface_of_trod hu hx
     obtain rfl := hN _ _ _ hnu hname
     have hok := ok htop u' v (by simp)
     have hvs := data_open hN ha h2 (by simp)
     have hv' : ∃ c, v = .pointer c := by
      unfold Value.okWide at hok
      simp only [hpu] at hok
      unfold Cell.okWide at hok
      cases v <;> simp [Cell.ok, hpu] at hok
      exact ⟨_, rfl⟩
     obtain ⟨c, rfl⟩ := hv'
     have hcl : (Value.pointer c).cells.toList = [.pointer c] := rfl
     rw [hcl] at hvs
     cases hvs with | cons hv _ => exact .cons (.iface hv) .nil
   · simp at h
def laidAV (P : Program) (N : String -> Option TypeId) (n : Nat) (name : String) (d : DataW Unit) : Option (Nat × List AV) :=
 match P.globalNamed name with
 | some g => match (P.globals[g]?).map (·.type) with
   | some t => (dataAV P N n true t d).map fun as_ => (g, as_)
   | none => none
 | none => none
def laidTab (P : Program) (N : String -> Option TypeId) (n : Nat) : List (String × DataW Unit) -> Option (List (Nat × List AV))
 | [] => some []
 | (name, d) :: r => match laidAV P N n name d, laidTab P N n r with
   | some x, some xs => some (x :: xs)
   | _, _ => none
def Gof : List (Nat × List AV) -> Nat -> Option AV
 | [], _ => none
 | (g, as_) :: r, h => if h = g then some (.vptr as_) else Gof r h
theorem laid_rel (hN : ∀ name u u', N name = some u -> P.typeName? 3 u' = some name -> u' = u) {n : Nat} : ∀ {L : List (String × DataW Unit)} {T : List (Nat × List AV)} {ps : List MemPlace}, laidTab P N n L = some T -> DataW.LaidVars P w L ps ->
  (∀ b off, MemPlace.cell b off ∈ ps -> ∀ u v, w.cell? ⟨b, off, none⟩ = some (.iface u v) -> Value.okWide P w .any 0 u v) -> GRel (Env.start w) (Gof T)
 | [], T, ps, h, _, _ => by
   simp [laidTab] at h; subst h
   intro g a ha
   simp [Gof] at ha
 | (name, d) :: r, T, ps, h, hL, hok => by
   simp only [laidTab] at h
   split at h <;> try (simp at h; done)
   rename_i x xs h1 h2
   simp only [Option.some.injEq] at h; subst h
   obtain ⟨g, t, cs, fuel, p, q, hg, ht, hv, hd, hr, rfl⟩ := hL
   simp only [laidAV, hg, ht, Option.map_eq_some_iff] at h1
   obtain ⟨as_, h1, rfl⟩ := h1
   have hrest := laid_rel hN h2 hr fun b off hm => hok b off (by simp [hm])
   intro k a ha
   simp only [Gof] at ha
   split at ha
   · rename_i he; subst he
     simp only [Option.some.injEq] at ha; subst ha
     have hvs := data_open hN h1 hd fun _ u v hm => by
      obtain ⟨i, hi⟩ := List.getElem?_of_mem hm
      refine hok k i ?_ u v ?_
      · simp only [List.mem_append, MemPlace.row, List.mem_map, List.mem_range]
        refine .inl (.inl ⟨i, ?_, by simp⟩)
        have := (List.getElem?_eq_some_iff.1 hi).1
        simpa using this
      · rw [World.var?_cell hg hv i]
        simpa using hi
     have hb : ∃ c e, w.heap[k]? = some (.cells cs c e) := by
      simp only [World.var?, hg, Option.bind_some] at hv
      split at hv <;> simp at hv
      subst hv
      rename_i hh; exact ⟨_, _, hh⟩
     obtain ⟨c, e, hb⟩ := hb
     exact ⟨.vptr (.inr ⟨cs, c, e, hb, by simp⟩) hvs, fun cs' e' => by cases e'; exact ⟨cs, c, e, hb, hvs⟩⟩
   · exact hrest k a ha
theorem laid_met (hN : ∀ name u u', N name = some u -> P.typeName? 3 u' = some name -> u' = u) {n : Nat} {L : List (String × DataW Unit)} (ht : (laidTab P N n L).isSome = true) (h : laidMet P L w) : GRel (Env.start w) (Gof ((laidTab P N n L).getD [])) := by
 obtain ⟨ps, h1, _, h3⟩ := h
 cases e : laidTab P N n L with
 | none => rw [e] at ht; simp at ht
 | some T => exact laid_rel hN e h1 fun b off hm => (h3 b off hm).2
end
end Go.Abs
namespace Go.Proofs.YtjfgldopgijonaaGreatDoor
open Go Go.Abs Go.RowKit
noncomputable def named : String -> Option TypeId := fun s => if s = "*errors.errorString" then some 575 else none
theorem named_one (name : String) (u u' : TypeId) (h : named name = some u) (h' : Tryz.prog.typeName? 3 u' = some name) : u' = u := by
 unfold named at h
 split at h <;> try (simp at h; done)
 rename_i e; subst e
 simp only [Option.some.injEq] at h; subst h
 exact typeName_ptr_named (nm := "errors.errorString") (by kernel_rfl) (by kernel_rfl) (by decide) u' h'
def seatLaid : List (String × DataW Unit) := [("math/bits.deBruijn32tab", Rows.laid_math_bits_deBruijn32tab), ("math/bits.deBruijn64tab", Rows.laid_math_bits_deBruijn64tab), ("internal/strconv.uint64pow10", Rows.laid_internal_strconv_uint64pow10), ("unicode/utf8.acceptRanges", Rows.laid_unicode_utf8_acceptRanges), ("strconv.ErrRange", Rows.laid_strconv_ErrRange), ("strconv.ErrSyntax", Rows.laid_strconv_ErrSyntax), ("unicode/utf8.first", Rows.laid_unicode_utf8_first)]
noncomputable def tab : List (Nat × List AV) := (laidTab Tryz.prog named 8 seatLaid).getD []
theorem tab_ok : (laidTab Tryz.prog named 8 seatLaid).isSome = true := by kernel_rfl
theorem laid_start {w : World} (h : laidMet Tryz.prog seatLaid w) : GRel (Env.start w) (Gof tab) := laid_met named_one tab_ok h
theorem idx395 : IsIdx Tryz.prog 395 := ⟨⟨Tryz.f395, Tryz.func395, by kernel_rfl, by kernel_rfl, by kernel_rfl, by kernel_rfl⟩⟩
noncomputable def known : Ov := ovAdd 443 copyOv (ovAdd 395 idxOv (noOv))
theorem known_good (G : Nat -> Option AV) : zau Tryz.prog G known := (zaq (copyOv_good isCopy) (zaq (idxOv_good idx395) (noOv_good _ _)))
end Go.Proofs.YtjfgldopgijonaaGreatDoor
namespace Go.Abs
open Go Go.RowKit Go.WideShapes Go.ChangeShapes
section
variable {H : Type} {enc : TypeId × Value -> H} {P : Program}
end
end Go.Abs
namespace Go.Lex
open Go.Abs
noncomputable def blankN (n : Nat) : Bool := ifK (Nat.beq n 32) true (ifK (Nat.beq n 9) true (ifK (Nat.beq n 10) true (Nat.beq n 13)))
noncomputable def letterN (n : Nat) : Bool := ifK (Nat.ble 97 n) (Nat.ble n 122) false
noncomputable def digitN (n : Nat) : Bool := ifK (Nat.ble 48 n) (Nat.ble n 57) false
noncomputable def namecN (n : Nat) : Bool := ifK (letterN n) true (ifK (digitN n) true (Nat.beq n 95))
theorem ifK_if {R : Type} (b : Bool) (x y : R) : ifK b x y = if b = true then x else y := by cases b <;> rfl
theorem za2 (b : UInt8) (n : UInt8) : Nat.beq b.toNat n.toNat = (b == n) := by
 rw [Bool.eq_iff_iff, Nat.beq_eq, beq_iff_eq, UInt8.toNat_inj]
theorem blankN_eq (b : UInt8) : blankN b.toNat = zah b := by
 have h1 := za2 b 32
 have h2 := za2 b 9
 have h3 := za2 b 10
 have h4 := za2 b 13
 have e1 : (32 : UInt8).toNat = 32 := rfl
 have e2 : (9 : UInt8).toNat = 9 := rfl
 have e3 : (10 : UInt8).toNat = 10 := rfl
 have e4 : (13 : UInt8).toNat = 13 := rfl
 rw [e1] at h1; rw [e2] at h2; rw [e3] at h3; rw [e4] at h4
 simp only [blankN, ifK_if, h1, h2, h3, h4, zah]
 cases b == 32 <;> cases b == 9 <;> cases b == 10 <;> cases b == 13 <;> rfl
theorem letterN_eq (b : UInt8) : letterN b.toNat = isLetter b := by
 simp only [letterN, ifK_if, isLetter, Nat.ble_eq]
 by_cases h : 97 <= b.toNat
 · rw [if_pos h, decide_eq_true h, Bool.true_and, Bool.eq_iff_iff, Nat.ble_eq, decide_eq_true_eq]
 · rw [if_neg h, decide_eq_false h, Bool.false_and]
theorem digitN_eq (b : UInt8) : digitN b.toNat = zaf b := by
 simp only [digitN, ifK_if, zaf, Nat.ble_eq]
 by_cases h : 48 <= b.toNat
 · rw [if_pos h, decide_eq_true h, Bool.true_and, Bool.eq_iff_iff, Nat.ble_eq, decide_eq_true_eq]
 · rw [if_neg h, decide_eq_false h, Bool.false_and]
theorem namecN_eq (b : UInt8) : namecN b.toNat = za6 b := by
 have h1 := za2 b 95
 have e1 : (95 : UInt8).toNat = 95 := rfl
 rw [e1] at h1
 simp only [namecN, ifK_if, letterN_eq, digitN_eq, za6, h1]
 cases isLetter b <;> cases zaf b <;> rfl
noncomputable def frcA (l : Bs) : Bs -> (Bs -> Bool) -> Bool := List.rec (motive := fun _ => Bs -> (Bs -> Bool) -> Bool) (fun m k => revK m [] k) (fun b _ ih m k => natK b.toNat fun n => stepK (ih (UInt8.ofNat n :: m) k)) l
theorem frcA_eq : ∀ (l m : Bs) (k : Bs -> Bool), frcA l m k = k (m.reverse ++ l)
 | [], m, k => by
   have e : frcA [] m k = revK m [] k := rfl
   rw [e, revK_eq]
 | b :: l, m, k => by
   have e : frcA (b :: l) m k = natK b.toNat fun n => frcA l (UInt8.ofNat n :: m) k := rfl
   rw [e, zao, frcA_eq l]; simp
noncomputable def is45 (l : Bs) : Bool := List.rec (motive := fun _ => Bool) false (fun b _ _ => Nat.beq b.toNat 45) l
noncomputable def skK (l : Bs) : Bool -> (Bs -> Bool) -> Bool := List.rec (motive := fun _ => Bool -> (Bs -> Bool) -> Bool) (fun _ k => k [])
 (fun b l ih m k => natK b.toNat fun n => ifK m (ifK (Nat.beq n 10) (stepK (ih false k)) (stepK (ih true k)))
   (ifK (blankN n) (stepK (ih false k)) (ifK (Nat.beq n 45) (ifK (is45 l) (stepK (ih true k)) (k (b :: l))) (k (b :: l))))) l
theorem skK_eq : ∀ (l : Bs) (m : Bool) (k : Bs -> Bool), skK l m k = k (betw (if m then l.dropWhile (fun b => b != 10) else l))
 | [], m, k => by
   have e : skK [] m k = k [] := rfl
   rw [e]; cases m <;> simp [betw_nil']
 | b :: l, m, k => by
   have e : skK (b :: l) m k = natK b.toNat fun n => ifK m (ifK (Nat.beq n 10) (skK l false k) (skK l true k))
    (ifK (blankN n) (skK l false k) (ifK (Nat.beq n 45) (ifK (is45 l) (skK l true k) (k (b :: l))) (k (b :: l)))) := rfl
   have h10 := za2 b 10
   have h45 := za2 b 45
   have e1 : (10 : UInt8).toNat = 10 := rfl
   have e2 : (45 : UInt8).toNat = 45 := rfl
   rw [e1] at h10; rw [e2] at h45
   rw [e, zao, h10, blankN_eq, h45, skK_eq l, skK_eq l]
   cases m with
   | true =>
     simp only [ifK_if, if_true]
     by_cases hb : b = 10
     · subst hb
       simp only [beq_self_eq_true, if_true, Bool.false_eq_true, if_false]
       rw [List.dropWhile_cons]
       simp only [bne_self_eq_false, Bool.false_eq_true, if_false]
       rw [betw_blank (by decide)]
     · have h1 : (b == 10) = false := by simpa using hb
       have h2 : (b != 10) = true := by simpa using hb
       simp only [h1, Bool.false_eq_true, if_false, if_true]
       rw [List.dropWhile_cons, h2, if_pos rfl]
   | false =>
     simp only [ifK_if, Bool.false_eq_true, if_false, if_true]
     cases hb : zah b with
     | true => simp only [if_true]; rw [betw_blank hb]
     | false =>
       simp only [Bool.false_eq_true, if_false]
       by_cases h4 : b = 45
       · subst h4
         simp only [beq_self_eq_true, if_true]
         cases l with
         | nil =>
           have : is45 [] = false := rfl
           rw [this]
           simp only [Bool.false_eq_true, if_false]
           rw [betw_here hb (by simp)]
         | cons c q =>
           have hc : is45 (c :: q) = (c == 45) := by
            have := za2 c 45
            rw [e2] at this
            exact this
           rw [hc]
           by_cases hc4 : c = 45
           · subst hc4
             simp only [beq_self_eq_true, if_true]
             rw [betw_rem, List.dropWhile_cons]
             simp
           · have : (c == 45) = false := by simpa using hc4
             rw [this]
             simp only [Bool.false_eq_true, if_false]
             rw [betw_here hb (by intro q h; simp at h; exact hc4 h.1)]
       · have : (b == 45) = false := by simpa using h4
         rw [this]
         simp only [Bool.false_eq_true, if_false]
         rw [betw_here hb (by intro q h; simp at h; exact h4 h.1)]
noncomputable def spK (p : Nat -> Bool) (l : Bs) : Bs -> (Bs -> Bs -> Bool) -> Bool := List.rec (motive := fun _ => Bs -> (Bs -> Bs -> Bool) -> Bool) (fun m k => revK m [] fun t => k t [])
 (fun b l ih m k => natK b.toNat fun n => ifK (p n) (stepK (ih (b :: m) k)) (revK m [] fun t => k t (b :: l))) l
theorem spK_eq {p : Nat -> Bool} {q : UInt8 -> Bool} (h : ∀ b, p b.toNat = q b) : ∀ (l m : Bs) (k : Bs -> Bs -> Bool), spK p l m k = k (m.reverse ++ l.takeWhile q) (l.drop (l.takeWhile q).length)
 | [], m, k => by
   have e : spK p [] m k = revK m [] fun t => k t [] := rfl
   rw [e, revK_eq]; simp
 | b :: l, m, k => by
   have e : spK p (b :: l) m k = natK b.toNat fun n => ifK (p n) (spK p l (b :: m) k) (revK m [] fun t => k t (b :: l)) := rfl
   rw [e, zao, h, spK_eq h l, revK_eq, List.takeWhile_cons]
   cases q b <;> simp
noncomputable def eqN (w : List Nat) : Bs -> Bool := List.rec (motive := fun _ => Bs -> Bool) (fun s => nilB s) (fun x _ ih s => List.rec (motive := fun _ => Bool) false (fun b r _ => ifK (Nat.beq b.toNat x) (ih r) false) s) w
theorem eqN_eq : ∀ (w : List Nat) (s : Bs), eqN w s = true ↔ s.map (·.toNat) = w
 | [], s => by
   have e : eqN [] s = nilB s := rfl
   rw [e, nilB_eq]; cases s <;> simp
 | x :: w, [] => by
   have e : eqN (x :: w) [] = false := rfl
   rw [e]; simp
 | x :: w, b :: s => by
   have e : eqN (x :: w) (b :: s) = ifK (Nat.beq b.toNat x) (eqN w s) false := rfl
   rw [e, ifK_if]
   by_cases h : b.toNat = x
   · have : Nat.beq b.toNat x = true := by rw [Nat.beq_eq]; exact h
     rw [if_pos this, eqN_eq w s]; simp [h]
   · have : ¬ Nat.beq b.toNat x = true := by rw [Nat.beq_eq]; exact h
     rw [if_neg this]; simp [h]
noncomputable def anyN (ws : List (List Nat)) (s : Bs) : Bool := List.rec (motive := fun _ => Bool) false (fun w _ ih => ifK (eqN w s) true ih) ws
theorem anyN_eq (s : Bs) : ∀ ws : List (List Nat), anyN ws s = true ↔ s.map (·.toNat) ∈ ws
 | [] => by simp [anyN]
 | w :: ws => by
   have e : anyN (w :: ws) s = ifK (eqN w s) true (anyN ws s) := rfl
   rw [e, ifK_if]
   by_cases h : eqN w s = true
   · rw [if_pos h]; simp [(eqN_eq w s).1 h]
   · rw [if_neg h, anyN_eq s ws]
     have : ¬ s.map (·.toNat) = w := fun e => h ((eqN_eq w s).2 e)
     simp [this]
def keptN : List (List Nat) := [[110,111,100,101],[114,101,116,117,114,110,115],[118,97,114],[108,101,116],[116,101,108],[98,111,111,108],[105,110,116],[116,114,117,101],[102,97,108,115,101],[110,111,116],[97,110,100],[111,114],[120,111,114],[109,111,100],[105,102],[116,104,101,110],[101,108,115,101],[112,114,101],[102,98,121],[119,104,101,110],[109,101,114,103,101]]
theorem toNat_map_inj : ∀ {a b : Bs}, a.map (·.toNat) = b.map (·.toNat) -> a = b
 | [], [], _ => rfl
 | [], _ :: _, h => by simp at h
 | _ :: _, [], h => by simp at h
 | x :: a, y :: b, h => by
   simp only [List.map_cons, List.cons.injEq] at h
   rw [UInt8.toNat_inj.1 h.1, toNat_map_inj h.2]
theorem keptN_eq (s : Bs) : anyN keptN s = kept s := by
 rw [Bool.eq_iff_iff, anyN_eq]
 have hk : keptN = keptWords.map (fun w => w.map (·.toNat)) := rfl
 unfold kept
 rw [hk, List.mem_map, List.contains_iff_mem]
 constructor
 · rintro ⟨w, hw, e⟩; rw [<- toNat_map_inj e]; exact hw
 · intro h; exact ⟨s, h, rfl⟩
noncomputable def prN (w : List Nat) : Bs -> (Bs -> Bool) -> Bool -> Bool := List.rec (motive := fun _ => Bs -> (Bs -> Bool) -> Bool -> Bool) (fun s k _ => k s)
 (fun x _ ih s k z => List.rec (motive := fun _ => Bool) z (fun b r _ => ifK (Nat.beq b.toNat x) (ih r k z) z) s) w
theorem prN_eq : ∀ (w s : Bs) (k : Bs -> Bool) (z : Bool), prN (w.map (·.toNat)) s k z = if w.isPrefixOf s then k (s.drop w.length) else z
 | [], s, k, z => by
   have e : prN (([] : Bs).map (·.toNat)) s k z = k s := rfl
   rw [e]; simp
 | x :: w, [], k, z => by
   have e : prN ((x :: w).map (·.toNat)) [] k z = z := rfl
   rw [e]; simp
 | x :: w, b :: s, k, z => by
   have e : prN ((x :: w).map (·.toNat)) (b :: s) k z = ifK (Nat.beq b.toNat x.toNat) (prN (w.map (·.toNat)) s k z) z := rfl
   rw [e, za2, prN_eq w s, ifK_if]
   by_cases h : b = x
   · subst h; simp
   · have h1 : (b == x) = false := by simpa using h
     have h2 : (x == b) = false := by simpa using fun e => h e.symm
     rw [h1]; simp [List.isPrefixOf, h2]
noncomputable def sgK (ws : List Bs) (s : Bs) (k : Bs -> Bs -> Bool) (z : Bool) : Bool := List.rec (motive := fun _ => Bool) z (fun w _ ih => prN (w.map (·.toNat)) s (fun r => k w r) ih) ws
theorem sgK_eq (s : Bs) (k : Bs -> Bs -> Bool) (z : Bool) : ∀ ws : List Bs, sgK ws s k z = match ws.find? fun x => x.isPrefixOf s with | some t => k t (s.drop t.length) | none => z
 | [] => rfl
 | w :: ws => by
   have e : sgK (w :: ws) s k z = prN (w.map (·.toNat)) s (fun r => k w r) (sgK ws s k z) := rfl
   rw [e, prN_eq, sgK_eq s k z ws, List.find?_cons]
   cases w.isPrefixOf s <;> rfl
noncomputable def numN (l : Bs) : Nat -> Nat := List.rec (motive := fun _ => Nat -> Nat) (fun n => n) (fun b _ ih n => natK (Nat.add (Nat.mul 10 n) (Nat.sub b.toNat 48)) fun n => ih n) l
theorem numN_eq : ∀ (l : Bs) (n : Nat), numN l n = l.foldl (fun n b => 10 * n + (b.toNat - 48)) n
 | [], n => rfl
 | b :: l, n => by
   have e : numN (b :: l) n = natK (10 * n + (b.toNat - 48)) fun n => numN l n := rfl
   rw [e, zao, numN_eq l]; rfl
noncomputable def wdK (s : Bs) (k : Nat -> Bs -> Nat -> Bs -> Bool) (z : Bool) : Bool :=
 List.rec (motive := fun _ => Bool) z (fun b _ _ => natK b.toNat fun n =>
  ifK (letterN n) (spK namecN s [] fun t r => ifK (anyN keptN t) (k 2 t 0 r) (ifK (Nat.ble (lenN t) 24) (k 1 t 0 r) z))
   (ifK (digitN n) (spK digitN s [] fun t r => natK (numN t 0) fun v => ifK (Nat.blt v 9223372036854775808) (ifK (Nat.beq (lenN t) 1) (k 3 t v r) (ifK (Nat.beq n 48) z (k 3 t v r))) z)
     (sgK signs s (fun t r => k 4 t 0 r) z))) s
theorem wdK_eq (s : Bs) (k : Nat -> Bs -> Nat -> Bs -> Bool) (z : Bool) : wdK s k z = match wordS s with | some w => k w.kind w.text w.n (s.drop w.text.length) | none => z := by
 cases s with
 | nil => rfl
 | cons b r =>
   have e : wdK (b :: r) k z = natK b.toNat fun n =>
    ifK (letterN n) (spK namecN (b :: r) [] fun t r => ifK (anyN keptN t) (k 2 t 0 r) (ifK (Nat.ble (lenN t) 24) (k 1 t 0 r) z))
    (ifK (digitN n) (spK digitN (b :: r) [] fun t r => natK (numN t 0) fun v => ifK (Nat.blt v 9223372036854775808) (ifK (Nat.beq (lenN t) 1) (k 3 t v r) (ifK (Nat.beq n 48) z (k 3 t v r))) z)
      (sgK signs (b :: r) (fun t r => k 4 t 0 r) z)) := rfl
   have h48 := za2 b 48
   have e1 : (48 : UInt8).toNat = 48 := rfl
   rw [e1] at h48
   rw [e]
   simp only [zao, letterN_eq, digitN_eq, spK_eq namecN_eq, spK_eq digitN_eq, keptN_eq, zap, numN_eq, sgK_eq, ifK_if, List.reverse_nil, List.nil_append, h48, wordS, signOf, zak, Nat.ble_eq, Nat.beq_eq, Nat.blt_eq, beq_iff_eq]
   by_cases h1 : isLetter b = true
   · simp only [Bool.false_eq_true, h1, if_true]
     by_cases h2 : kept (List.takeWhile za6 (b :: r)) = true
     · simp only [Bool.false_eq_true, h2, if_true]
     · simp only [Bool.false_eq_true, h2, if_false]
       by_cases h3 : (List.takeWhile za6 (b :: r)).length <= 24
       · simp only [Bool.false_eq_true, h3, if_true]
       · simp only [Bool.false_eq_true, h3, if_false]
   · simp only [Bool.false_eq_true, h1, if_false]
     by_cases h2 : zaf b = true
     · simp only [Bool.false_eq_true, h2, if_true]
       by_cases h3 : List.foldl (fun n b => 10 * n + (b.toNat - 48)) 0 (List.takeWhile zaf (b :: r)) < 9223372036854775808
       · by_cases h4 : (List.takeWhile zaf (b :: r)).length = 1
         · simp only [Bool.false_eq_true, h3, h4, if_true, true_or, and_self]
         · have e48 : (b.toNat = 48) ↔ b = 48 := by
            have := za2 b 48
            rw [e1] at this
            rw [<- Nat.beq_eq, this, beq_iff_eq]
           by_cases h5 : b = 48
           · have h6 := e48.2 h5
             have h7 : ¬ (List.foldl (fun n b => 10 * n + (b.toNat - 48)) 0 (List.takeWhile zaf (b :: r)) < 9223372036854775808 /\ ((List.takeWhile zaf (b :: r)).length = 1 \/ b ≠ 48)) := fun ⟨_, x⟩ => by
              rcases x with x | x
              · exact h4 x
              · exact x h5
             have h5' := eq_true h5
             have h6' := eq_true h6
             simp only [h3, h4, h5', h6', ne_eq, not_true_eq_false, if_true, if_false, or_self, and_false]
           · have h6 : ¬ b.toNat = 48 := fun e => h5 (e48.1 e)
             simp only [h3, h4, h5, h6, ne_eq, not_false_eq_true, if_true, if_false, or_true, and_self]
       · simp only [Bool.false_eq_true, h3, if_false, false_and]
     · simp only [Bool.false_eq_true, h2, if_false]
       cases List.find? (fun x => x.isPrefixOf (b :: r)) signs <;> rfl
noncomputable def ctK (n : Nat) (fuel : Nat) : Bs -> List AV -> Nat -> (List AV -> Nat -> Bool) -> (Nat -> Bool) -> Bool :=
 Nat.rec (motive := fun _ => Bs -> List AV -> Nat -> (List AV -> Nat -> Bool) -> (Nat -> Bool) -> Bool) (fun _ _ _ _ _ => false)
  (fun _ ih s m c k z => skK s false fun r => List.rec (motive := fun _ => Bool) (revK (.int .i64 (.ofNat n) :: .int .i64 (.ofNat 0) :: .str [] :: .int .i64 (.ofNat 0) :: m) [] fun cs => natK (Nat.succ c) fun c => k cs c)
    (fun _ _ _ => natK (Nat.sub n (lenN r)) fun at_ => wdK r (fun kd t v q => natK (Nat.succ c) fun c => stepK (ih q (.int .i64 (.ofNat at_) :: .int .i64 (.ofNat v) :: .str t :: .int .i64 (.ofNat kd) :: m) c k z)) (z at_)) r) fuel
def cellsW : List (Nat × Wd) -> List AV
 | [] => []
 | (i, w) :: l => [.int .i64 w.kind, .str w.text, .int .i64 w.n, .int .i64 i] ++ cellsW l
theorem ctK_inv (n : Nat) : ∀ (fuel : Nat) (s : Bs) (m : List AV) (c : Nat) (k : List AV -> Nat -> Bool) (z : Nat -> Bool), ctK n fuel s m c k z = true ->
  (match cutS n s with
  | .ok l => k (m.reverse ++ cellsW l ++ [.int .i64 0, .str [], .int .i64 0, .int .i64 n]) (c + l.length + 1)
  | .error e => z e) = true
 | 0, s, m, c, k, z, h => by have h : false = true := h; simp at h
 | fuel + 1, s, m, c, k, z, h => by
   have h : (skK s false fun r => List.rec (motive := fun _ => Bool) (revK (.int .i64 (.ofNat n) :: .int .i64 (.ofNat 0) :: .str [] :: .int .i64 (.ofNat 0) :: m) [] fun cs => natK (Nat.succ c) fun c => k cs c)
    (fun _ _ _ => natK (Nat.sub n (lenN r)) fun at_ => wdK r (fun kd t v q => natK (Nat.succ c) fun c => ctK n fuel q (.int .i64 (.ofNat at_) :: .int .i64 (.ofNat v) :: .str t :: .int .i64 (.ofNat kd) :: m) c k z) (z at_)) r) = true := h
   rw [skK_eq] at h
   simp only [Bool.false_eq_true, if_false] at h
   cases hb : betw s with
   | nil =>
     rw [hb] at h
     simp only [revK_eq, zao] at h
     rw [cutS_end hb]
     simpa [cellsW] using h
   | cons b r =>
     rw [hb] at h
     simp only [zao, zap, wdK_eq] at h
     cases hw : wordS (b :: r) with
     | none =>
       rw [hw] at h
       rw [cutS_bad hb hw]
       exact h
     | some w =>
       rw [hw] at h
       rw [cutS_word hb hw]
       have ih := ctK_inv n fuel _ _ _ _ _ h
       revert ih
       cases cutS n ((b :: r).drop w.text.length) with
       | ok l =>
         intro ih
         have e : c + (((n - (b :: r).length, w) :: l).length) + 1 = c.succ + l.length + 1 := by simp; omega
         simp only [e]
         simpa [cellsW] using ih
       | error e => exact fun ih => ih
noncomputable def cutOv (args : List AV) (H : FH) (k : AV -> FH -> Bool) : Bool :=
 oneKK args (fun a => a.onStr false fun s => natK (lenN s) fun n => ifK (Nat.ble n 140737488355328) (ifK (Nat.ble n 16384)
  (frcA s [] fun s => ctK n (Nat.succ n) s [] 0 (fun cs c => k (.tuple [.vsl cs c, .agg [.int .i64 (.ofNat 0), .int .i64 (.ofNat 0)]]) H) (fun e => k (.tuple [.nilsl, .agg [.int .i64 (.ofNat 7), .int .i64 (.ofNat e)]]) H))
  (k (.tuple [.nilsl, .agg [.int .i64 (.ofNat 2), .int .i64 (.ofNat n)]]) H)) false) false
def cutA (t : Bs) : AV := if 16384 < t.length then .tuple [.nilsl, .agg [.int .i64 2, .int .i64 t.length]] else match cutS t.length t with
 | .ok l => .tuple [.vsl (cellsW l ++ [.int .i64 0, .str [], .int .i64 0, .int .i64 t.length]) (l.length + 1), .agg [.int .i64 0, .int .i64 0]]
 | .error e => .tuple [.nilsl, .agg [.int .i64 7, .int .i64 e]]
theorem cutOv_inv {args : List AV} {H : FH} {k : AV -> FH -> Bool} (h : cutOv args H k = true) : ∃ s : Bs, args = [.str s] /\ s.length <= 140737488355328 /\ k (cutA s) H = true := by
 obtain ⟨a, rfl, h0⟩ := oneKK_inv h
 rcases AV.onStr_inv h0 with ⟨s, rfl, h1⟩ | ⟨h1, _⟩
 case inr => simp at h1
 clear h h0
 rw [zao, zap] at h1
 obtain ⟨hb, h⟩ := zaa h1
 clear h1
 have hb : s.length <= 140737488355328 := Nat.le_of_ble_eq_true hb
 refine ⟨s, rfl, hb, ?_⟩
 simp only [ifK_if, Nat.ble_eq] at h
 by_cases hl : s.length <= 16384
 · rw [if_pos hl, frcA_eq] at h
   have h1 := ctK_inv _ _ _ _ _ _ _ h
   simp only [List.reverse_nil, List.nil_append, Nat.zero_add] at h1
   unfold cutA
   rw [if_neg (by omega)]
   cases hc : cutS s.length s with
   | ok l => rw [hc] at h1; exact h1
   | error e => rw [hc] at h1; exact h1
 · rw [if_neg hl] at h
   unfold cutA
   rw [if_pos (by omega)]
   exact h
end Go.Lex
namespace Go.Abs
open Go
noncomputable def Env.asideF (E : Env) (H : AHeap) (w : World) : Env := by
 classical
 exact { φ := fun _ => none, K := E.K, F := fun B => if (∃ i x p, H.get i = some x /\ E.φ i = some p /\ p.b = B) then w.heap[B]? else E.F B, os := E.os, out := E.out }
theorem aside_live {E : Env} {H : AHeap} {w : World} {B i : Nat} {x : AObj} {p : Place} (hi : H.get i = some x) (hp : E.φ i = some p) (hb : p.b = B) : (E.asideF H w).F B = w.heap[B]? := by
 unfold Env.asideF
 exact if_pos ⟨i, x, p, hi, hp, hb⟩
theorem aside_cases (E : Env) (H : AHeap) (w : World) (B : Nat) : (E.asideF H w).F B = E.F B \/ (∃ i x p, H.get i = some x /\ E.φ i = some p /\ p.b = B) := by
 by_cases h : ∃ i x p, H.get i = some x /\ E.φ i = some p /\ p.b = B
 · exact .inr h
 · left; unfold Env.asideF; exact if_neg h
theorem Does.frame {P : Program} {G : Nat -> Option AV} {f : FuncId} {args : List AV} {n : Nat} {R : AV -> AHeap -> Prop} (h : Does P G f args (AHeap.empty n) R) (ha : AV.allLt 0 args = true) (hG : ∀ g a, G g = some a -> a.idLt 0 = true)
  (hr : ∀ r H1, R r H1 -> r.idLt 0 = true) (H : AHeap) : Does P G f args H fun r h => (∃ H1, R r H1) /\ h = H :=
 ⟨fun E w vs hR hG' hv => by
  have hlive : ∀ i x p, H.get i = some x -> E.φ i = some p -> E.K p.b = none /\ E.F p.b = none /\ ∃ ob, w.heap[p.b]? = some ob /\ ORel E p x ob := fun i x p hi hp => by
   obtain ⟨q, ob, h1, h2, h3, h4, h5⟩ := hR.live i x hi
   rw [hp] at h1; cases h1
   exact ⟨h2, h3, ob, h4, h5⟩
  have hR0 : Rel (E.asideF H w) (AHeap.empty n) w := by
   refine ⟨hR.os, hR.out, hR.K, fun B o hB => ?_, fun B => ?_, fun i p hp => ?_, fun i x hi => ?_, fun i j x y p q hi => ?_⟩
   · rcases aside_cases E H w B with e | ⟨i, x, p, hi, hp, rfl⟩
     · rw [e] at hB; exact hR.F B o hB
     · rw [aside_live hi hp rfl] at hB; exact hB
   · rcases aside_cases E H w B with e | ⟨i, x, p, hi, hp, rfl⟩
     · rw [e]; exact hR.KF B
     · exact .inl (hlive i x p hi hp).1
   · have : (none : Option Place) = some p := hp
     simp at this
   · simp [AHeap.empty] at hi
   · simp [AHeap.empty] at hi
  have kn : Knows (E.cut 0) (E.asideF H w) := ⟨fun i p hp => by simp [Env.cut] at hp, fun _ _ h => h⟩
  refine (h.run _ w vs hR0 ((GRel.cut hG' hG).mono kn) ((VRels.cut hv ha).mono kn)).mono ?_
  rintro v w' ⟨r, H1, E1, g1, g2, g3, g4⟩
  have hKE : ∀ B o, E.K B = some o -> E1.K B = some o := g2.K
  have hF1 : E1.F = (E.asideF H w).F := g2.F
  have hkn : Knows E { E with K := E1.K } := ⟨fun _ _ h => h, hKE⟩
  refine ⟨r, H, { E with K := E1.K }, ⟨⟨H1, g1⟩, rfl⟩, ⟨fun _ _ h => h, hKE, rfl, rfl, rfl⟩, ?_, ?_⟩
  · exact VRel.mono (E := E1.cut 0) (E' := { E with K := E1.K }) ⟨fun i p hp => by simp [Env.cut] at hp, fun _ _ h => h⟩ (VRel.cut g3 (hr r H1 g1))
  · refine ⟨g4.os.trans g2.os, g4.out.trans g2.out, g4.K, fun B o hB => ?_, fun B => ?_, hR.dom, fun i x hi => ?_, hR.inj⟩
    · refine g4.F B o ?_
      rw [hF1]
      rcases aside_cases E H w B with e | ⟨i, x, p, hi, hp, rfl⟩
      · rw [e]; exact hB
      · have h2 := (hlive i x p hi hp).2.1
        have hB : E.F p.b = some o := hB
        rw [h2] at hB; simp at hB
    · rcases g4.KF B with e | e
      · exact .inl e
      · rw [hF1] at e
        rcases aside_cases E H w B with e' | ⟨i, x, p, hi, hp, rfl⟩
        · rw [e'] at e; exact .inr e
        · exact .inr (hlive i x p hi hp).2.1
    · obtain ⟨p, ob, h1, h2, h3, h4, h5⟩ := hR.live i x hi
      have hF0 : E1.F p.b = some ob := by rw [hF1, aside_live hi h1 rfl]; exact h4
      refine ⟨p, ob, h1, ?_, h3, g4.F _ _ hF0, h5.mono hkn⟩
      rcases g4.KF p.b with e | e
      · exact e
      · rw [hF0] at e; simp at e⟩
def za0 {α : Type} : List (Option α) -> Option (List α)
 | [] => some []
 | none :: _ => none
 | some a :: l => (za0 l).map (a :: ·)
def AV.res (get : Nat -> Option AObj) : Nat -> AV -> Option AV
 | 0, _ => none
 | n + 1, v => match v with
   | .ptr i o => match get i with
     | some (.cells cs) => (za0 ((cs.drop o).map (AV.res get n))).map .vptr
     | _ => none
   | .sl i o z len _ _ => match get i with
     | some (.cells cs) => (za0 (((cs.drop o).take (len * z)).map (AV.res get n))).map (.vsl · len)
     | _ => none
   | .vptr cs => (za0 (cs.map (AV.res get n))).map .vptr
   | .vsl cs len => (za0 (cs.map (AV.res get n))).map (.vsl · len)
   | .func f a b => match za0 (a.map (AV.res get n)), za0 (b.map (AV.res get n)) with
     | some a, some b => some (.func f a b)
     | _, _ => none
   | .iface t v => (AV.res get n v).map (.iface t)
   | .agg cs => (za0 (cs.map (AV.res get n))).map .agg
   | .tuple cs => (za0 (cs.map (AV.res get n))).map .tuple
   | .map _ => none
   | v => some v
def Env.all (E : Env) (w : World) : Env := { E with K := fun B => match E.F B with | some _ => none | none => w.heap[B]? }
theorem all_ext {E : Env} {H : AHeap} {w : World} (hR : Rel E H w) : Ext E (E.all w) := by
 refine ⟨fun _ _ h => h, fun B o hB => ?_, rfl, rfl, rfl⟩
 have hF : E.F B = none := by
  rcases hR.KF B with e | e
  · rw [hB] at e; simp at e
  · exact e
 show (match E.F B with | some _ => none | none => w.heap[B]?) = some o
 rw [hF]; exact hR.K B o hB
theorem all_rel {E : Env} {H : AHeap} {w : World} (hR : Rel E H w) : Rel (E.all w) (AHeap.empty H.next) w := by
 refine ⟨hR.os, hR.out, fun B o hB => ?_, hR.F, fun B => ?_, hR.dom, fun i x hi => by simp [AHeap.empty] at hi, fun i j x y p q hi => by simp [AHeap.empty] at hi⟩
 · have hB : (match E.F B with | some _ => none | none => w.heap[B]?) = some o := hB
   split at hB
   · simp at hB
   · exact hB
 · cases hF : E.F B with
   | none => exact .inr hF
   | some o =>
     left
     show (match E.F B with | some _ => none | none => w.heap[B]?) = none
     rw [hF]
theorem live_ink {E : Env} {H : AHeap} {w : World} (hR : Rel E H w) {i : Nat} {cs : List AV} {p : Place} (hi : H.get i = some (.cells cs)) (hp : E.φ i = some p) (o : Nat) :
  ∃ vs, InK (E.all w) p.b (p.s + o) vs /\ VRels E (cs.drop o) vs := by
 obtain ⟨q, ob, h1, h2, h3, h4, c, e, fz, vs, rfl, _, h6, h7, _⟩ := hR.live i _ hi
 rw [hp] at h1; cases h1
 refine ⟨vs.drop o, .inr ⟨c, e, fz, ?_, ?_⟩, h6.drop o⟩
 · show (match E.F p.b with | some _ => none | none => w.heap[p.b]?) = _
   rw [h3]; exact h4
 · obtain ⟨t, ht⟩ := h7
   rw [<- List.drop_drop, <- ht]
   by_cases ho : o <= vs.length
   · rw [List.drop_append_of_le_length ho]; exact List.prefix_append _ _
   · rw [List.drop_of_length_le (by omega)]; exact List.nil_prefix
theorem zan {E' : Env} {E : Env} {get : Nat -> Option AObj} {n : Nat} (ih : ∀ v u r, VRel E v u -> v.res get n = some r -> VRel E' r u) : ∀ {vs us rs}, VRels E vs us -> za0 (vs.map (AV.res get n)) = some rs -> VRels E' rs us
 | [], us, rs, h, hr => by
   cases h
   simp [za0] at hr; subst hr; exact .nil
 | v :: vs, us, rs, h, hr => by
   cases h with
   | cons h t =>
     simp only [List.map_cons] at hr
     cases hv : AV.res get n v with
     | none => rw [hv] at hr; simp [za0] at hr
     | some a =>
       rw [hv] at hr
       simp only [za0, Option.map_eq_some_iff] at hr
       obtain ⟨l, hl, rfl⟩ := hr
       exact .cons (ih _ _ _ h hv) (zan ih t hl)
theorem VRel.res {E : Env} {H : AHeap} {w : World} (hR : Rel E H w) : ∀ (n : Nat) (v : AV) (u : Value) (r : AV), VRel E v u -> v.res H.get n = some r -> VRel (E.all w) r u
 | 0, v, u, r, _, hr => by simp [AV.res] at hr
 | n + 1, v, u, r, h, hr => by
   have ih := VRel.res hR n
   have hk := (all_ext hR).knows
   cases h with
   | bool b => simp [AV.res] at hr; subst hr; exact .bool b
   | int k m => simp [AV.res] at hr; subst hr; exact .int k m
   | str s => simp [AV.res] at hr; subst hr; exact .str s
   | nilptr => simp [AV.res] at hr; subst hr; exact .nilptr
   | nilsl => simp [AV.res] at hr; subst hr; exact .nilsl
   | nilmap => simp [AV.res] at hr; subst hr; exact .nilmap
   | nilfunc => simp [AV.res] at hr; subst hr; exact .nilfunc
   | niliface => simp [AV.res] at hr; subst hr; exact .niliface
   | map h => simp [AV.res] at hr
   | csl hK hv => simp [AV.res] at hr; subst hr; exact .csl (hK.mono hk) (VRels.mono hk hv)
   | vsl0 => simp [AV.res, za0] at hr; subst hr; exact .vsl0
   | @ptr i o p h =>
     simp only [AV.res] at hr
     split at hr <;> try (simp at hr; done)
     rename_i cs hi
     simp only [Option.map_eq_some_iff] at hr
     obtain ⟨rs, hr, rfl⟩ := hr
     obtain ⟨vs, h1, h2⟩ := live_ink hR hi h o
     exact .vptr h1 (zan ih h2 hr)
   | @sl i o z len cap c' opn p h hl hc ho hn =>
     simp only [AV.res] at hr
     split at hr <;> try (simp at hr; done)
     rename_i cs hi
     simp only [Option.map_eq_some_iff] at hr
     obtain ⟨rs, hr, rfl⟩ := hr
     obtain ⟨vs, h1, h2⟩ := live_ink hR hi h o
     refine .vsl (vs := vs.take (len * z)) ?_ (zan ih (h2.take _) hr) (Nat.le_trans hl hc)
     rcases h1 with h1 | ⟨c, e, f, g1, g2⟩
     · left; rw [h1]; simp
     · exact .inr ⟨c, e, f, g1, (List.take_prefix _ _).trans g2⟩
   | vptr hK hv =>
     simp only [AV.res, Option.map_eq_some_iff] at hr
     obtain ⟨rs, hr, rfl⟩ := hr
     exact .vptr (hK.mono hk) (zan ih hv hr)
   | vsl hK hv hl =>
     simp only [AV.res, Option.map_eq_some_iff] at hr
     obtain ⟨rs, hr, rfl⟩ := hr
     exact .vsl (hK.mono hk) (zan ih hv hr) hl
   | func hf hc =>
     simp only [AV.res] at hr
     split at hr <;> try (simp at hr; done)
     rename_i a b ha hb
     simp only [Option.some.injEq] at hr; subst hr
     exact .func (zan ih hf ha) (zan ih hc hb)
   | iface h =>
     simp only [AV.res, Option.map_eq_some_iff] at hr
     obtain ⟨rs, hr, rfl⟩ := hr
     exact .iface (ih _ _ _ h hr)
   | agg h =>
     simp only [AV.res, Option.map_eq_some_iff] at hr
     obtain ⟨rs, hr, rfl⟩ := hr
     exact .agg (zan ih h hr)
   | tuple h =>
     simp only [AV.res, Option.map_eq_some_iff] at hr
     obtain ⟨rs, hr, rfl⟩ := hr
     exact .tuple (zan ih h hr)
theorem Ghost.res {n m : Nat} {v r : AV} {H : AHeap} (h : v.res H.get m = some r) : Ghost n v H r (AHeap.empty H.next) := fun _ _ _ _ _ hx hv hR => ⟨_, hx.trans (all_ext hR), VRel.res hR _ _ _ _ hv h, all_rel hR⟩
noncomputable def litK (lit : AV) (v : AV) (H : FH) : Bool := match v.res H.abs.get 1000 with
 | some r => r.beq lit
 | none => false
theorem zaS {P : Program} {G : Nat -> Option AV} {ov : Ov} {f : FuncId} {fuel n : Nat} {args : List AV} {lit : AV} (hm : P.follows .mixedOrders = true) (hp : plainFn P = true) (hov : zau P G ov) (hG : ∀ g a, G g = some a -> a.idLt 0 = true)
  (ha : AV.allLt 0 args = true) (hl : lit.idLt 0 = true) (h : fcall ov P G fuel n f args FH.empty (litK lit) = true) (H : AHeap) : Does P G f args H fun r h => r = lit /\ h = H := by
 obtain ⟨v, H', hd, _, hk⟩ := fcall_sound hm hp hov n f args FH.empty _ h
 rw [FH.abs_empty] at hd
 unfold litK at hk
 split at hk <;> try (simp at hk; done)
 rename_i r hr
 have hk := AV.beq_eq _ _ hk
 subst hk
 have h1 : Does P G f args (AHeap.empty 0) fun x _ => x = r := hd.ghost fun x h ⟨h1, h2⟩ => ⟨r, AHeap.empty H'.abs.next, by subst h1; subst h2; exact Ghost.res hr, rfl⟩
 exact (h1.frame ha hG (fun x _ hx => by rw [hx]; exact hl) H).mono fun x h ⟨⟨_, h2⟩, h3⟩ => ⟨h2, h3⟩
noncomputable def litOv (tab : List (List AV × AV)) (args : List AV) (H : FH) (k : AV -> FH -> Bool) : Bool :=
 List.rec (motive := fun _ => Bool) false (fun e _ ih => ifK (AV.beqs e.1 args) (k e.2 H) ih) tab
theorem litOv_inv {args : List AV} {H : FH} {k : AV -> FH -> Bool} : ∀ {tab : List (List AV × AV)}, litOv tab args H k = true -> ∃ e ∈ tab, e.1 = args /\ k e.2 H = true
 | [], h => by have h : false = true := h; simp at h
 | e :: tab, h => by
   have h : ifK (AV.beqs e.1 args) (k e.2 H) (litOv tab args H k) = true := h
   cases hb : AV.beqs e.1 args with
   | true => rw [hb] at h; exact ⟨e, by simp, AV.beqs_eq _ _ hb, h⟩
   | false =>
     rw [hb] at h
     obtain ⟨e', h1, h2⟩ := litOv_inv (tab := tab) h
     exact ⟨e', by simp [h1], h2⟩
theorem litOv_good {P : Program} {G : Nat -> Option AV} {f : FuncId} {tab : List (List AV × AV)} (ht : ∀ e ∈ tab, ∀ H, Does P G f e.1 H fun r h => r = e.2 /\ h = H) (args : List AV) (H : FH) (k : AV -> FH -> Bool) (h : litOv tab args H k = true) :
  ∃ v H', Does P G f args H.abs (fun r h => r = v /\ h = FH.abs H') /\ H.next <= H'.next /\ k v H' = true := by
 obtain ⟨e, h1, rfl, h3⟩ := litOv_inv h
 exact ⟨e.2, H, ht e h1 H.abs, Nat.le_refl _, h3⟩
theorem VRel.resG {E E2 : Env} {get : Nat -> Option AObj} (hk : Knows E E2) (hlv : ∀ i cs p, get i = some (.cells cs) -> E.φ i = some p -> ∀ o, ∃ vs, InK E2 p.b (p.s + o) vs /\ VRels E (cs.drop o) vs) : ∀ (n : Nat) (v : AV) (u : Value) (r : AV), VRel E v u -> v.res get n = some r -> VRel E2 r u
 | 0, v, u, r, _, hr => by simp [AV.res] at hr
 | n + 1, v, u, r, h, hr => by
   have ih := VRel.resG hk hlv n
   cases h with
   | bool b => simp [AV.res] at hr; subst hr; exact .bool b
   | int k m => simp [AV.res] at hr; subst hr; exact .int k m
   | str s => simp [AV.res] at hr; subst hr; exact .str s
   | nilptr => simp [AV.res] at hr; subst hr; exact .nilptr
   | nilsl => simp [AV.res] at hr; subst hr; exact .nilsl
   | nilmap => simp [AV.res] at hr; subst hr; exact .nilmap
   | nilfunc => simp [AV.res] at hr; subst hr; exact .nilfunc
   | niliface => simp [AV.res] at hr; subst hr; exact .niliface
   | map h => simp [AV.res] at hr
   | csl hK hv => simp [AV.res] at hr; subst hr; exact .csl (hK.mono hk) (VRels.mono hk hv)
   | vsl0 => simp [AV.res, za0] at hr; subst hr; exact .vsl0
   | @ptr i o p h =>
     simp only [AV.res] at hr
     split at hr <;> try (simp at hr; done)
     rename_i cs hi
     simp only [Option.map_eq_some_iff] at hr
     obtain ⟨rs, hr, rfl⟩ := hr
     obtain ⟨vs, h1, h2⟩ := hlv _ _ _ hi h o
     exact .vptr h1 (zan ih h2 hr)
   | @sl i o z len cap c' opn p h hl hc ho hn =>
     simp only [AV.res] at hr
     split at hr <;> try (simp at hr; done)
     rename_i cs hi
     simp only [Option.map_eq_some_iff] at hr
     obtain ⟨rs, hr, rfl⟩ := hr
     obtain ⟨vs, h1, h2⟩ := hlv _ _ _ hi h o
     refine .vsl (vs := vs.take (len * z)) ?_ (zan ih (h2.take _) hr) (Nat.le_trans hl hc)
     rcases h1 with h1 | ⟨c, e, f, g1, g2⟩
     · left; rw [h1]; simp
     · exact .inr ⟨c, e, f, g1, (List.take_prefix _ _).trans g2⟩
   | vptr hK hv =>
     simp only [AV.res, Option.map_eq_some_iff] at hr
     obtain ⟨rs, hr, rfl⟩ := hr
     exact .vptr (hK.mono hk) (zan ih hv hr)
   | vsl hK hv hl =>
     simp only [AV.res, Option.map_eq_some_iff] at hr
     obtain ⟨rs, hr, rfl⟩ := hr
     exact .vsl (hK.mono hk) (zan ih hv hr) hl
   | func hf hc =>
     simp only [AV.res] at hr
     split at hr <;> try (simp at hr; done)
     rename_i a b ha hb
     simp only [Option.some.injEq] at hr; subst hr
     exact .func (zan ih hf ha) (zan ih hc hb)
   | iface h =>
     simp only [AV.res, Option.map_eq_some_iff] at hr
     obtain ⟨rs, hr, rfl⟩ := hr
     exact .iface (ih _ _ _ h hr)
   | agg h =>
     simp only [AV.res, Option.map_eq_some_iff] at hr
     obtain ⟨rs, hr, rfl⟩ := hr
     exact .agg (zan ih h hr)
   | tuple h =>
     simp only [AV.res, Option.map_eq_some_iff] at hr
     obtain ⟨rs, hr, rfl⟩ := hr
     exact .tuple (zan ih h hr)
noncomputable def Env.but (E : Env) (H2 : AHeap) (w : World) : Env := { E with K := fun B => match E.K B with
 | some o => some o
 | none => match E.F B with
   | some _ => none
   | none => by
     classical
     exact if (∃ i x p, H2.get i = some x /\ E.φ i = some p /\ p.b = B) then none else w.heap[B]? }
section
variable {E : Env} {H H2 : AHeap} {w : World}
theorem but_K {B : Nat} {o : Obj} (h : E.K B = some o) : (E.but H2 w).K B = some o := by
 show (match E.K B with | some o => some o | none => _) = some o
 rw [h]
theorem but_knows : Knows E (E.but H2 w) := ⟨fun _ _ h => h, fun _ _ h => but_K h⟩
theorem but_ext : Ext E (E.but H2 w) := ⟨fun _ _ h => h, fun _ _ h => but_K h, rfl, rfl, rfl⟩
theorem but_live (hR : Rel E H w) (hs : ∀ i x, H2.get i = some x -> H.get i = some x) {i : Nat} {x : AObj} {p : Place} (hx : H2.get i = some x) (hp : E.φ i = some p) : (E.but H2 w).K p.b = none := by
 obtain ⟨q, ob, h1, h2, h3, h4, h5⟩ := hR.live i x (hs i x hx)
 rw [hp] at h1; cases h1
 show (match E.K p.b with | some o => some o | none => _) = none
 rw [h2]
 show (match E.F p.b with | some _ => none | none => _) = none
 rw [h3]
 exact if_pos ⟨i, x, p, hx, hp, rfl⟩
theorem but_new (hR : Rel E H w) (hs : ∀ i x, H2.get i = some x -> H.get i = some x) {i : Nat} {x : AObj} {p : Place} (hx : H.get i = some x) (hn : H2.get i = none) (hp : E.φ i = some p) : (E.but H2 w).K p.b = w.heap[p.b]? := by
 obtain ⟨q, ob, h1, h2, h3, h4, h5⟩ := hR.live i x hx
 rw [hp] at h1; cases h1
 show (match E.K p.b with | some o => some o | none => _) = w.heap[p.b]?
 rw [h2]
 show (match E.F p.b with | some _ => none | none => _) = w.heap[p.b]?
 rw [h3]
 refine if_neg ?_
 rintro ⟨j, y, q, hy, hq, e⟩
 have := hR.inj j i y x q p (hs j y hy) hx hq hp e
 subst this
 rw [hn] at hy; simp at hy
theorem but_rel (hR : Rel E H w) (hs : ∀ i x, H2.get i = some x -> H.get i = some x) (hn : H2.next = H.next) : Rel (E.but H2 w) H2 w := by
 refine ⟨hR.os, hR.out, fun B o hB => ?_, hR.F, fun B => ?_, fun i p hp => by rw [hn]; exact hR.dom i p hp, fun i x hi => ?_, fun i j x y p q hi hj => hR.inj i j x y p q (hs i x hi) (hs j y hj)⟩
 · have hB : (match E.K B with | some o => some o | none => match E.F B with | some _ => none | none => by classical exact if (∃ i x p, H2.get i = some x /\ E.φ i = some p /\ p.b = B) then none else w.heap[B]?) = some o := hB
   split at hB
   · rename_i o' h; cases hB; exact hR.K B o h
   · split at hB
     · simp at hB
     · split at hB
       · simp at hB
       · exact hB
 · cases hF : E.F B with
   | none => exact .inr hF
   | some o =>
     left
     rcases hR.KF B with e | e
     · show (match E.K B with | some o => some o | none => match E.F B with | some _ => none | none => _) = none
       rw [e, hF]
     · rw [hF] at e; simp at e
 · obtain ⟨p, ob, h1, h2, h3, h4, h5⟩ := hR.live i x (hs i x hi)
   exact ⟨p, ob, h1, but_live hR hs hi h1, h3, h4, h5.mono but_knows⟩
theorem but_ink (hR : Rel E H w) (hs : ∀ i x, H2.get i = some x -> H.get i = some x) {i : Nat} {cs : List AV} {p : Place} (hi : H.get i = some (.cells cs)) (hn : H2.get i = none) (hp : E.φ i = some p) (o : Nat) :
  ∃ vs, InK (E.but H2 w) p.b (p.s + o) vs /\ VRels E (cs.drop o) vs := by
 have hK := but_new hR hs hi hn hp
 obtain ⟨q, ob, h1, h2, h3, h4, c, e, fz, vs, rfl, _, h6, h7, _⟩ := hR.live i _ hi
 rw [hp] at h1; cases h1
 refine ⟨vs.drop o, .inr ⟨c, e, fz, hK.trans h4, ?_⟩, h6.drop o⟩
 obtain ⟨t, ht⟩ := h7
 rw [<- List.drop_drop, <- ht]
 by_cases ho : o <= vs.length
 · rw [List.drop_append_of_le_length ho]; exact List.prefix_append _ _
 · rw [List.drop_of_length_le (by omega)]; exact List.nil_prefix
end
def offGet (g g2 : Nat -> Option AObj) (i : Nat) : Option AObj := match g2 i with
 | some _ => none
 | none => g i
theorem Does.asFrozen {P : Program} {G : Nat -> Option AV} {f : FuncId} {args rargs : List AV} {H H2 : AHeap} {Q : AV -> AHeap -> Prop} {n : Nat} (hs : ∀ i x, H2.get i = some x -> H.get i = some x) (hn : H2.next = H.next)
  (hr : za0 (args.map (AV.res (offGet H.get H2.get) n)) = some rargs) (h : Does P G f rargs H2 Q) : Does P G f args H Q :=
 ⟨fun E w vs hR hG hv => by
  have hv2 : VRels (E.but H2 w) rargs vs := zan (VRel.resG but_knows (fun i cs p hi hp o => by
   unfold offGet at hi
   split at hi
   · simp at hi
   · rename_i h2
     exact but_ink hR hs hi h2 hp o) n) hv hr
  refine (h.run (E.but H2 w) w vs (but_rel hR hs hn) (hG.mono but_knows) hv2).mono fun v w' ⟨r, H', E', g, e2, e3, e4⟩ => ?_
  exact ⟨r, H', E', g, but_ext.trans e2, e3, e4⟩⟩
def AV.refs (get : Nat -> Option AObj) : Nat -> AV -> List Nat
 | 0, _ => []
 | n + 1, v => match v with
   | .ptr i o => match get i with
     | some (.cells cs) => i :: (cs.drop o).flatMap (AV.refs get n)
     | _ => []
   | .sl i o z len _ _ => match get i with
     | some (.cells cs) => i :: ((cs.drop o).take (len * z)).flatMap (AV.refs get n)
     | _ => []
   | .vptr cs => cs.flatMap (AV.refs get n)
   | .vsl cs _ => cs.flatMap (AV.refs get n)
   | .iface _ v => AV.refs get n v
   | .agg cs => cs.flatMap (AV.refs get n)
   | .tuple cs => cs.flatMap (AV.refs get n)
   | _ => []
noncomputable def killsK : List Nat -> FH -> (FH -> Bool) -> Bool :=
 fun l => List.rec (motive := fun _ => FH -> (FH -> Bool) -> Bool) (fun H k => k H) (fun i _ ih H k => H.killK i (fun H => ih H k) false) l
theorem killsK_inv : ∀ {l : List Nat} {H : FH} {k : FH -> Bool}, killsK l H k = true -> ∃ H' : FH, (∀ i x, H'.abs.get i = some x -> H.abs.get i = some x) /\ H'.abs.next = H.abs.next /\ k H' = true
 | [], H, k, h => ⟨H, fun _ _ h => h, rfl, h⟩
 | i :: l, H, k, h => by
   have h : H.killK i (fun H => killsK l H k) false = true := h
   obtain ⟨H1, h1, h2⟩ := FH.killK_inv h
   obtain ⟨H', h3, h4, h5⟩ := killsK_inv h2
   refine ⟨H', fun j x hj => ?_, by rw [h4, h1]; rfl, h5⟩
   have := h3 j x hj
   rw [h1] at this
   have this : (if j = i then none else H.abs.get j) = some x := this
   split at this
   · simp at this
   · exact this
noncomputable def resOv (tab : List (List AV × AV)) (args : List AV) (H : FH) (k : AV -> FH -> Bool) : Bool :=
 killsK (args.flatMap (AV.refs H.abs.get 1000)) H fun H2 => match za0 (args.map (AV.res (offGet H.abs.get H2.abs.get) 1000)) with
  | some rargs => litOv tab rargs H2 k
  | none => false
theorem resOv_good {P : Program} {G : Nat -> Option AV} {f : FuncId} {tab : List (List AV × AV)} (ht : ∀ e ∈ tab, ∀ H, Does P G f e.1 H fun r h => r = e.2 /\ h = H) (args : List AV) (H : FH) (k : AV -> FH -> Bool) (h : resOv tab args H k = true) :
  ∃ v H', Does P G f args H.abs (fun r h => r = v /\ h = FH.abs H') /\ H.next <= H'.next /\ k v H' = true := by
 unfold resOv at h
 obtain ⟨H2, h1, h2, h⟩ := killsK_inv h
 split at h <;> try (simp at h; done)
 rename_i rargs hr
 obtain ⟨e, h3, rfl, h5⟩ := litOv_inv h
 exact ⟨e.2, H2, Does.asFrozen h1 h2 hr (ht e h3 _), Nat.le_of_eq h2.symm, h5⟩
variable {P : Program} {G : Nat -> Option AV}
noncomputable def isInt (v : AV) (k : IntKind) (n : Int) : Bool := v.onInt false fun k' n' => decide (k' = k) && decide (n' = n)
theorem isInt_inv {v : AV} {k : IntKind} {n : Int} (h : isInt v k n = true) : v = .int k n := by
 rcases AV.onInt_inv h with ⟨k', n', rfl, h⟩ | ⟨h, _⟩
 · have h : (decide (k' = k) && decide (n' = n)) = true := h
   simp only [Bool.and_eq_true, decide_eq_true_eq] at h
   obtain ⟨rfl, rfl⟩ := h; rfl
 · simp at h
theorem Rel.cellF {E : Env} {H : AHeap} {w : World} (h : Rel E H w) {i : Nat} {cs : List AV} (hi : H.get i = some (.cells cs)) {p : Place} (hp : E.φ i = some p) {o : Nat} {a : AV} (ho : cs[o]? = some a) :
  ∃ v, w.cell? ⟨p.b, p.s + o, none⟩ = some v /\ VRel E a v /\ w.frozen? ⟨p.b, p.s + o, none⟩ = false := by
 obtain ⟨v, h1, h2⟩ := h.cell hi hp ho
 obtain ⟨c, fz, vs, k1, k2, k3, k4, k5, _, _⟩ := h.cellsOf' hi hp
 have hl := k3.length
 have hpl := k4.length_le
 simp only [List.length_drop, Array.length_toList] at hpl
 have ho' : o < cs.length := (List.getElem?_eq_some_iff.1 ho).1
 exact ⟨v, h1, h2, frozen?_of k1 (k5.out _ (by omega))⟩
structure IsLoad (P : Program) (f : FuncId) (k : IntKind) : Prop where
 run : ∀ (a : Addr) (x : Int) (w : World), w.cell? a = some (.int k x) -> (callFunc f #[.pointer (some a)]).run P w = .ok (.value (.int k x)) w
theorem load_does {f : FuncId} {k : IntKind} (hf : IsLoad P f k) {H : AHeap} {i o : Nat} {cs : List AV} {x : Int} (hi : H.get i = some (.cells cs)) (ho : cs[o]? = some (.int k x)) :
  Does P G f [.ptr i o] H fun r h => r = .int k x /\ h = H := by
 refine ⟨fun E w vs hR hG hv => ?_⟩
 cases hv with | cons ha hv =>
 cases hv
 cases ha with | ptr hp =>
 obtain ⟨v, h1, h2⟩ := hR.cell hi hp ho
 cases h2
 exact .inr ⟨_, _, hf.run _ _ _ h1, .int k x, H, E, ⟨rfl, rfl⟩, Ext.refl E, .int _ _, hR⟩
noncomputable def loadOv (kd : IntKind) (args : List AV) (H : FH) (k : AV -> FH -> Bool) : Bool :=
 nthK args 0 (fun a => ifK (Nat.beq (lenN args) 1) (a.onPtr false (fun i o => H.atK i (fun b => b.cellK o (fun v => v.onInt false fun k' n => ifK (decide (k' = kd)) (k (.int kd n) H) false) false) false) (fun _ => false)) false) false
theorem loadOv_good {f : FuncId} {kd : IntKind} (hf : IsLoad P f kd) (args : List AV) (H : FH) (k : AV -> FH -> Bool) (h : loadOv kd args H k = true) :
  ∃ v H', Does P G f args H.abs (fun r h => r = v /\ h = FH.abs H') /\ H.next <= H'.next /\ k v H' = true := by
 unfold loadOv at h
 rw [zaQ] at h
 split at h <;> try (simp at h; done)
 rename_i a ha
 obtain ⟨hl, h⟩ := zaa h
 have hl := Nat.eq_of_beq_eq_true hl
 rw [zap] at hl
 obtain rfl : args = [a] := by
  match args, hl with
  | [x], _ => simp at ha; subst ha; rfl
 rcases AV.onPtr_inv h with ⟨i, o, rfl, h⟩ | ⟨cs, _, h⟩
 case inr => simp at h
 obtain ⟨b, hb, h, _⟩ := FH.atK_inv h
 obtain ⟨v, hv, h⟩ := FObj.cellK_inv h
 rcases AV.onInt_inv h with ⟨k', n, rfl, h⟩ | ⟨h, _⟩
 case inr => simp at h
 obtain ⟨hk, h⟩ := zaa h
 have hk := of_decide_eq_true hk
 subst hk
 exact ⟨_, H, load_does hf hb hv, Nat.le_refl _, h⟩
structure IsAdd (P : Program) (f : FuncId) (k : IntKind) : Prop where
 run : ∀ (a : Addr) (x y : Int) (w : World), w.cell? a = some (.int k x) -> w.frozen? a = false -> (callFunc f #[.pointer (some a), .int k y]).run P w = .ok (.value (.int k (k.wrap (x + y)))) (w.setCell a (.int k (k.wrap (x + y))))
theorem add_does {f : FuncId} {k : IntKind} (hf : IsAdd P f k) {H : AHeap} {i o : Nat} {cs : List AV} {x y : Int} (hi : H.get i = some (.cells cs)) (ho : cs[o]? = some (.int k x)) :
  Does P G f [.ptr i o, .int k y] H fun r h => r = .int k (k.wrap (x + y)) /\ h = H.set i (.cells (cs.set o (.int k (k.wrap (x + y))))) := by
 refine ⟨fun E w vs hR hG hv => ?_⟩
 cases hv with | cons ha hv =>
 cases hv with | cons hb hv =>
 cases hv
 cases hb
 cases ha with | ptr hp =>
 obtain ⟨v, h1, h2, h3⟩ := hR.cellF hi hp ho
 cases h2
 have hw := (hR.write hi hp (List.getElem?_eq_some_iff.1 ho).1 (VRel.int (E := E) k (k.wrap (x + y))) rfl P).2
 exact .inr ⟨_, _, hf.run _ _ _ _ h1 h3, _, _, E, ⟨rfl, rfl⟩, Ext.refl E, .int _ _, hw⟩
noncomputable def addOv (kd : IntKind) (args : List AV) (H : FH) (k : AV -> FH -> Bool) : Bool :=
 nthK args 0 (fun a => nthK args 1 (fun b => ifK (Nat.beq (lenN args) 2) (a.onPtr false (fun i o => b.onInt false fun kb y => ifK (decide (kb = kd)) (H.atK i (fun x => x.cellK o (fun v => v.onInt false fun k' n => ifK (decide (k' = kd))
  (intK (kd.wrap (n + y)) fun s => x.wr1 o (.int kd s) (fun x => H.putK i x fun H => k (.int kd s) H) false) false) false) false) false) (fun _ => false)) false) false) false
theorem addOv_good {f : FuncId} {kd : IntKind} (hf : IsAdd P f kd) (args : List AV) (H : FH) (k : AV -> FH -> Bool) (h : addOv kd args H k = true) :
  ∃ v H', Does P G f args H.abs (fun r h => r = v /\ h = FH.abs H') /\ H.next <= H'.next /\ k v H' = true := by
 unfold addOv at h
 rw [zaQ] at h
 split at h <;> try (simp at h; done)
 rename_i a ha
 rw [zaQ] at h
 split at h <;> try (simp at h; done)
 rename_i b hb
 obtain ⟨hl, h⟩ := zaa h
 have hl := Nat.eq_of_beq_eq_true hl
 rw [zap] at hl
 obtain rfl : args = [a, b] := by
  match args, hl with
  | [x, y], _ => simp at ha hb; subst ha; subst hb; rfl
 rcases AV.onPtr_inv h with ⟨i, o, rfl, hA⟩ | ⟨cs, _, h⟩
 case inr => simp at h
 rcases AV.onInt_inv hA with ⟨kb, y, rfl, hB⟩ | ⟨h, _⟩
 case inr => simp at h
 obtain ⟨hk, h⟩ := zaa hB
 have hk := of_decide_eq_true hk
 subst hk
 obtain ⟨x, hx, h, hi⟩ := FH.atK_inv h
 obtain ⟨v, hv, h⟩ := FObj.cellK_inv h
 rcases AV.onInt_inv h with ⟨k', n, rfl, h⟩ | ⟨h, _⟩
 case inr => simp at h
 obtain ⟨hk, h⟩ := zaa h
 have hk := of_decide_eq_true hk
 subst hk
 rw [intK_eq] at h
 obtain ⟨h1, x2, hx2, h⟩ := FObj.wr1_inv h
 obtain ⟨H', hH, h⟩ := FH.putK_inv hi h
 refine ⟨_, H', (add_does hf hx hv).mono fun r h' ⟨g1, g2⟩ => ⟨g1, ?_⟩, ?_, h⟩
 · rw [g2, hH]
   simp only [FObj.abs, hx2]
 · have := congrArg AHeap.next hH
   simp only [AHeap.set] at this
   have e : H'.next = H.next := this
   omega
structure IsSlow (P : Program) (f : FuncId) : Prop where
 enters : Enters P f
 run : ∀ (b o : Nat) (fn : Fn) (first cap : Array Value) (w : World) (K : World -> Prop), w.cell? ⟨b, o, none⟩ = some (.int .u32 0) -> w.cell? ⟨b, o + 1, none⟩ = some (.int .i32 0) -> w.frozen? ⟨b, o, none⟩ = false -> w.frozen? ⟨b, o + 1, none⟩ = false ->
  (∃ g, fn = .func g /\ OpCalls P g (first ++ cap) (w.setCell ⟨b, o + 1, none⟩ (.int .i32 1)) fun _ w2 => K w2) ->
  (∀ w2, K w2 -> w2.cell? ⟨b, o, none⟩ = some (.int .u32 0) /\ w2.cell? ⟨b, o + 1, none⟩ = some (.int .i32 1) /\ w2.frozen? ⟨b, o, none⟩ = false /\ w2.frozen? ⟨b, o + 1, none⟩ = false) ->
  Calls P f #[.pointer (some ⟨b, o, none⟩), .func fn first cap] w fun e w' => e = .returned (.tuple #[]) /\ ∃ w2, K w2 /\ w' = (w2.drew.setCell ⟨b, o, none⟩ (.int .u32 1)).setCell ⟨b, o + 1, none⟩ (.int .i32 0)
theorem slow_does {f g : FuncId} (hf : IsSlow P f) {H H2 : AHeap} {i o : Nat} {cs cs2 first cap : List AV} (hi : H.get i = some (.cells cs)) (h0 : cs[o]? = some (.int .u32 0)) (h1 : cs[o + 1]? = some (.int .i32 0))
  (hg : Does P G g (first ++ cap) (H.set i (.cells (cs.set (o + 1) (.int .i32 1)))) fun _ h => h = H2) (hi2 : H2.get i = some (.cells cs2)) (k0 : cs2[o]? = some (.int .u32 0)) (k1 : cs2[o + 1]? = some (.int .i32 1)) :
  Does P G f [.ptr i o, .func (.func g) first cap] H fun r h => r = .tuple [] /\ h = H2.set i (.cells ((cs2.set o (.int .u32 1)).set (o + 1) (.int .i32 0))) := by
 refine ⟨fun E w vs hR hG hv => ?_⟩
 cases hv with | cons ha hv =>
 cases hv with | cons hb hv =>
 cases hv
 cases hb with | func hf1 hc1 =>
 rename_i f2 c2
 cases ha with | ptr hp =>
 rename_i p
 obtain ⟨v0, a1, a2, a3⟩ := hR.cellF hi hp h0
 cases a2
 obtain ⟨v1, b1, b2, b3⟩ := hR.cellF hi hp h1
 cases b2
 have hl1 := (List.getElem?_eq_some_iff.1 h1).1
 have hR1 := (hR.write hi hp hl1 (VRel.int (E := E) .i32 1) rfl P).2
 have hall : VRels E (first ++ cap) (f2 ++ c2).toList := by
  rw [Array.toList_append]; exact hf1.append hc1
 have hcall := hg.run E _ _ hR1 hG hall
 refine .inl ⟨hf.enters _ _, (hf.run p.b (p.s + o) (.func g) f2 c2 w (fun w2 => ∃ E', Ext E E' /\ Rel E' H2 w2) a1 b1 a3 b3 ⟨g, rfl, ?_⟩ ?_).mono ?_⟩
 · refine OpCalls.mono hcall ?_
   rintro v w' ⟨r, H', E', rfl, g1, g2, g3⟩
   exact ⟨E', g1, g3⟩
 · rintro w2 ⟨E', g1, g3⟩
   have hp' := g1.φ _ _ hp
   obtain ⟨v0, a1, a2, a3⟩ := g3.cellF hi2 hp' k0
   cases a2
   obtain ⟨v1, b1, b2, b3⟩ := g3.cellF hi2 hp' k1
   cases b2
   exact ⟨a1, b1, a3, b3⟩
 · rintro e w' ⟨rfl, w2, ⟨E', g1, g3⟩, rfl⟩
   have hp' := g1.φ _ _ hp
   have l0 := (List.getElem?_eq_some_iff.1 k0).1
   have l1 := (List.getElem?_eq_some_iff.1 k1).1
   have q1 := (g3.drew.write hi2 hp' l0 (VRel.int (E := E') .u32 1) rfl P).2
   have hi3 : (H2.set i (.cells (cs2.set o (.int .u32 1)))).get i = some (.cells (cs2.set o (.int .u32 1))) := AHeap.get_set_same _ _ _
   have q2 := (q1.write hi3 hp' (o := o + 1) (by simpa using l1) (VRel.int (E := E') .i32 0) rfl P).2
   rw [AHeap.set_set] at q2
   exact ⟨_, rfl, .tuple [], _, E', ⟨rfl, rfl⟩, g1, .tuple .nil, q2⟩
noncomputable def onceOv (ov : Ov) (P : Program) (G : Nat -> Option AV) (fuel n : Nat) (args : List AV) (H : FH) (k : AV -> FH -> Bool) : Bool :=
 nthK args 0 (fun a => nthK args 1 (fun b => ifK (Nat.beq (lenN args) 2) (a.onPtr false (fun i o => b.onFunc false fun fn first cap => match fn with
  | .func g => H.atK i (fun x => x.cellK o (fun v => ifK (isInt v .u32 0) (x.cellK (o + 1) (fun v => ifK (isInt v .i32 0)
    (x.wr1 (o + 1) (.int .i32 1) (fun x => H.putK i x fun H => fcall ov P G fuel n g (first ++ cap) H fun _ H2 =>
      H2.atK i (fun y => y.cellK o (fun v => ifK (isInt v .u32 0) (y.cellK (o + 1) (fun v => ifK (isInt v .i32 1)
       (y.wr1 o (.int .u32 1) (fun y => y.wr1 (o + 1) (.int .i32 0) (fun y => H2.putK i y fun H => k (.tuple []) H) false) false) false) false) false) false) false) false) false) false) false) false) false
  | _ => false) (fun _ => false)) false) false) false
theorem onceOv_good {ov : Ov} {f : FuncId} {fuel n : Nat} (hm : P.follows .mixedOrders = true) (hp : plainFn P = true) (hov : zau P G ov) (hf : IsSlow P f) (args : List AV) (H : FH) (k : AV -> FH -> Bool) (h : onceOv ov P G fuel n args H k = true) :
  ∃ v H', Does P G f args H.abs (fun r h => r = v /\ h = FH.abs H') /\ H.next <= H'.next /\ k v H' = true := by
 unfold onceOv at h
 rw [zaQ] at h
 split at h <;> try (simp at h; done)
 rename_i a ha
 rw [zaQ] at h
 split at h <;> try (simp at h; done)
 rename_i b hb
 obtain ⟨hl, h⟩ := zaa h
 have hl := Nat.eq_of_beq_eq_true hl
 rw [zap] at hl
 obtain rfl : args = [a, b] := by
  match args, hl with
  | [x, y], _ => simp at ha hb; subst ha; subst hb; rfl
 rcases AV.onPtr_inv h with ⟨i, o, rfl, hA⟩ | ⟨cs, _, h⟩
 case inr => simp at h
 obtain ⟨fn, first, cap, rfl, hB⟩ := AV.onFunc_inv hA
 cases fn with
 | func g =>
 obtain ⟨x, hx, hC, hi⟩ := FH.atK_inv hB
 obtain ⟨v0, h0, hD⟩ := FObj.cellK_inv hC
 obtain ⟨e0, hE⟩ := zaa hD
 have e0 := isInt_inv e0
 subst e0
 obtain ⟨v1, h1, hF⟩ := FObj.cellK_inv hE
 obtain ⟨e1, hG'⟩ := zaa hF
 have e1 := isInt_inv e1
 subst e1
 obtain ⟨_, x2, hx2, hI⟩ := FObj.wr1_inv hG'
 obtain ⟨H1, hH1, hJ⟩ := FH.putK_inv hi hI
 obtain ⟨v, H2, hd, hn, hK⟩ := fcall_sound hm hp hov n g _ H1 _ hJ
 obtain ⟨y, hy, hL, _⟩ := FH.atK_inv hK
 obtain ⟨v2, h2, hM⟩ := FObj.cellK_inv hL
 obtain ⟨e2, hN⟩ := zaa hM
 have e2 := isInt_inv e2
 subst e2
 obtain ⟨v3, h3, hO⟩ := FObj.cellK_inv hN
 obtain ⟨e3, hP⟩ := zaa hO
 have e3 := isInt_inv e3
 subst e3
 obtain ⟨_, y2, hy2, hQ⟩ := FObj.wr1_inv hP
 obtain ⟨_, y3, hy3, hR⟩ := FObj.wr1_inv hQ
 obtain ⟨H3, hH3, hS⟩ := FH.putK_inv hi hR
 have n1 : H1.next = H.next := by have := congrArg AHeap.next hH1; exact this
 have n3 : H3.next = H2.next := by have := congrArg AHeap.next hH3; exact this
 refine ⟨_, H3, (slow_does hf (H2 := H2.abs) (cs2 := y.list) hx h0 h1 ?_ hy h2 h3).mono fun r h' ⟨g1, g2⟩ => ⟨g1, ?_⟩, by omega, hS⟩
 · have e : H.abs.set i (.cells (x.list.set (o + 1) (.int .i32 1))) = H1.abs := by rw [hH1]; simp only [FObj.abs, hx2]
   rw [e]
   exact hd.mono fun r h' ⟨_, g2⟩ => g2
 · rw [g2, hH3]
   simp only [FObj.abs, hy3, hy2]
 | _ => simp at hB
end Go.Abs
namespace Go.Proofs.YtjfgldopgijonaaGreatDoor
open Go Go.Abs
theorem fl_disable (w : World) : (callFunc 241 #[]).run Tryz.prog w = .ok (.value (.tuple #[])) w := run_call_mark0 Tryz.func241 (by kernel_rfl) (by kernel_rfl) (by kernel_rfl) .disable (by kernel_rfl) w
theorem fl_enable (w : World) : (callFunc 243 #[]).run Tryz.prog w = .ok (.value (.tuple #[])) w := run_call_mark0 Tryz.func243 (by kernel_rfl) (by kernel_rfl) (by kernel_rfl) .enable (by kernel_rfl) w
theorem fl_acquire (a : Addr) (w : World) : (callFunc 244 #[.pointer (some a)]).run Tryz.prog w = .ok (.value (.tuple #[])) w := run_call_marked Tryz.func244 (by kernel_rfl) (by kernel_rfl) (by kernel_rfl) .acquire (by kernel_rfl) a w
theorem fl_merge (a : Addr) (w : World) : (callFunc 246 #[.pointer (some a)]).run Tryz.prog w = .ok (.value (.tuple #[])) w := run_call_marked Tryz.func246 (by kernel_rfl) (by kernel_rfl) (by kernel_rfl) .releaseMerge (by kernel_rfl) a w
theorem fl_stored (a : Addr) (x : Value) (u : FrameMode) (w : World) (hc : w.cell? a = some x) (hz : w.frozen? a = false) :
  CallsD Tryz.prog 101 #[.pointer (some a), .bool true] u w fun e u' w' => u' = u /\ (e = .returned (.tuple #[]) /\ w' = w.drew.setCell a (.int .u32 1)) := by
 have hc' : w.drew.cell? a = some x := by go_simp
 have hz' : w.drew.frozen? a = false := by go_simp
 have hst := run_call_store (P := Tryz.prog) Tryz.func163 (by kernel_rfl) (by kernel_rfl) (by kernel_rfl) (by kernel_rfl) (k := .u32) (y := 1) hc' hz'
 go_enter_d Tryz.func101, Tryz.ntmps101
 go_wp2
 go_region_calls
 all_goals (go_end0; exact ⟨rfl, rfl⟩)
theorem fl_unlock0 (a : Addr) (w : World) (hc : w.cell? a = some (.int .i32 1)) (hz : w.frozen? a = false) :
  Calls Tryz.prog 162 #[.pointer (some a)] w fun e w' => e = .returned (.tuple #[]) /\ w' = w.setCell a (.int .i32 0) := by
 have hd := fl_disable
 have he := fl_enable
 have hr := fl_merge
 have hadd := run_call_add (P := Tryz.prog) Tryz.func247 (by kernel_rfl) (by kernel_rfl) (by kernel_rfl) .i32 (by kernel_rfl) (y := -1) (s := 0) hc hz (by simp [go_sem]; rfl)
 have hcv := run_convert_to_unsafe (P := Tryz.prog) (src := 381) (dst := 385) Tryz.underlying381 Tryz.underlying385 (by kernel_rfl) hc
 go_enter Tryz.func162, Tryz.ntmps162
 go_wp2
 go_end0
 go_wp2
 all_goals (go_end0; exact ⟨rfl, rfl⟩)
theorem fl_lock0 (a : Addr) (w : World) (hc : w.cell? a = some (.int .i32 0)) (hz : w.frozen? a = false) :
  Calls Tryz.prog 161 #[.pointer (some a)] w fun e w' => e = .returned (.tuple #[]) /\ w' = w.setCell a (.int .i32 1) := by
 have hd := fl_disable
 have he := fl_enable
 have ha := fl_acquire
 have hcas := run_call_cas_hit (P := Tryz.prog) Tryz.func242 (by kernel_rfl) (by kernel_rfl) (by kernel_rfl) .i32 (by kernel_rfl) (y := 1) hc hz
 have hc' : (w.setCell a (.int .i32 1)).cell? a = some (.int .i32 1) := World.cell?_setCell_same w a _ hc
 have hcv := run_convert_to_unsafe (P := Tryz.prog) (src := 381) (dst := 385) Tryz.underlying381 Tryz.underlying385 (by kernel_rfl) hc'
 go_enter Tryz.func161, Tryz.ntmps161
 go_wp2
 first | go_end0 | (simp only [Exit.inBlock, Exit.then]; refine bodyPost_ret (results_none rfl _ _ _) rfl ?_) | refine bodyPost_ret (results_none rfl _ _ _) rfl ?_
 go_wp2
 all_goals (go_end0; exact ⟨rfl, rfl⟩)
theorem fl_lock (a : Addr) (w : World) (hc : w.cell? a = some (.int .i32 0)) (hz : w.frozen? a = false) (hs : a.spot = none) :
  Calls Tryz.prog 99 #[.pointer (some a)] w fun e w' => e = .returned (.tuple #[]) /\ w' = w.setCell a (.int .i32 1) := by
 obtain ⟨b, o, s⟩ := a
 obtain rfl : s = none := hs
 have hl := fl_lock0 ⟨b, o, none⟩ w hc hz
 go_enter Tryz.func99, Tryz.ntmps99
 go_wp2_with (go_at_call 161; refine hl.mono ?_; rintro e w' ⟨rfl, rfl⟩)
 all_goals (go_end0; exact ⟨rfl, rfl⟩)
theorem fl_unlocked (a : Addr) (u : FrameMode) (w : World) (hc : w.cell? a = some (.int .i32 1)) (hz : w.frozen? a = false) (hs : a.spot = none) :
  CallsD Tryz.prog 100 #[.pointer (some a)] u w fun e u' w' => u' = u /\ (e = .returned (.tuple #[]) /\ w' = w.setCell a (.int .i32 0)) := by
 obtain ⟨b, o, s⟩ := a
 obtain rfl : s = none := hs
 have hl := fl_unlock0 ⟨b, o, none⟩ w hc hz
 go_enter_d Tryz.func100, Tryz.ntmps100
 go_wp2_with (go_at_call 162; refine hl.mono ?_; rintro e w' ⟨rfl, rfl⟩)
 all_goals (go_end0; exact ⟨rfl, rfl⟩)
end Go.Proofs.YtjfgldopgijonaaGreatDoor
namespace Go.Abs
open Go
mutual
def AV.plain : AV -> Bool
 | .bool _ | .int _ _ | .str _ | .nilptr | .nilsl | .nilmap | .nilfunc | .niliface => true
 | .agg cs => AV.plains cs
 | .tuple cs => AV.plains cs
 | _ => false
def AV.plains : List AV -> Bool
 | [] => true
 | a :: l => AV.plain a && AV.plains l
end
mutual
theorem VRel.plain {E E' : Env} : ∀ {a : AV} {v : Value}, VRel E a v -> a.plain = true -> VRel E' a v
 | _, _, .bool b, _ => .bool b
 | _, _, .int k n, _ => .int k n
 | _, _, .str s, _ => .str s
 | _, _, .nilptr, _ => .nilptr
 | _, _, .nilsl, _ => .nilsl
 | _, _, .nilmap, _ => .nilmap
 | _, _, .nilfunc, _ => .nilfunc
 | _, _, .niliface, _ => .niliface
 | _, _, .agg h, p => .agg (VRels.plain h p)
 | _, _, .tuple h, p => .tuple (VRels.plain h p)
theorem VRels.plain {E E' : Env} : ∀ {a : List AV} {v : List Value}, VRels E a v -> AV.plains a = true -> VRels E' a v
 | _, _, .nil, _ => .nil
 | _, _, .cons h t, p => by
   simp only [AV.plains, Bool.and_eq_true] at p
   exact .cons (VRel.plain h p.1) (VRels.plain t p.2)
end
inductive Lent (get : Nat -> Option AObj) (n : Nat) : List AV -> List AV -> Prop
 | nil : Lent get n [] []
 | keep (a : AV) {l r : List AV} (h : Lent get n l r) : Lent get n (a :: l) (a :: r)
 | res {a b : AV} {l r : List AV} (e : AV.res get n a = some b) (h : Lent get n l r) : Lent get n (a :: l) (b :: r)
theorem Lent.rel {E : Env} {H : AHeap} {w : World} (hR : Rel E H w) {n : Nat} : ∀ {l r : List AV} {vs : List Value}, Lent H.get n l r -> VRels E l vs -> VRels (E.all w) r vs
 | _, _, _, .nil, .nil => .nil
 | _, _, _, .keep _ h, .cons h1 t => .cons (h1.mono (all_ext hR).knows) (Lent.rel hR h t)
 | _, _, _, .res e h, .cons h1 t => .cons (VRel.res hR n _ _ _ h1 e) (Lent.rel hR h t)
theorem Does.borrow {P : Program} {G : Nat -> Option AV} {f : FuncId} {args rargs : List AV} {H : AHeap} {n : Nat} {R : AV -> AHeap -> Prop}
  (hr : Lent H.get n args rargs) (h : Does P G f rargs (AHeap.empty H.next) R) (hp : ∀ r H1, R r H1 -> r.plain = true) :
  Does P G f args H fun r h => (∃ H1, R r H1) /\ h = H :=
 ⟨fun E w vs hR hG hv => by
  have hv2 : VRels (E.all w) rargs vs := Lent.rel hR hr hv
  refine (h.run (E.all w) w vs (all_rel hR) (hG.mono (all_ext hR).knows) hv2).mono ?_
  rintro v w' ⟨r, H1, E1, g1, g2, g3, g4⟩
  have hK : ∀ B o, E.F B = none -> w.heap[B]? = some o -> w'.heap[B]? = some o := fun B o hF hB => by
   refine g4.K B o (g2.K B o ?_)
   show (match E.F B with | some _ => none | none => w.heap[B]?) = some o
   rw [hF]; exact hB
  refine ⟨r, H, E, ⟨⟨H1, g1⟩, rfl⟩, ⟨fun _ _ h => h, fun _ _ h => h, rfl, rfl, rfl⟩, VRel.plain g3 (hp r H1 g1), ?_⟩
  refine ⟨g4.os.trans g2.os, g4.out.trans g2.out, fun B o hB => ?_, fun B o hB => ?_, hR.KF, hR.dom, fun i x hi => ?_, hR.inj⟩
  · rcases hR.KF B with e | e
    · rw [e] at hB; simp at hB
    · exact hK B o e (hR.K B o hB)
  · exact g4.F B o (by rw [g2.F]; exact hB)
  · obtain ⟨p, ob, h1, h2, h3, h4, h5⟩ := hR.live i x hi
    exact ⟨p, ob, h1, h2, h3, hK _ _ h3 h4, h5⟩⟩
noncomputable def lentOv (tab : List (List AV × AV)) (args : List AV) (H : FH) (k : AV -> FH -> Bool) : Bool :=
 match za0 (args.map (AV.res H.abs.get 1000)) with
 | some rargs => litOv tab rargs H fun v H' => ifK v.plain (k v H') false
 | none => false
theorem optAll_lent {get : Nat -> Option AObj} {n : Nat} : ∀ {l r : List AV}, za0 (l.map (AV.res get n)) = some r -> Lent get n l r
 | [], r, h => by
   simp [za0] at h
   subst h; exact .nil
 | a :: l, r, h => by
   rw [List.map_cons] at h
   cases ha : AV.res get n a with
   | none => rw [ha] at h; simp [za0] at h
   | some b =>
     rw [ha] at h
     cases hl : za0 (l.map (AV.res get n)) with
     | none => simp [za0, hl] at h
     | some bs =>
       simp [za0, hl] at h
       subst h
       exact .res ha (optAll_lent hl)
theorem lentOv_good {P : Program} {G : Nat -> Option AV} {f : FuncId} {tab : List (List AV × AV)} (ht : ∀ e ∈ tab, ∀ H, Does P G f e.1 H fun r h => r = e.2 /\ h = H) (args : List AV) (H : FH) (k : AV -> FH -> Bool) (h : lentOv tab args H k = true) :
  ∃ v H', Does P G f args H.abs (fun r h => r = v /\ h = FH.abs H') /\ H.next <= H'.next /\ k v H' = true := by
 unfold lentOv at h
 split at h <;> try (simp at h; done)
 rename_i rargs hr
 obtain ⟨e, h3, rfl, h5⟩ := litOv_inv h
 obtain ⟨h6, h7⟩ := zaa h5
 refine ⟨e.2, H, (Does.borrow (optAll_lent hr) (ht e h3 _) (fun r H1 hR => by rw [hR.1]; exact h6)).mono ?_, Nat.le_refl _, h7⟩
 rintro r h ⟨⟨H1, g1, _⟩, g2⟩
 exact ⟨g1, g2⟩
attribute [simp] zac ayield acallee aop aallocC alookup afind asame keyed atup amaplen amapput apure aval tput ofConst ofConst1 ofConsts abin aint2 ashift astr2 aeqIn aeqFields aun aconv aslice abounds abound afieldAddr afield zaH aindex aextract alen acap amin amax abuild afill aplaces aagg apart' aread aat acut za7 alenOf abytes aalloc arep aeff aappend acopy aclear ares zaM aresult avals apairs aopt splice Region.isConst zam isSeq
@[simp] theorem eff_same (H : AHeap) : H.eff .same = H := rfl
@[simp] theorem eff_put (H : AHeap) (i : Nat) (x : AObj) : H.eff (.put i x) = H.set i x := rfl
@[simp] theorem eff_new (H : AHeap) (x : AObj) : H.eff (.new x) = H.push x := rfl
@[simp] theorem eff_move (H : AHeap) (i : Nat) (x : AObj) : H.eff (.move i x) = (H.kill i).push x := rfl
@[simp] theorem scalar_bool (b : Bool) : (AV.bool b).scalar = true := rfl
@[simp] theorem scalar_int (k : IntKind) (n : Int) : (AV.int k n).scalar = true := rfl
@[simp] theorem scalar_str (s : List UInt8) : (AV.str s).scalar = true := rfl
@[simp] theorem scalar_nilptr : AV.nilptr.scalar = true := rfl
@[simp] theorem scalar_ptr (i o : Nat) : (AV.ptr i o).scalar = true := rfl
@[simp] theorem scalar_vptr (c : List AV) : (AV.vptr c).scalar = true := rfl
@[simp] theorem scalar_nilsl : AV.nilsl.scalar = true := rfl
@[simp] theorem scalar_sl (i o z l c : Nat) (b : Bool) : (AV.sl i o z l c b).scalar = true := rfl
@[simp] theorem scalar_vsl (c : List AV) (n : Nat) : (AV.vsl c n).scalar = true := rfl
@[simp] theorem scalar_nilmap : AV.nilmap.scalar = true := rfl
@[simp] theorem scalar_func (f : Fn) (a b : List AV) : (AV.func f a b).scalar = true := rfl
@[simp] theorem scalar_nilfunc : AV.nilfunc.scalar = true := rfl
@[simp] theorem scalar_iface (t : TypeId) (v : AV) : (AV.iface t v).scalar = true := rfl
@[simp] theorem scalar_niliface : AV.niliface.scalar = true := rfl
@[simp] theorem cells_agg (c : List AV) : (AV.agg c).cells = c := rfl
@[simp] theorem cells_bool (b : Bool) : (AV.bool b).cells = [.bool b] := rfl
@[simp] theorem cells_int (k : IntKind) (n : Int) : (AV.int k n).cells = [.int k n] := rfl
@[simp] theorem cells_str (s : List UInt8) : (AV.str s).cells = [.str s] := rfl
@[simp] theorem cells_nilptr : AV.nilptr.cells = [.nilptr] := rfl
@[simp] theorem cells_ptr (i o : Nat) : (AV.ptr i o).cells = [.ptr i o] := rfl
@[simp] theorem cells_vptr (c : List AV) : (AV.vptr c).cells = [.vptr c] := rfl
@[simp] theorem cells_nilsl : AV.nilsl.cells = [.nilsl] := rfl
@[simp] theorem cells_sl (i o z l c : Nat) (b : Bool) : (AV.sl i o z l c b).cells = [.sl i o z l c b] := rfl
@[simp] theorem cells_vsl (c : List AV) (n : Nat) : (AV.vsl c n).cells = [.vsl c n] := rfl
@[simp] theorem scalar_csl (c : List AV) (n : Nat) : (AV.csl c n).scalar = true := rfl
@[simp] theorem cells_csl (c : List AV) (n : Nat) : (AV.csl c n).cells = [.csl c n] := rfl
@[simp] theorem cells_nilmap : AV.nilmap.cells = [.nilmap] := rfl
@[simp] theorem cells_func (f : Fn) (a b : List AV) : (AV.func f a b).cells = [.func f a b] := rfl
@[simp] theorem cells_nilfunc : AV.nilfunc.cells = [.nilfunc] := rfl
@[simp] theorem cells_iface (t : TypeId) (v : AV) : (AV.iface t v).cells = [.iface t v] := rfl
@[simp] theorem cells_niliface : AV.niliface.cells = [.niliface] := rfl
@[simp] theorem cells_tuple (v : List AV) : (AV.tuple v).cells = [.tuple v] := rfl
theorem next_lt {H : AHeap} (hw : H.Wf) {i : Nat} {x : AObj} (h : H.get i = some x) : i < H.next := (hw i x h).1
@[simp] theorem push_set (H : AHeap) (x y : AObj) : (H.push x).set H.next y = H.push y := by
 refine AHeap.ext' rfl fun i => ?_
 simp only [AHeap.get_set, AHeap.get_push]
 split <;> rfl
@[simp] theorem int_beq (a b : Int) : (a == b) = decide (a = b) := by
 rw [Bool.eq_iff_iff]; simp
end Go.Abs
namespace Go.Proofs
open Go Go.Abs
@[simp] theorem Tryz.asize2 : asize Tryz.prog 2 = some 1 := by kernel_rfl
@[simp] theorem Tryz.info2 : Tryz.prog.info? 2 = some Tryz.t2 := by kernel_rfl
@[simp] theorem Tryz.tsize2 : Tryz.t2.size = 1 := by kernel_rfl
@[simp] theorem Tryz.tbytes2 : Tryz.t2.bytes = 8 := by kernel_rfl
@[simp] theorem Tryz.builder2 : zaj Tryz.prog 2 = false := by kernel_rfl
@[simp] theorem Tryz.azero2 : azero Tryz.prog 2 = some (.int .i64 (0)) := by kernel_rfl
@[simp] theorem Tryz.asize3 : asize Tryz.prog 3 = some 1 := by kernel_rfl
@[simp] theorem Tryz.info3 : Tryz.prog.info? 3 = some Tryz.t3 := by kernel_rfl
@[simp] theorem Tryz.tsize3 : Tryz.t3.size = 1 := by kernel_rfl
@[simp] theorem Tryz.tbytes3 : Tryz.t3.bytes = 8 := by kernel_rfl
@[simp] theorem Tryz.builder3 : zaj Tryz.prog 3 = false := by kernel_rfl
@[simp] theorem Tryz.azero3 : azero Tryz.prog 3 = some (.int .i64 (0)) := by kernel_rfl
@[simp] theorem Tryz.asize4 : asize Tryz.prog 4 = some 1 := by kernel_rfl
@[simp] theorem Tryz.info4 : Tryz.prog.info? 4 = some Tryz.t4 := by kernel_rfl
@[simp] theorem Tryz.tsize4 : Tryz.t4.size = 1 := by kernel_rfl
@[simp] theorem Tryz.tbytes4 : Tryz.t4.bytes = 1 := by kernel_rfl
@[simp] theorem Tryz.builder4 : zaj Tryz.prog 4 = false := by kernel_rfl
@[simp] theorem Tryz.azero4 : azero Tryz.prog 4 = some (.bool false) := by kernel_rfl
@[simp] theorem Tryz.asize5 : asize Tryz.prog 5 = some 1 := by kernel_rfl
@[simp] theorem Tryz.info5 : Tryz.prog.info? 5 = some Tryz.t5 := by kernel_rfl
@[simp] theorem Tryz.tsize5 : Tryz.t5.size = 1 := by kernel_rfl
@[simp] theorem Tryz.tbytes5 : Tryz.t5.bytes = 1 := by kernel_rfl
@[simp] theorem Tryz.builder5 : zaj Tryz.prog 5 = false := by kernel_rfl
@[simp] theorem Tryz.azero5 : azero Tryz.prog 5 = some (.int .u8 (0)) := by kernel_rfl
@[simp] theorem Tryz.asize9 : asize Tryz.prog 9 = some 1 := by kernel_rfl
@[simp] theorem Tryz.info9 : Tryz.prog.info? 9 = some Tryz.t9 := by kernel_rfl
@[simp] theorem Tryz.tsize9 : Tryz.t9.size = 1 := by kernel_rfl
@[simp] theorem Tryz.tbytes9 : Tryz.t9.bytes = 16 := by kernel_rfl
@[simp] theorem Tryz.builder9 : zaj Tryz.prog 9 = false := by kernel_rfl
@[simp] theorem Tryz.azero9 : azero Tryz.prog 9 = some (.str []) := by kernel_rfl
@[simp] theorem Tryz.asize31 : asize Tryz.prog 31 = some 1 := by kernel_rfl
@[simp] theorem Tryz.info31 : Tryz.prog.info? 31 = some Tryz.t31 := by kernel_rfl
@[simp] theorem Tryz.tsize31 : Tryz.t31.size = 1 := by kernel_rfl
@[simp] theorem Tryz.tbytes31 : Tryz.t31.bytes = 8 := by kernel_rfl
@[simp] theorem Tryz.builder31 : zaj Tryz.prog 31 = false := by kernel_rfl
@[simp] theorem Tryz.azero31 : azero Tryz.prog 31 = some (.int .i64 (0)) := by kernel_rfl
@[simp] theorem Tryz.asize56 : asize Tryz.prog 56 = some 2 := by kernel_rfl
@[simp] theorem Tryz.info56 : Tryz.prog.info? 56 = some Tryz.t56 := by kernel_rfl
@[simp] theorem Tryz.tsize56 : Tryz.t56.size = 2 := by kernel_rfl
@[simp] theorem Tryz.tbytes56 : Tryz.t56.bytes = 16 := by kernel_rfl
@[simp] theorem Tryz.builder56 : zaj Tryz.prog 56 = false := by kernel_rfl
@[simp] theorem Tryz.azero56 : azero Tryz.prog 56 = some (.agg [.int .i64 (0), .int .i64 (0)]) := by kernel_rfl
@[simp] theorem Tryz.asize247 : asize Tryz.prog 247 = some 4 := by kernel_rfl
@[simp] theorem Tryz.info247 : Tryz.prog.info? 247 = some Tryz.t247 := by kernel_rfl
@[simp] theorem Tryz.tsize247 : Tryz.t247.size = 4 := by kernel_rfl
@[simp] theorem Tryz.tbytes247 : Tryz.t247.bytes = 40 := by kernel_rfl
@[simp] theorem Tryz.builder247 : zaj Tryz.prog 247 = false := by kernel_rfl
@[simp] theorem Tryz.azero247 : azero Tryz.prog 247 = some (.agg [.int .i64 (0), .str [], .int .i64 (0), .int .i64 (0)]) := by kernel_rfl
@[simp] theorem Tryz.asize484 : asize Tryz.prog 484 = some 1 := by kernel_rfl
@[simp] theorem Tryz.info484 : Tryz.prog.info? 484 = some Tryz.t484 := by kernel_rfl
@[simp] theorem Tryz.tsize484 : Tryz.t484.size = 1 := by kernel_rfl
@[simp] theorem Tryz.tbytes484 : Tryz.t484.bytes = 16 := by kernel_rfl
@[simp] theorem Tryz.builder484 : zaj Tryz.prog 484 = false := by kernel_rfl
@[simp] theorem Tryz.azero484 : azero Tryz.prog 484 = some (.niliface) := by kernel_rfl
@[simp] theorem Tryz.asize519 : asize Tryz.prog 519 = some 256 := by kernel_rfl
@[simp] theorem Tryz.info519 : Tryz.prog.info? 519 = some Tryz.t519 := by kernel_rfl
@[simp] theorem Tryz.tsize519 : Tryz.t519.size = 256 := by kernel_rfl
@[simp] theorem Tryz.tbytes519 : Tryz.t519.bytes = 256 := by kernel_rfl
@[simp] theorem Tryz.builder519 : zaj Tryz.prog 519 = false := by kernel_rfl
@[simp] theorem Tryz.asize542 : asize Tryz.prog 542 = some 1 := by kernel_rfl
@[simp] theorem Tryz.info542 : Tryz.prog.info? 542 = some Tryz.t542 := by kernel_rfl
@[simp] theorem Tryz.tsize542 : Tryz.t542.size = 1 := by kernel_rfl
@[simp] theorem Tryz.tbytes542 : Tryz.t542.bytes = 8 := by kernel_rfl
@[simp] theorem Tryz.builder542 : zaj Tryz.prog 542 = false := by kernel_rfl
@[simp] theorem Tryz.azero542 : azero Tryz.prog 542 = some (.int .i64 (0)) := by kernel_rfl
@[simp] theorem Tryz.asize564 : asize Tryz.prog 564 = some 3 := by kernel_rfl
@[simp] theorem Tryz.info564 : Tryz.prog.info? 564 = some Tryz.t564 := by kernel_rfl
@[simp] theorem Tryz.tsize564 : Tryz.t564.size = 3 := by kernel_rfl
@[simp] theorem Tryz.tbytes564 : Tryz.t564.bytes = 48 := by kernel_rfl
@[simp] theorem Tryz.builder564 : zaj Tryz.prog 564 = false := by kernel_rfl
@[simp] theorem Tryz.azero564 : azero Tryz.prog 564 = some (.agg [.str [], .str [], .niliface]) := by kernel_rfl
end Go.Proofs
namespace Go.Proofs.YtjfgldopgijonaaGreatDoor
open Go Go.Abs Go.Lex
variable {G : Nat -> Option AV}
theorem hasPrefixL (s p : List UInt8) (H : AHeap) : Does Tryz.prog G 353 [.str s, .str p] H fun r H' => r = .bool (p.isPrefixOf s) /\ H' = H := by
 refine zay Tryz.call353 Tryz.func353 rfl (by simp [Tryz.f353]) ?_
 by_cases h : p.length <= s.length
 · have h1 : (p.length : Int) <= s.length := by omega
   simp [h, h1]
   rw [Bool.eq_iff_iff, List.isPrefixOf_iff_prefix, List.prefix_iff_eq_take]
   simp
   exact eq_comm
 · have h1 : ¬ (p.length : Int) <= s.length := by omega
   have h2 : p.isPrefixOf s = false := by
    rw [Bool.eq_false_iff]
    intro e
    exact h (List.isPrefixOf_iff_prefix.1 e).length_le
   simp [h, h1, h2]
theorem hasPrefix (s p : List UInt8) (H : AHeap) : Does Tryz.prog G 289 [.str s, .str p] H fun r H' => r = .bool (p.isPrefixOf s) /\ H' = H := by
 refine zay Tryz.call289 Tryz.func289 rfl (by simp [Tryz.f289]) ?_
 simp
 refine zab (hasPrefixL s p H) ?_
 rintro _ _ ⟨rfl, rfl⟩
 simp
theorem asciiContains (H : AHeap) (i : Nat) (cs : List AV) (b : UInt8) (v : Bool) (h : H.get i = some (.cells cs)) (hl : cs.length = 256) (hv : cs[b.toNat]? = some (.bool v)) :
  Does Tryz.prog G 416 [.ptr i 0, .int .u8 b.toNat] H fun r H' => r = .bool v /\ H' = H := by
 have hb := b.toNat_lt
 have h1 : (b.toNat : Int) < 256 := by omega
 have h2 : b.toNat <= 256 := by omega
 refine zay Tryz.call416 Tryz.func416 rfl (by simp [Tryz.f416]) ?_
 simp [h, hl, hv, h1, h2]
def zad (l : List UInt8) : List AV := (List.range 256).map fun k => .bool (l.any fun b => b.toNat == k)
@[simp] theorem asciiCells_length (l : List UInt8) : (zad l).length = 256 := by simp [zad]
theorem asciiCells_get (l : List UInt8) (b : UInt8) : (zad l)[b.toNat]? = some (.bool (l.contains b)) := by
 have hb := b.toNat_lt
 simp only [zad, List.getElem?_map]
 rw [List.getElem?_range hb]
 simp only [Option.map_some, Option.some.injEq, AV.bool.injEq]
 rw [Bool.eq_iff_iff]
 simp only [List.any_eq_true, beq_iff_eq, List.contains_iff_mem]
 constructor
 · rintro ⟨x, hx, e⟩
   rw [<- UInt8.toNat_inj.1 e]; exact hx
 · intro h; exact ⟨b, h, rfl⟩
theorem asciiCells_set (l : List UInt8) (b : UInt8) : (zad l).set b.toNat (.bool true) = zad (l ++ [b]) := by
 apply List.ext_getElem?
 intro k
 rw [List.getElem?_set]
 simp only [zad, List.getElem?_map, List.length_map, List.length_range]
 by_cases hk : k < 256
 · rw [List.getElem?_range hk]
   by_cases e : b.toNat = k
   · subst e; simp [hk]
   · rw [if_neg e]
     simp [e]
 · have : (List.range 256)[k]? = none := List.getElem?_eq_none (by simp; omega)
   rw [this]
   split <;> simp
   omega
end Go.Proofs.YtjfgldopgijonaaGreatDoor
namespace Go.Abs
open Go
theorem aws_loop {X : Ctx} {c : Code} {Q : Post} {T : Nat -> AV} {H : AHeap} (I : Nat -> (Nat -> AV) -> AHeap -> Prop) (n : Nat) (h0 : I n T H)
  (round : ∀ n T H, I n T H -> @AWf ⟨X⟩ ⟨c⟩ ⟨QThen (fun T' H' => ∃ m, m < n /\ I m T' H') Q⟩ ⟨T⟩ H) : @AWs ⟨X⟩ ⟨.loop c⟩ ⟨Q⟩ ⟨T⟩ H :=
 aw_loop I n h0 fun n T H h => awf_of (round n T H h)
theorem aw_wf {P : Program} {G : Nat -> Option AV} {N : Nat} {c : Code} {Q : Post} {T : Nat -> AV} {H : AHeap} (h : H.Wf -> (∀ t, (T t).idLt H.next = true) -> AW P G N c Q T H) : AW P G N c Q T H := by
 intro E0 a w hG hs
 obtain ⟨⟨E, hx, hR, hT⟩, hd⟩ := hs
 exact h hR.wf (fun t => VRel.idLt hR.dom (hT.rel t)) E0 a w hG ⟨⟨E, hx, hR, hT⟩, hd⟩
theorem aws_loopw {X : Ctx} {c : Code} {Q : Post} {T : Nat -> AV} {H : AHeap} (I : Nat -> (Nat -> AV) -> AHeap -> Prop) (n : Nat) (h0 : I n T H)
  (round : ∀ n T H, I n T H -> H.Wf -> (∀ t, (T t).idLt H.next = true) -> @AWf ⟨X⟩ ⟨c⟩ ⟨QThen (fun T' H' => ∃ m, m < n /\ I m T' H') Q⟩ ⟨T⟩ H) : @AWs ⟨X⟩ ⟨.loop c⟩ ⟨Q⟩ ⟨T⟩ H :=
 aw_loop I n h0 fun n T H h => aw_wf fun hw ht => awf_of (round n T H h hw ht)
end Go.Abs
namespace Go.Proofs.YtjfgldopgijonaaGreatDoor
open Go Go.Abs Go.Lex
variable {G : Nat -> Option AV}
@[simp] theorem take_ascii (l : List UInt8) : List.take 256 (zad l) = zad l := by rw [List.take_of_length_le]; simp
@[simp] theorem zeroSet : azero Tryz.prog 519 = some (.agg (zad [])) := by kernel_rfl
@[simp] theorem drop_ascii (l : List UInt8) : List.drop 256 (zad l) = [] := by rw [List.drop_of_length_le]; simp
@[simp] theorem ascii_scalar (l : List UInt8) : (∀ x ∈ zad l, x.scalar = true) = True := by
 simp only [eq_iff_iff, iff_true]
 intro x hx
 simp only [zad, List.mem_map] at hx
 obtain ⟨k, _, rfl⟩ := hx
 rfl
theorem ascii_splice (l : List UInt8) (c : UInt8) : List.take c.toNat (zad l) ++ AV.bool true :: List.drop (c.toNat + 1) (zad l) = zad (l ++ [c]) := by
 have hc := c.toNat_lt
 rw [<- asciiCells_set, List.set_eq_take_append_cons_drop, if_pos (by rw [asciiCells_length]; omega)]
theorem makeSet (chars : List UInt8) (hc : ∀ b ∈ chars, b.toNat < 128) (hl : chars.length <= 1000000) (H : AHeap) : Does Tryz.prog G 392 [.str chars] H fun r H' => r = .tuple [.agg (zad chars), .bool true] /\ H' = H.push (.cells (zad chars)) := by
 refine zay Tryz.call392 Tryz.func392 rfl (by simp [Tryz.f392]) ?_
 simp
 refine aws_loop (fun m T' H' => ∃ a b, chars = a ++ b /\ m = b.length /\ T' 0 = .str chars /\ T' 2 = .ptr H.next 0 /\ T' 4 = .int .i64 a.length /\ H' = H.push (.cells (zad a))) chars.length ⟨[], chars, rfl, rfl, by simp⟩ ?_
 rintro m T H' ⟨a, b, rfl, rfl, h0, h2, h4, rfl⟩
 cases b with
 | nil => simp [h0, h2, h4]
 | cons c b =>
   have hlt : (a.length : Int) < a.length + (b.length + 1) := by omega
   have hc1 : c.toNat < 128 := hc c (by simp)
   have hc2 : ¬ (128 : Int) <= c.toNat := by omega
   have hc3 : (c.toNat : Int) < 256 := by omega
   have hc4 : c.toNat <= 255 := by omega
   have hw : IntKind.i64.wrap ((a.length : Int) + 1) = a.length + 1 := by
    simp only [List.length_append, List.length_cons] at hl
    exact IntWalk.i64_in _ (by omega)
   simp [h0, h2, h4, hlt, hc2, hc3, hc4, ascii_splice, hw]
   refine ⟨b.length, by omega, a ++ [c], b, by simp, rfl, ?_⟩
   simp
theorem trimASCII (s set : List UInt8) (p : UInt8 -> Bool) (hp : ∀ b, set.contains b = p b) (i : Nat) (H : AHeap) (h : H.get i = some (.cells (zad set))) : Does Tryz.prog G 393 [.str s, .ptr i 0] H fun r H' => r = .str (s.dropWhile p) /\ H' = H := by
 refine zay Tryz.call393 Tryz.func393 rfl (by simp [Tryz.f393]) ?_
 simp
 refine aws_loop (fun m T' H' => ∃ q : List UInt8, s.dropWhile p = q.dropWhile p /\ m = q.length /\ T' 0 = .str q /\ T' 1 = .ptr i 0 /\ H' = H) s.length ⟨s, rfl, rfl, by simp⟩ ?_
 rintro m T H' ⟨q, hq, rfl, h0, h1, rfl⟩
 rw [hq]
 cases q with
 | nil => simp [h0, h1]
 | cons b q =>
   have hl : (0 : Int) < q.length + 1 := by omega
   have hl2 : (1 : Int) <= q.length + 1 := by omega
   simp [h0, h1, hl]
   refine zab (asciiContains H' i _ b _ h (by simp) (asciiCells_get set b)) ?_
   rintro _ _ ⟨rfl, rfl⟩
   rw [hp]
   cases hb : p b with
   | true =>
     simp [h0, h1, hb, hl, hl2]
   | false => simp [h0, h1, hb]
theorem trimLeft (s set : List UInt8) (p : UInt8 -> Bool) (hp : ∀ b, set.contains b = p b) (hc : ∀ b ∈ set, b.toNat < 128) (hl : set.length <= 1000000) (h2 : 2 <= set.length) (H : AHeap) : Does Tryz.prog G 352 [.str s, .str set] H fun r H' => r = .str (s.dropWhile p) /\ H' = H := by
 refine Does.forgot (R := fun r H' => r = .str (s.dropWhile p) /\ ∀ j x, H.get j = some x -> H'.get j = some x) ?_ ?_
 · refine Does.wf Tryz.call352 fun hw _ => ?_
   have old : ∀ j x, H.get j = some x -> j ≠ H.next /\ j ≠ H.next + 1 := fun j x hj => by have := next_lt hw hj; omega
   refine zay Tryz.call352 Tryz.func352 rfl (by simp [Tryz.f352]) ?_
   have hne : set ≠ [] := fun e => by subst e; simp at h2
   have hn1 : ¬ (set.length : Int) = 1 := by omega
   cases hs : s with
   | nil => simp
   | cons b q =>
     rw [<- hs]
     have hs1 : s.isEmpty = false := by rw [hs]; rfl
     have hs2 : set.isEmpty = false := by cases set <;> simp_all
     simp [hs1, hs2, hn1]
     refine zab (makeSet set hc hl H) ?_
     rintro _ _ ⟨rfl, rfl⟩
     simp
     refine zab (trimASCII s set p hp _ _ (by simp)) ?_
     rintro _ _ ⟨rfl, rfl⟩
     simp
     intro j x hj
     simp [hj, old j x hj]
 · rintro hw ha r H1 ⟨rfl, h⟩
   exact ⟨h, rfl, rfl, rfl⟩
theorem isIdx : IsIdx Tryz.prog 395 := ⟨⟨Tryz.f395, Tryz.func395, by kernel_rfl, by kernel_rfl, by kernel_rfl, by kernel_rfl⟩⟩
def idxB (s : List UInt8) (c : UInt8) : Int := match s.findIdx? (fun b => b == c) with
 | some i => i
 | none => -1
theorem idxB_eq (c : UInt8) : ∀ s : List UInt8, Go.Lib.indexByte s c = idxB s c
 | [] => rfl
 | b :: s => by
   rw [indexByte_cases, idxB_eq c s]
   unfold idxB
   rw [List.findIdx?_cons]
   by_cases h : b = c
   · subst h; simp
   · simp only [h, if_false, beq_iff_eq]
     cases hf : List.findIdx? (fun b => b == c) s with
     | none => simp
     | some i =>
       simp only [Option.map_some]
       rw [if_neg (by omega)]
       omega
theorem indexByteL (s : List UInt8) (c : UInt8) (H : AHeap) : Does Tryz.prog G 354 [.str s, .int .u8 c.toNat] H fun r H' => r = .int .i64 (idxB s c) /\ H' = H := by
 refine zay Tryz.call354 Tryz.func354 rfl (by simp [Tryz.f354]) ?_
 simp
 refine zab (idx_does isIdx s c.toNat H) ?_
 rintro _ _ ⟨rfl, rfl⟩
 have e : ((c.toNat : Int).toNat).toUInt8 = c := by simp
 rw [e, idxB_eq]
 simp
theorem indexByte (s : List UInt8) (c : UInt8) (H : AHeap) : Does Tryz.prog G 290 [.str s, .int .u8 c.toNat] H fun r H' => r = .int .i64 (idxB s c) /\ H' = H := by
 refine zay Tryz.call290 Tryz.func290 rfl (by simp [Tryz.f290]) ?_
 simp
 refine zab (indexByteL s c H) ?_
 rintro _ _ ⟨rfl, rfl⟩
 simp
theorem index1L (s : List UInt8) (c : UInt8) (H : AHeap) : Does Tryz.prog G 396 [.str s, .str [c]] H fun r H' => r = .int .i64 (idxB s c) /\ H' = H := by
 refine zay Tryz.call396 Tryz.func396 rfl (by simp [Tryz.f396]) ?_
 by_cases h : [c] = s
 · subst h
   simp [idxB]
 · have h1 : ([c] == s) = false := by simpa using h
   simp [h1]
   refine zab (indexByteL s c H) ?_
   rintro _ _ ⟨rfl, rfl⟩
   simp
theorem contains1 (s : List UInt8) (c : UInt8) (H : AHeap) : Does Tryz.prog G 291 [.str s, .str [c]] H fun r H' => r = .bool (s.contains c) /\ H' = H := by
 have hk : ∀ H : AHeap, Does Tryz.prog G 355 [.str s, .str [c]] H fun r H' => r = .int .i64 (idxB s c) /\ H' = H := by
  intro H
  refine zay Tryz.call355 Tryz.func355 rfl (by simp [Tryz.f355]) ?_
  simp
  refine zab (index1L s c H) ?_
  rintro _ _ ⟨rfl, rfl⟩
  simp
 refine zay Tryz.call291 Tryz.func291 rfl (by simp [Tryz.f291]) ?_
 simp
 refine zab (hk H) ?_
 rintro _ _ ⟨rfl, rfl⟩
 simp
 unfold idxB
 cases hf : s.findIdx? (fun b => b == c) with
 | none =>
   rw [List.findIdx?_eq_none_iff] at hf
   have : c ∉ s := fun h => by have := hf c h; simp at this
   simp [this]
 | some i =>
   have h := List.findIdx?_eq_some_iff_getElem.1 hf
   obtain ⟨hi, h1, _⟩ := h
   have : c ∈ s := by
    have e : s[i] = c := by simpa using h1
    rw [<- e]; exact List.getElem_mem hi
   simp [this]
theorem sliceIndex (l : List Bs) (s : Bs) (i c : Nat) (op : Bool) (H : AHeap) (hi : H.get i = some (.cells (l.map .str))) (hl : l.length <= 1000000) :
  Does Tryz.prog G 369 [.sl i 0 1 l.length c op, .str s] H fun r H' => (if l.contains s then ∃ k : Nat, r = .int .i64 k else r = .int .i64 (-1)) /\ H' = H := by
 refine zay Tryz.call369 Tryz.func369 rfl (by simp [Tryz.f369]) ?_
 simp
 refine aws_loop (fun m T' H' => ∃ a b, l = a ++ b /\ m = b.length /\ s ∉ a /\ T' 0 = .sl i 0 1 l.length c op /\ T' 1 = .str s /\ T' 7 = .int .i64 l.length /\ T' 8 = .int .i64 a.length /\ H' = H) l.length ⟨[], l, rfl, rfl, by simp, by simp⟩ ?_
 rintro m T H' ⟨a, b, rfl, rfl, hn, h0, h1, h7, h8, rfl⟩
 simp only [List.length_append] at hl h0 h7
 cases b with
 | nil => simp [h0, h1, h7, h8, hn]
 | cons t b =>
   simp only [List.length_cons] at hl
   have hlt : (a.length : Int) < a.length + (b.length + 1) := by omega
   have hle : a.length <= a.length + (b.length + 1) := by omega
   have hw : IntKind.i64.wrap ((a.length : Int) + 1) = a.length + 1 := IntWalk.i64_in _ (by omega)
   have hd : List.drop a.length (List.map AV.str a) = [] := by rw [List.drop_of_length_le]; simp
   by_cases e : s = t
   · subst e
     simp [h0, h1, h7, h8, hi, hlt, hle, hw, hd]
     exact ⟨a.length, rfl⟩
   · have e1 : (s == t) = false := by simpa using e
     simp [h0, h1, h7, h8, hi, hlt, hle, hw, hd, e1]
     exact ⟨b.length, by omega, a ++ [t], b, by simp, rfl, by simp [hn, e], by simp⟩
theorem sliceContains (l : List Bs) (s : Bs) (i c : Nat) (op : Bool) (H : AHeap) (hi : H.get i = some (.cells (l.map .str))) (hl : l.length <= 1000000) :
  Does Tryz.prog G 316 [.sl i 0 1 l.length c op, .str s] H fun r H' => r = .bool (l.contains s) /\ H' = H := by
 refine zay Tryz.call316 Tryz.func316 rfl (by simp [Tryz.f316]) ?_
 simp
 refine zab (sliceIndex l s i c op H hi hl) ?_
 rintro r _ ⟨hr, rfl⟩
 cases hc : l.contains s with
 | true =>
   rw [hc, if_pos rfl] at hr
   obtain ⟨k, rfl⟩ := hr
   simp
 | false =>
   rw [hc] at hr
   simp only [Bool.false_eq_true, if_false] at hr
   subst hr
   simp
theorem kept_does (s : Bs) (H : AHeap) : Does Tryz.prog G 292 [.str s] H fun r H' => r = .bool (kept s) /\ H' = H := by
 refine Does.forgot (R := fun r H' => r = .bool (kept s) /\ ∀ j x, H.get j = some x -> H'.get j = some x) ?_ ?_
 · refine Does.wf Tryz.call292 fun hw _ => ?_
   have old : ∀ j x, H.get j = some x -> j ≠ H.next := fun j x hj => by have := next_lt hw hj; omega
   refine zay Tryz.call292 Tryz.func292 rfl (by simp [Tryz.f292]) ?_
   simp
   refine zab (sliceContains keptWords s H.next 21 false (H.push (.cells (keptWords.map .str))) (by simp) (by decide)) ?_
   rintro _ _ ⟨rfl, rfl⟩
   simp [kept]
   intro j x hj
   simp [hj, old j x hj]
 · rintro hw ha r H1 ⟨rfl, h⟩
   exact ⟨h, rfl, rfl, rfl⟩
theorem while_does (s set : Bs) (p : UInt8 -> Bool) (hp : ∀ b, set.contains b = p b) (hc : ∀ b ∈ set, b.toNat < 128) (hl : set.length <= 1000000) (h2 : 2 <= set.length) (hs : s.length <= 1000000) (H : AHeap) :
  Does Tryz.prog G 288 [.str s, .str set] H fun r H' => r = .int .i64 (s.takeWhile p).length /\ H' = H := by
 refine zay Tryz.call288 Tryz.func288 rfl (by simp [Tryz.f288]) ?_
 simp
 refine zab (trimLeft s set p hp hc hl h2 H) ?_
 rintro _ _ ⟨rfl, rfl⟩
 have e : s.length = (s.takeWhile p).length + (s.dropWhile p).length := by rw [<- List.length_append, List.takeWhile_append_dropWhile]
 have hw : IntKind.i64.wrap ((s.length : Int) - (s.dropWhile p).length) = (s.takeWhile p).length := by
  rw [IntWalk.i64_in _ (by omega)]; omega
 simp [hw]
theorem sign_does (s : Bs) (H : AHeap) : Does Tryz.prog G 294 [.str s] H fun r H' => (match signOf s with | some t => r = .tuple [.agg [.int .i64 4, .str t, .int .i64 0, .int .i64 0], .bool true] | none => r = .tuple [.agg [.int .i64 0, .str [], .int .i64 0, .int .i64 0], .bool false]) /\ H' = H := by
 refine Does.forgot (R := fun r H' => (match signOf s with | some t => r = .tuple [.agg [.int .i64 4, .str t, .int .i64 0, .int .i64 0], .bool true] | none => r = .tuple [.agg [.int .i64 0, .str [], .int .i64 0, .int .i64 0], .bool false]) /\ ∀ j x, H.get j = some x -> H'.get j = some x) ?_ ?_
 · refine Does.wf Tryz.call294 fun hw _ => ?_
   have old : ∀ j x, H.get j = some x -> j ≠ H.next /\ j ≠ H.next + 1 := fun j x hj => by have := next_lt hw hj; omega
   have hkeep : ∀ x y, ∀ j z, H.get j = some z -> ((H.push x).push y).get j = some z := fun x y j z hj => by simp [hj, old j z hj]
   refine zay Tryz.call294 Tryz.func294 rfl (by simp [Tryz.f294]) ?_
   simp
   refine aws_loop (fun m T' H' => ∃ a b, signs = a ++ b /\ m = b.length /\ a.find? (fun x => x.isPrefixOf s) = none /\ T' 0 = .str s /\ T' 2 = .ptr H.next 0 /\ T' 6 = .sl (H.next + 1) 0 1 16 16 false /\ T' 7 = .int .i64 16 /\ T' 8 = .int .i64 a.length /\ T' 3 = .bool false /\
    H' = (H.push (.cells [.int .i64 0, .str [], .int .i64 0, .int .i64 0])).push (.cells (signs.map .str))) 16 ⟨[], signs, rfl, rfl, rfl, by simp [signs]⟩ ?_
   rintro m T H' ⟨a, b, hab, rfl, hn, h0, h2, h6, h7, h8, h3, rfl⟩
   have hlen : a.length + b.length = 16 := by rw [<- List.length_append, <- hab]; rfl
   cases b with
   | nil =>
     have ha : a.length = 16 := by simpa using hlen
     have hs : signOf s = none := by
      unfold signOf
      rw [hab, List.append_nil]; exact hn
     simp [h0, h2, h6, h7, h8, ha, hs]
     intro j x hj
     simp [hj, old j x hj]
   | cons t b =>
     simp only [List.length_cons] at hlen
     have hlt : (a.length : Int) < 16 := by omega
     have hlt2 : a.length <= 16 := by omega
     have hlt3 : a.length < 16 := by omega
     have hw1 : IntKind.i64.wrap ((a.length : Int) + 1) = a.length + 1 := IntWalk.i64_in _ (by omega)
     have hd : List.drop a.length (List.map AV.str signs) = .str t :: b.map .str := by
      rw [hab, List.map_append, List.drop_left' (by simp)]; rfl
     have hsl : signs.length = 16 := rfl
     simp [h0, h2, h6, h7, h8, hlt, hlt2, hlt3, hd, hsl]
     refine zab (hasPrefix s t _) ?_
     rintro _ _ ⟨rfl, rfl⟩
     cases hp : t.isPrefixOf s with
     | true =>
       have hs : signOf s = some t := by
        unfold signOf
        rw [hab, List.find?_append, hn]
        simp [hp]
       simp [h0, h2, h6, h7, h8, hs]
       intro j x hj
       simp [hj, old j x hj]
     | false =>
       simp [h0, h2, h6, h7, h8, hw1]
       refine ⟨b.length, by omega, a ++ [t], b, by simp [hab], rfl, ?_, ?_⟩
       · rw [List.find?_eq_none] at hn
         intro x hx
         simp only [List.mem_append, List.mem_singleton] at hx
         rcases hx with hx | rfl
         · have := hn x hx
           rw [<- List.isPrefixOf_iff_prefix]; simpa using this
         · rw [<- List.isPrefixOf_iff_prefix, hp]; simp
       · simp [h3]
 · rintro hw ha r H1 ⟨hr, h⟩
   refine ⟨h, ?_, hr, rfl⟩
   cases hs : signOf s <;> rw [hs] at hr <;> subst hr <;> rfl
theorem drop_takeWhile (p : UInt8 -> Bool) : ∀ s : Bs, s.drop (s.takeWhile p).length = s.dropWhile p
 | [] => rfl
 | b :: s => by
   rw [List.takeWhile_cons, List.dropWhile_cons]
   split
   · simpa using drop_takeWhile p s
   · rfl
theorem betw_line (s q : Bs) (h : s.dropWhile zah = 45 :: 45 :: q) : betw s = betw (q.dropWhile fun b => b != 10) := by
 rw [betw]
 split
 · rename_i q' h'
   rw [h] at h'
   simp only [List.cons.injEq, true_and] at h'
   rw [h']
 · rename_i h'
   exact absurd h (h' q)
theorem betw_word (s : Bs) (h : ([45, 45] : Bs).isPrefixOf (s.dropWhile zah) = false) : betw s = s.dropWhile zah := by
 rw [betw]
 split
 · rename_i q hq
   rw [hq] at h
   simp [List.isPrefixOf] at h
 · rfl
theorem betw_nil : betw [] = [] := betw_word [] rfl
@[simp] theorem take_drop_all {α : Type} (l : List α) (n : Nat) : List.take (l.length - n) (l.drop n) = l.drop n := by rw [List.take_of_length_le]; simp
theorem idxB_none {s : Bs} {c : UInt8} (h : s.findIdx? (fun b => b == c) = none) : s.dropWhile (fun b => b != c) = [] := by
 rw [List.findIdx?_eq_none_iff] at h
 induction s with
 | nil => rfl
 | cons b s ih =>
   rw [List.dropWhile_cons]
   have := h b (by simp)
   have e : (b != c) = true := by simp only [bne, this]; rfl
   rw [if_pos e]
   exact ih fun x hx => h x (by simp [hx])
theorem idxB_some {s : Bs} {c : UInt8} {i : Nat} (h : s.findIdx? (fun b => b == c) = some i) : s.dropWhile (fun b => b != c) = s.drop i /\ i < s.length := by
 induction s generalizing i with
 | nil => simp at h
 | cons b s ih =>
   rw [List.findIdx?_cons] at h
   rw [List.dropWhile_cons]
   by_cases e : b = c
   · subst e
     simp at h
     subst h
     simp
   · have e1 : (b == c) = false := by simpa using e
     have e2 : (b != c) = true := by simp [bne, e1]
     rw [e1] at h
     simp only [Bool.false_eq_true, if_false, Option.map_eq_some_iff] at h
     obtain ⟨j, hj, rfl⟩ := h
     obtain ⟨h1, h2⟩ := ih hj
     rw [if_pos e2]
     exact ⟨by simpa using h1, by simp; omega⟩
theorem blankSet (b : UInt8) : ([32, 9, 10, 13] : Bs).contains b = zah b := by
 rw [Bool.eq_iff_iff]
 simp [zah, or_assoc]
theorem between_does (s : Bs) (hl : s.length <= 1000000) (H : AHeap) : Does Tryz.prog G 212 [.str s] H fun r H' => (∃ n : Nat, r = .int .i64 n /\ n <= s.length /\ s.drop n = betw s) /\ H' = H := by
 refine zay Tryz.call212 Tryz.func212 rfl (by simp [Tryz.f212]) ?_
 simp
 refine aws_loop (fun m T' H' => ∃ n : Nat, n <= s.length /\ m = s.length - n /\ betw (s.drop n) = betw s /\ T' 0 = .str s /\ T' 3 = .int .i64 n /\ H' = H) s.length ⟨0, by omega, by omega, rfl, by simp⟩ ?_
 rintro m T H' ⟨n, hn, rfl, hb, h0, h3, rfl⟩
 have hn1 : (n : Int) <= s.length := by omega
 simp [h0, h3, hn, hn1]
 have hdl : (s.drop n).length = s.length - n := by simp
 refine zab (while_does (s.drop n) _ zah blankSet (by decide) (by decide) (by decide) (by omega) _) ?_
 rintro _ _ ⟨rfl, rfl⟩
 have htl : ((s.drop n).takeWhile zah).length <= s.length - n := by
  rw [<- hdl]; exact (List.takeWhile_prefix zah).length_le
 have hdd : s.drop (n + ((s.drop n).takeWhile zah).length) = (s.drop n).dropWhile zah := by
  rw [<- List.drop_drop, drop_takeWhile]
 obtain ⟨k, hk⟩ : ∃ k, k = ((s.drop n).takeWhile zah).length := ⟨_, rfl⟩
 rw [<- hk] at htl hdd ⊢
 obtain ⟨j, hj⟩ : ∃ j, j = n + k := ⟨_, rfl⟩
 have hw1 : IntKind.i64.wrap ((n : Int) + k) = (j : Int) := by rw [IntWalk.i64_in _ (by omega)]; omega
 have hk1 : (j : Int) <= s.length := by omega
 have hk2 : j <= s.length := by omega
 rw [<- hj] at hdd
 simp [h0, h3, hw1, hk1, hk2]
 refine zab (hasPrefix (s.drop j) [45, 45] _) ?_
 rintro _ _ ⟨rfl, rfl⟩
 cases hp : ([45, 45] : Bs).isPrefixOf (s.drop j) with
 | false =>
   simp [h0, h3]
   refine ⟨j, rfl, hk2, ?_⟩
   rw [<- hb, betw_word _ (by rw [<- hdd]; exact hp), hdd]
 | true =>
   simp [h0, h3, hk1, hk2]
   refine zab (indexByte (s.drop j) 10 _) ?_
   rintro _ _ ⟨rfl, rfl⟩
   obtain ⟨q, hq⟩ : ∃ q, s.drop j = 45 :: 45 :: q := by
    rw [List.isPrefixOf_iff_prefix] at hp
    obtain ⟨t, ht⟩ := hp
    exact ⟨t, ht.symm⟩
   have hbq : betw s = betw ((s.drop j).dropWhile fun b => b != 10) := by
    rw [<- hb, betw_line _ q (by rw [<- hdd]; exact hq), hq]
    rfl
   unfold idxB
   cases hf : (s.drop j).findIdx? (fun b => b == 10) with
   | none =>
     simp [h0, h3]
     refine ⟨s.length, rfl, Nat.le_refl _, ?_⟩
     rw [hbq, idxB_none hf, betw_nil]; simp
   | some i =>
     obtain ⟨g1, g2⟩ := idxB_some hf
     have g3 : ¬ ((i : Int) < 0) := by omega
     have hi2 : 2 <= i := by
      rw [hq] at hf
      rw [List.findIdx?_cons, List.findIdx?_cons] at hf
      simp at hf
      omega
     simp only [List.length_drop] at g2
     have hw2 : IntKind.i64.wrap ((j : Int) + i) = ((j + i : Nat) : Int) := by rw [IntWalk.i64_in _ (by omega)]; omega
     simp [h0, h3, g3, hw2]
     refine ⟨s.length - (j + i), by omega, j + i, by omega, rfl, ?_, by omega⟩
     rw [hbq, g1, List.drop_drop]
theorem numVal_snoc (s : Bs) (b : UInt8) : zak (s ++ [b]) = 10 * zak s + (b.toNat - 48) := by simp [zak]
theorem numVal_ge (a : Bs) : ∀ b : Bs, zak a <= zak (a ++ b) := by
 intro b
 induction b generalizing a with
 | nil => simp
 | cons c b ih =>
   have := ih (a ++ [c])
   rw [numVal_snoc, List.append_assoc] at this
   simp only [List.singleton_append] at this
   omega
theorem strCs_append' (a b : Bs) : strCs (a ++ b) = strCs a ++ strCs b := by simp [strCs]
theorem wrap_u64 (n : Int) (h0 : 0 <= n) (h1 : n < 18446744073709551616) : IntKind.u64.wrap n = n := by
 unfold IntKind.wrap
 simp only [IntKind.signed, IntKind.bits, Bool.false_and, Bool.false_eq_true, if_false]
 exact Int.emod_eq_of_lt h0 (by omega)
theorem wrap_u64' (n : Int) (h0 : 18446744073709551616 <= n) (h1 : n < 36893488147419103232) : IntKind.u64.wrap n = n - 18446744073709551616 := by
 unfold IntKind.wrap
 simp only [IntKind.signed, IntKind.bits, Bool.false_and, Bool.false_eq_true, if_false]
 omega
theorem wrap_u8 (n : Int) (h0 : 0 <= n) (h1 : n < 256) : IntKind.u8.wrap n = n := by
 unfold IntKind.wrap
 simp only [IntKind.signed, IntKind.bits, Bool.false_and, Bool.false_eq_true, if_false]
 exact Int.emod_eq_of_lt h0 (by omega)
@[simp] theorem concErr : Tryz.prog.concrete 542 = true := by kernel_rfl
@[simp] theorem concNum : Tryz.prog.concrete 545 = true := by kernel_rfl
def uintOf (s : Bs) : AV := if zak s < 18446744073709551616 then .tuple [.int .u64 (zak s), .niliface] else .tuple [.int .u64 18446744073709551615, .iface 542 (.int .i64 1)]
theorem parseUint (s : Bs) (hd : ∀ b ∈ s, zaf b = true) (hs : s ≠ []) (hl : s.length <= 1000000) (H : AHeap) :
  Does Tryz.prog G 422 [.str s, .int .i64 10, .int .i64 64] H fun r H' => r = uintOf s /\ H' = H := by
 refine Does.forgot (R := fun r H' => r = uintOf s /\ ∀ j x, H.get j = some x -> H'.get j = some x) ?_ ?_
 · refine Does.wf Tryz.call422 fun hw _ => ?_
   have old : ∀ j x, H.get j = some x -> j ≠ H.next := fun j x hj => by have := next_lt hw hj; omega
   refine zay Tryz.call422 Tryz.func422 rfl (by simp [Tryz.f422]) ?_
   have hs1 : s.isEmpty = false := by cases s <;> simp_all
   have e1 : IntKind.u64.wrap 64 = 64 := by decide
   have e2 : IntKind.u64.wrap (2 ^ min 64 IntKind.u64.bits) = 0 := by decide
   have e3 : IntKind.u64.wrap (-1) = 18446744073709551615 := by decide
   simp [hs1, e1, e2, e3]
   refine aws_loop (fun m T' H' => ∃ a b, s = a ++ b /\ m = b.length /\ zak a < 18446744073709551616 /\ T' 1 = .int .i64 10 /\ T' 8 = .bool false /\ T' 10 = .int .u64 1844674407370955162 /\ T' 11 = .int .u64 18446744073709551615 /\ T' 12 = .bool false /\ T' 13 = .int .u64 (zak a) /\
    T' 99 = .sl H.next 0 1 s.length s.length true /\ T' 100 = .int .i64 s.length /\ T' 101 = .int .i64 a.length /\ H' = H.push (.cells (strCs s))) s.length ⟨[], s, rfl, rfl, by decide, by simp [zak, strCs]⟩ ?_
   rintro m T H' ⟨a, b, rfl, rfl, hv, h1, h8, h10, h11, h12, h13, h99, h100, h101, rfl⟩
   simp only [List.length_append] at hl h99 h100
   cases b with
   | nil =>
     simp [h1, h8, h10, h11, h12, h13, h99, h100, h101]
     refine ⟨?_, ?_⟩
     · simp [uintOf, hv]
     · intro j x hj
       simp [hj, old j x hj]
   | cons c b =>
     simp only [List.length_cons] at hl
     have hc := hd c (by simp)
     simp only [zaf, Bool.and_eq_true, decide_eq_true_eq] at hc
     obtain ⟨hc1, hc2⟩ := hc
     obtain ⟨d, hdd⟩ : ∃ d, d = c.toNat - 48 := ⟨_, rfl⟩
     have hlt : (a.length : Int) < a.length + (b.length + 1) := by omega
     have hle : a.length <= a.length + (b.length + 1) := by omega
     have hw1 : IntKind.i64.wrap ((a.length : Int) + 1) = a.length + 1 := IntWalk.i64_in _ (by omega)
     have hdr : List.drop a.length (strCs (a ++ c :: b)) = .int .u8 c.toNat :: strCs b := by
      rw [strCs_append', List.drop_left' (by simp [strCs])]; rfl
     have hsl : (strCs (a ++ c :: b)).length = a.length + (b.length + 1) := by simp [strCs]
     have n1 : ¬ (c.toNat : Int) = 95 := by omega
     have n2 : (48 : Int) <= c.toNat := by omega
     have n3 : (c.toNat : Int) <= 57 := by omega
     have n4 : IntKind.u8.wrap ((c.toNat : Int) - 48) = d := by rw [wrap_u8 _ (by omega) (by omega)]; omega
     have n5 : IntKind.u8.wrap 10 = 10 := by decide
     have n6 : ¬ (10 : Int) <= d := by omega
     have n7 : IntKind.u64.wrap 10 = 10 := by decide
     have n8 : IntKind.u64.wrap (d : Int) = d := wrap_u64 _ (by omega) (by omega)
     have hn : zak (a ++ [c]) = 10 * zak a + d := by rw [numVal_snoc]; omega
     have hge := numVal_ge (a ++ [c]) b
     rw [List.append_assoc, List.singleton_append] at hge
     obtain ⟨v, hvv⟩ : ∃ v, v = zak a := ⟨_, rfl⟩
     rw [<- hvv] at hv h13 hn
     by_cases g1 : 1844674407370955162 <= v
     · have g1' : (1844674407370955162 : Int) <= v := by omega
       have hbig : ¬ zak (a ++ c :: b) < 18446744073709551616 := by omega
       simp [h1, h8, h10, h11, h12, h13, h99, h100, h101, hlt, hle, hdr, hsl, n1, n2, n3, n4, n5, n6, n7, n8, g1']
       refine ⟨?_, ?_⟩
       · unfold uintOf; rw [if_neg hbig]
       · intro j x hj
         simp [hj, old j x hj]
     · have g1' : ¬ (1844674407370955162 : Int) <= v := by omega
       have m1 : IntKind.u64.wrap ((v : Int) * 10) = v * 10 := wrap_u64 _ (by omega) (by omega)
       by_cases g2 : 10 * v + d < 18446744073709551616
       · have m2 : IntKind.u64.wrap ((v : Int) * 10 + d) = v * 10 + d := wrap_u64 _ (by omega) (by omega)
         have m3 : ¬ ((v : Int) * 10 + d < v * 10) := by omega
         have m4 : ¬ ((18446744073709551615 : Int) < v * 10 + d) := by omega
         simp [h1, h8, h10, h11, h12, h13, h99, h100, h101, hlt, hle, hdr, hsl, n1, n2, n3, n4, n5, n6, n7, n8, g1', m1, m2, m3, m4, hw1]
         refine ⟨b.length, by omega, a ++ [c], b, by simp, rfl, by omega, ?_⟩
         simp [hn]
         omega
       · have m2 : IntKind.u64.wrap ((v : Int) * 10 + d) = v * 10 + d - 18446744073709551616 := wrap_u64' _ (by omega) (by omega)
         have m3 : ((v : Int) * 10 + d - 18446744073709551616 < v * 10) := by omega
         have hbig : ¬ zak (a ++ c :: b) < 18446744073709551616 := by omega
         simp [h1, h8, h10, h11, h12, h13, h99, h100, h101, hlt, hle, hdr, hsl, n1, n2, n3, n4, n5, n6, n7, n8, g1', m1, m2, m3]
         refine ⟨?_, ?_⟩
         · unfold uintOf; rw [if_neg hbig]
         · intro j x hj
           simp [hj, old j x hj]
 · rintro hw ha r H1 ⟨rfl, h⟩
   refine ⟨h, ?_, rfl, rfl⟩
   unfold uintOf; split <;> rfl
theorem wrap_i64 (n : Int) (h0 : 0 <= n) (h1 : n < 9223372036854775808) : IntKind.i64.wrap n = n := IntWalk.i64_in _ (by omega)
def intOf (s : Bs) : AV := if zak s < 9223372036854775808 then .tuple [.int .i64 (zak s), .niliface] else .tuple [.int .i64 9223372036854775807, .iface 542 (.int .i64 1)]
theorem parseInt (s : Bs) (hd : ∀ b ∈ s, zaf b = true) (hs : s ≠ []) (hl : s.length <= 1000000) (H : AHeap) :
  Does Tryz.prog G 397 [.str s, .int .i64 10, .int .i64 64] H fun r H' => r = intOf s /\ H' = H := by
 refine zay Tryz.call397 Tryz.func397 rfl (by simp [Tryz.f397]) ?_
 cases s with
 | nil => exact absurd rfl hs
 | cons c q =>
   have hc := hd c (by simp)
   simp only [zaf, Bool.and_eq_true, decide_eq_true_eq] at hc
   have n1 : ¬ (c.toNat : Int) = 43 := by omega
   have n2 : ¬ (c.toNat : Int) = 45 := by omega
   have m1 : (0 : Int) < q.length + 1 := by omega
   simp [n1, n2, m1]
   refine zab (parseUint (c :: q) hd hs hl H) ?_
   rintro _ _ ⟨rfl, rfl⟩
   have e1 : IntKind.u64.wrap 63 = 63 := by decide
   have e2 : IntKind.u64.wrap (2 ^ min 63 IntKind.u64.bits) = 9223372036854775808 := by decide
   have e3 : IntKind.u64.wrap 9223372036854775807 = 9223372036854775807 := by decide
   have e4 : IntKind.i64.wrap 9223372036854775807 = 9223372036854775807 := by decide
   have e5 : IntKind.i64.wrap 63 = 63 := by decide
   have e6 : Tryz.t542.comparable = true := by kernel_rfl
   obtain ⟨v, hv⟩ : ∃ v, v = zak (c :: q) := ⟨_, rfl⟩
   unfold uintOf intOf
   rw [<- hv]
   by_cases g1 : v < 9223372036854775808
   · have g2 : v < 18446744073709551616 := by omega
     have g3 : ¬ (9223372036854775808 : Int) <= v := by omega
     have g4 : IntKind.i64.wrap (v : Int) = v := wrap_i64 _ (by omega) (by omega)
     rw [if_pos g2, if_pos g1]
     simp [e1, e2, e3, e4, e5, e6, g3, g4]
   · rw [if_neg g1]
     by_cases g2 : v < 18446744073709551616
     · have g3 : (9223372036854775808 : Int) <= v := by omega
       rw [if_pos g2]
       simp [e1, e2, e3, e4, e5, e6, g3]
     · rw [if_neg g2]
       simp [e1, e2, e3, e4, e5, e6]
theorem mixedOrders : Tryz.prog.follows .mixedOrders = true := by kernel_rfl
def HasErr (G : Nat -> Option AV) : Prop := ∃ t v, G 2 = some (.vptr [.iface t v])
theorem rangeError (s : Bs) (fn : Bs) (hl : s.length <= 1000000) (hG : HasErr G) (H : AHeap) : Does Tryz.prog G 424 [.str fn, .str s] H fun r H' => r = .ptr H.next 0 /\ ∃ cs, H' = H.push (.cells cs) := by
 obtain ⟨et, ev, he⟩ := hG
 refine zay Tryz.call424 Tryz.func424 rfl (by simp [Tryz.f424]) ?_
 simp
 refine aw_drawn [(3, 0), (3, 3)] ?_ ?_ ?_
 · exact mixedOrders
 · kernel_rfl
 intro es hes
 simp
 refine ⟨_, _, copy_does isCopy s (by omega) H, by simp, ?_⟩
 simp [he, rds, heapF]
 refine ⟨?_, _, rfl⟩
 subst hes
 exact ⟨by kernel_rfl, by kernel_rfl⟩
theorem toError (s : Bs) (fn : Bs) (hl : s.length <= 1000000) (hG : HasErr G) (H : AHeap) : Does Tryz.prog G 398 [.str fn, .str s, .int .i64 10, .int .i64 64, .iface 542 (.int .i64 1)] H fun r H' => r = .iface 545 (.ptr H.next 0) /\ ∃ cs, H' = H.push (.cells cs) := by
 have e6 : Tryz.t542.comparable = true := by kernel_rfl
 refine zay Tryz.call398 Tryz.func398 rfl (by simp [Tryz.f398]) ?_
 simp [e6]
 refine zab (rangeError s fn hl hG H) ?_
 rintro _ _ ⟨rfl, cs, rfl⟩
 simp
 exact ⟨cs, rfl⟩
theorem parseInt' (s : Bs) (hd : ∀ b ∈ s, zaf b = true) (hs : s ≠ []) (hl : s.length <= 1000000) (hG : HasErr G) (H : AHeap) :
  Does Tryz.prog G 356 [.str s, .int .i64 10, .int .i64 64] H fun r H' => (if zak s < 9223372036854775808 then r = .tuple [.int .i64 (zak s), .niliface] /\ H' = H else r = .tuple [.int .i64 9223372036854775807, .iface 545 (.ptr H.next 0)] /\ ∃ cs, H' = H.push (.cells cs)) := by
 refine zay Tryz.call356 Tryz.func356 rfl (by simp [Tryz.f356]) ?_
 simp
 refine zab (parseInt s hd hs hl H) ?_
 rintro _ _ ⟨rfl, rfl⟩
 unfold intOf
 by_cases h : zak s < 9223372036854775808
 · rw [if_pos h]
   simp [h]
 · rw [if_neg h]
   simp [h]
   refine zab (toError s _ hl hG _) ?_
   rintro _ _ ⟨rfl, cs, rfl⟩
   simp
   exact ⟨by omega, cs, rfl⟩
def numN (s : Bs) : Int := if zak s < 9223372036854775808 then zak s else 9223372036854775807
def numOk (s : Bs) : Bool := decide (zak s < 9223372036854775808) && (decide (s.length = 1) || decide (s.head? ≠ some 48))
theorem number_does (s : Bs) (hd : ∀ b ∈ s, zaf b = true) (hs : s ≠ []) (hl : s.length <= 1000000) (hG : HasErr G) (H : AHeap) :
  Does Tryz.prog G 293 [.str s] H fun r H' => r = .tuple [.agg [.int .i64 3, .str s, .int .i64 (numN s), .int .i64 0], .bool (numOk s)] /\ H' = H := by
 refine Does.forgot (R := fun r H' => r = .tuple [.agg [.int .i64 3, .str s, .int .i64 (numN s), .int .i64 0], .bool (numOk s)] /\ ∀ j x, H.get j = some x -> H'.get j = some x) ?_ ?_
 · refine Does.wf Tryz.call293 fun hw _ => ?_
   have old : ∀ j x, H.get j = some x -> j ≠ H.next /\ j ≠ H.next + 1 := fun j x hj => by have := next_lt hw hj; omega
   refine zay Tryz.call293 Tryz.func293 rfl (by simp [Tryz.f293]) ?_
   simp
   refine zab (parseInt' s hd hs hl hG _) ?_
   rintro r H1 hr
   obtain ⟨c, q, rfl⟩ : ∃ c q, s = c :: q := by
    cases s with
    | nil => exact absurd rfl hs
    | cons c q => exact ⟨c, q, rfl⟩
   have h0 : (0 : Int) < q.length + 1 := by omega
   have hg : (if zak (c :: q) < 9223372036854775808 then r = .tuple [.int .i64 (zak (c :: q)), .niliface] else ∃ i, r = .tuple [.int .i64 9223372036854775807, .iface 545 (.ptr i 0)]) /\ H1.get H.next = some (.cells [.int .i64 0, .str [], .int .i64 0, .int .i64 0]) /\ ∀ j x, H.get j = some x -> H1.get j = some x := by
    by_cases h : zak (c :: q) < 9223372036854775808
    · rw [if_pos h] at hr ⊢
      obtain ⟨rfl, rfl⟩ := hr
      exact ⟨rfl, by simp, fun j x hj => by simp [hj, old j x hj]⟩
    · rw [if_neg h] at hr ⊢
      obtain ⟨rfl, cs, rfl⟩ := hr
      exact ⟨⟨_, rfl⟩, by simp, fun j x hj => by simp [hj, old j x hj]⟩
   clear hr
   obtain ⟨hr, hf, hk⟩ := hg
   have fin : ∀ j x, H.get j = some x -> ∀ cs, (H1.set H.next (.cells cs)).get j = some x := fun j x hj cs => by
    simp only [AHeap.get_set]
    rw [if_neg (old j x hj).1]; exact hk j x hj
   by_cases h : zak (c :: q) < 9223372036854775808
   · rw [if_pos h] at hr
     subst hr
     simp
     refine aw_drawn [] mixedOrders (by kernel_rfl) ?_
     intro es hes
     by_cases hq : q = []
     · subst hq
       simp [hf, rds]
       refine ⟨?_, ?_, fun j x hj => ?_⟩
       · subst hes
         exact ⟨by kernel_rfl, by kernel_rfl⟩
       · simp [numN, numOk, h]
       · simp [old j x hj, hk j x hj]
     · have hq0 : q.length ≠ 0 := by simpa using hq
       have hq1 : ¬ ((q.length : Int) + 1 = 1) := by omega
       have hq2 : ((c.toNat : Int) = 48) ↔ c = 48 := by
        constructor
        · intro e
          have e1 : c.toNat = (48 : UInt8).toNat := by simpa using (by omega : c.toNat = 48)
          exact UInt8.toNat_inj.1 e1
        · rintro rfl; rfl
       simp [hf, rds, hq, hq1, h0]
       refine ⟨?_, ?_, fun j x hj => ?_⟩
       · subst hes
         exact ⟨by kernel_rfl, by kernel_rfl⟩
       · have hq3 : ((c.toNat : Int) != 48) = !decide (c = 48) := by
          rw [Bool.eq_iff_iff]
          simp [hq2]
         simp [numN, numOk, h, hq, hq3]
       · simp [old j x hj, hk j x hj]
   · rw [if_neg h] at hr
     obtain ⟨i, rfl⟩ := hr
     simp
     refine aw_drawn [] mixedOrders (by kernel_rfl) ?_
     intro es hes
     simp [hf, rds]
     refine ⟨?_, ?_, fun j x hj => ?_⟩
     · subst hes
       exact ⟨by kernel_rfl, by kernel_rfl⟩
     · simp [numN, numOk, h]
     · simp [old j x hj, hk j x hj]
 · rintro hw ha r H1 ⟨rfl, h⟩
   exact ⟨h, rfl, rfl, rfl⟩
def lettersL : Bs := [97,98,99,100,101,102,103,104,105,106,107,108,109,110,111,112,113,114,115,116,117,118,119,120,121,122]
def digitsL : Bs := [48,49,50,51,52,53,54,55,56,57]
def namesL : Bs := [97,98,99,100,101,102,103,104,105,106,107,108,109,110,111,112,113,114,115,116,117,118,119,120,121,122,48,49,50,51,52,53,54,55,56,57,95]
theorem byAll (p q : UInt8 -> Bool) (h : ∀ n : Fin 256, p (UInt8.ofNat n.val) = q (UInt8.ofNat n.val)) (b : UInt8) : p b = q b := by
 have := h ⟨b.toNat, b.toNat_lt⟩
 simpa using this
theorem letters_eq (b : UInt8) : lettersL.contains b = isLetter b := byAll _ _ (by decide +kernel) b
theorem digits_eq (b : UInt8) : digitsL.contains b = zaf b := byAll _ _ (by decide +kernel) b
theorem names_eq (b : UInt8) : namesL.contains b = za6 b := byAll _ _ (by decide +kernel) b
theorem take_takeWhile (p : UInt8 -> Bool) (s : Bs) : s.take (s.takeWhile p).length = s.takeWhile p := by
 have := List.takeWhile_prefix p (l := s)
 rw [List.prefix_iff_eq_take] at this
 exact this.symm
def zaA (w : Wd) (i : Nat) : List AV := [.int .i64 w.kind, .str w.text, .int .i64 w.n, .int .i64 i]
def WordIs (s : Bs) (r : AV) : Prop := match wordS s with
 | some w => r = .tuple [.agg (zaA w 0), .bool true]
 | none => ∃ k t n, r = .tuple [.agg [.int .i64 k, .str t, .int .i64 n, .int .i64 0], .bool false]
theorem word_does (c : UInt8) (q : Bs) (hl : (c :: q).length <= 1000000) (hG : HasErr G) (H : AHeap) : Does Tryz.prog G 213 [.str (c :: q)] H fun r H' => WordIs (c :: q) r /\ H' = H := by
 refine Does.forgot (R := fun r H' => WordIs (c :: q) r /\ ∀ j x, H.get j = some x -> H'.get j = some x) ?_ ?_
 · refine Does.wf Tryz.call213 fun hw _ => ?_
   have old : ∀ j x, H.get j = some x -> j ≠ H.next /\ j ≠ H.next + 1 := fun j x hj => by have := next_lt hw hj; omega
   refine zay Tryz.call213 Tryz.func213 rfl (by simp [Tryz.f213]) ?_
   have m1 : (1 : Int) <= q.length + 1 := by omega
   simp [m1]
   refine zab (contains1 lettersL c _) ?_
   rintro _ _ ⟨rfl, rfl⟩
   rw [letters_eq]
   cases hL : isLetter c with
   | true =>
     simp
     refine zab (while_does (c :: q) namesL za6 names_eq (by decide) (by decide) (by decide) hl _) ?_
     rintro _ _ ⟨rfl, rfl⟩
     have ht := take_takeWhile za6 (c :: q)
     have hle : ((c :: q).takeWhile za6).length <= (c :: q).length := (List.takeWhile_prefix za6).length_le
     obtain ⟨t, htt⟩ : ∃ t, t = (c :: q).takeWhile za6 := ⟨_, rfl⟩
     rw [<- htt] at ht hle ⊢
     simp only [List.length_cons] at hle
     have hle' : (t.length : Int) <= q.length + 1 := by omega
     simp [hle, hle', ht]
     refine zab (kept_does t _) ?_
     rintro _ _ ⟨rfl, rfl⟩
     cases hk : kept t with
     | true =>
       simp
       refine ⟨?_, ?_⟩
       · simp [WordIs, wordS, hL, <- htt, hk, zaA]
       · intro j x hj
         simp [hj, old j x hj]
     | false =>
       simp
       refine ⟨?_, ?_⟩
       · by_cases h24 : t.length <= 24
         · have : (t.length : Int) <= 24 := by omega
           simp [WordIs, wordS, hL, <- htt, hk, zaA, h24, this]
         · have : ¬ (t.length : Int) <= 24 := by omega
           simp [WordIs, wordS, hL, <- htt, hk, zaA, h24, this]
       · intro j x hj
         simp [hj, old j x hj]
   | false =>
     simp
     refine zab (contains1 digitsL c _) ?_
     rintro _ _ ⟨rfl, rfl⟩
     rw [digits_eq]
     cases hD : zaf c with
     | true =>
       simp
       refine zab (while_does (c :: q) digitsL zaf digits_eq (by decide) (by decide) (by decide) hl _) ?_
       rintro _ _ ⟨rfl, rfl⟩
       have ht := take_takeWhile zaf (c :: q)
       have hle : ((c :: q).takeWhile zaf).length <= (c :: q).length := (List.takeWhile_prefix zaf).length_le
       have hall : ∀ b ∈ (c :: q).takeWhile zaf, zaf b = true := fun b hb => List.all_eq_true.1 (List.all_takeWhile) b hb
       have hcons : (c :: q).takeWhile zaf = c :: q.takeWhile zaf := by rw [List.takeWhile_cons, if_pos hD]
       obtain ⟨t, htt⟩ : ∃ t, t = (c :: q).takeWhile zaf := ⟨_, rfl⟩
       rw [<- htt] at ht hle hall hcons ⊢
       simp only [List.length_cons] at hle hl
       have hle' : (t.length : Int) <= q.length + 1 := by omega
       simp [hle, hle', ht]
       refine zab (number_does t hall (by rw [hcons]; simp) (by omega) hG _) ?_
       rintro _ _ ⟨rfl, rfl⟩
       simp
       refine ⟨?_, ?_⟩
       · have hh : t.head? = some c := by rw [hcons]; rfl
         unfold WordIs wordS numOk numN
         simp only [hL, hD, <- htt, hh]
         by_cases g1 : zak t < 9223372036854775808
         · by_cases g2 : t.length = 1 \/ c ≠ 48
           · rcases g2 with g2 | g2 <;> simp [g1, g2, zaA]
           · simp only [not_or] at g2
             simp [g1, g2.1, Decidable.not_not.1 g2.2]
         · simp [g1]
       · intro j x hj
         simp [hj, old j x hj]
     | false =>
       simp
       refine zab (sign_does (c :: q) _) ?_
       rintro r _ ⟨hr, rfl⟩
       cases hs : signOf (c :: q) with
       | some t =>
         rw [hs] at hr
         simp only at hr
         subst hr
         simp
         refine ⟨?_, ?_⟩
         · simp [WordIs, wordS, hL, hD, hs, zaA]
         · intro j x hj
           simp [hj, old j x hj]
       | none =>
         rw [hs] at hr
         simp only at hr
         subst hr
         simp
         refine ⟨?_, ?_⟩
         · simp [WordIs, wordS, hL, hD, hs, zaA]
         · intro j x hj
           simp [hj, old j x hj]
 · rintro hw ha r H1 ⟨hr, h⟩
   refine ⟨h, ?_, hr, rfl⟩
   unfold WordIs at hr
   split at hr
   · subst hr; rfl
   · obtain ⟨k, t, n, rfl⟩ := hr; rfl
def flatW : List (Nat × Wd) -> List AV
 | [] => []
 | (i, w) :: l => zaA w i ++ flatW l
theorem flatW_append (a b : List (Nat × Wd)) : flatW (a ++ b) = flatW a ++ flatW b := by
 induction a with
 | nil => rfl
 | cons x a ih => obtain ⟨i, w⟩ := x; simp [flatW, ih]
@[simp] theorem wdCells_length (w : Wd) (i : Nat) : (zaA w i).length = 4 := rfl
@[simp] theorem flatW_length (l : List (Nat × Wd)) : (flatW l).length = l.length * 4 := by
 induction l with
 | nil => rfl
 | cons x l ih => obtain ⟨i, w⟩ := x; simp [flatW, ih]; omega
def cutAns (t : Bs) : AV := if 16384 < t.length then .tuple [.nilsl, .agg [.int .i64 2, .int .i64 t.length]] else match cutS t.length t with
 | .ok l => .tuple [.vsl (flatW l ++ [.int .i64 0, .str [], .int .i64 0, .int .i64 t.length]) (l.length + 1), .agg [.int .i64 0, .int .i64 0]]
 | .error e => .tuple [.nilsl, .agg [.int .i64 7, .int .i64 e]]
def Wrds (H : AHeap) (lo : Nat) (x : AV) (ws : List (Nat × Wd)) : Prop := (x = .nilsl /\ ws = []) \/ ∃ b, x = .sl b 0 4 ws.length ws.length true /\ lo <= b /\ H.get b = some (.cells (flatW ws))
def CutR (H : AHeap) (t : Bs) (r : AV) (H1 : AHeap) : Prop := (∀ j x, H.get j = some x -> H1.get j = some x) /\
 (if 16384 < t.length then r = .tuple [.nilsl, .agg [.int .i64 2, .int .i64 t.length]] else match cutS t.length t with
 | .ok l => ∃ b, H.next <= b /\ r = .tuple [.sl b 0 4 (l.length + 1) (l.length + 1) true, .agg [.int .i64 0, .int .i64 0]] /\ H1.get b = some (.cells (flatW l ++ [.int .i64 0, .str [], .int .i64 0, .int .i64 t.length]))
 | .error e => r = .tuple [.nilsl, .agg [.int .i64 7, .int .i64 e]])
theorem CutR.okEnd {H : AHeap} {t : Bs} {ws : List (Nat × Wd)} {H2 : AHeap} {b : Nat} (hL : ¬ 16384 < t.length) (hc : cutS t.length t = .ok ws) (hb : H.next <= b)
  (hg : H2.get b = some (.cells (flatW ws ++ [.int .i64 0, .str [], .int .i64 0, .int .i64 t.length]))) (hk : ∀ j x, H.get j = some x -> H2.get j = some x) :
  CutR H t (.tuple [.sl b 0 4 (ws.length + 1) (ws.length + 1) true, .agg [.int .i64 0, .int .i64 0]]) H2 := by
 refine ⟨hk, ?_⟩
 rw [if_neg hL, hc]
 exact ⟨b, hb, rfl, hg⟩
theorem CutR.badEnd {H : AHeap} {t : Bs} {e : Nat} {H2 : AHeap} (hL : ¬ 16384 < t.length) (hc : cutS t.length t = .error e) (hk : ∀ j x, H.get j = some x -> H2.get j = some x) :
  CutR H t (.tuple [.nilsl, .agg [.int .i64 7, .int .i64 e]]) H2 := by
 refine ⟨hk, ?_⟩
 rw [if_neg hL, hc]
theorem cut_live (t : Bs) (hG : HasErr G) (H : AHeap) (hbig : t.length < 9223372036854775808) : Does Tryz.prog G 121 [.str t] H (CutR H t) := by
 refine Does.wf Tryz.call121 fun hw _ => ?_
 have old : ∀ j x, H.get j = some x -> j < H.next := fun j x hj => next_lt hw hj
 refine zay Tryz.call121 Tryz.func121 rfl (by simp [Tryz.f121]) ?_
 by_cases hL : 16384 < t.length
 · have hL' : (16384 : Int) < t.length := by omega
   simp [hL']
   refine ⟨fun j x hj => ?_, by simp [hL]⟩
   have := old j x hj
   have h1 : j ≠ H.next := by omega
   simp [hj, h1]
 · have hL' : ¬ (16384 : Int) < t.length := by omega
   simp [hL']
   refine zab (between_does t (by omega) _) ?_
   rintro _ _ ⟨⟨n, rfl, hn, hbn⟩, rfl⟩
   simp
   refine aws_loopw (fun m T' H' => ∃ (ws : List (Nat × Wd)) (rest : Bs) (n : Nat), cutS t.length t = aheadW ws (cutS t.length rest) /\ n <= t.length /\ t.drop n = betw rest /\ m = t.length - n /\ ws.length <= n /\
    T' 0 = .str t /\ T' 3 = .ptr H.next 0 /\ T' 5 = .int .i64 n /\ Wrds H' (H.next + 1) (T' 4) ws /\ H'.get H.next = some (.cells [.int .i64 0, .int .i64 0]) /\ (∀ j x, H.get j = some x -> H'.get j = some x)) (t.length - n) ?_ ?_
   · refine ⟨[], t, n, ?_, hn, hbn, rfl, by simp, by simp, by simp, by simp, .inl ⟨by simp, rfl⟩, by simp, fun j x hj => ?_⟩
     · cases cutS t.length t <;> rfl
     · have := old j x hj
       have h1 : j ≠ H.next := by omega
       simp [hj, h1]
   rintro m T H1 ⟨ws, rest, n, hcut, hn, hbn, rfl, hws, h0, h3, h5, h4, hf, hkeep⟩ hw1 _
   have oldn : ∀ j x, H1.get j = some x -> j < H1.next := fun j x hj => next_lt hw1 hj
   have hfn := oldn _ _ hf
   have hne : H.next ≠ H1.next := by omega
   have hne2 : H.next ≠ H1.next + 1 := by omega
   have hne3 : H.next ≠ H1.next + 1 + 1 := by omega
   have hgrow : ¬ (ws.length + 1 <= ws.length) := by omega
   have hws' : ws.length <= 16384 := by omega
   by_cases hend : n = t.length
   · subst hend
     have hnil : betw rest = [] := by rw [<- hbn]; simp
     have hc : cutS t.length t = .ok ws := by rw [hcut, cutS_end hnil]; simp [aheadW]
     have hfin : ∀ j x, H.get j = some x -> H1.get j = some x /\ j ≠ H.next /\ j ≠ H1.next /\ j ≠ H1.next + 1 := fun j x hj => by
      have := old j x hj
      have := oldn j x (hkeep j x hj)
      exact ⟨hkeep j x hj, by omega, by omega, by omega⟩
     rcases h4 with ⟨h4, rfl⟩ | ⟨b, h4, hlo, hb⟩
     · simp [h0, h3, h4, h5, hf, hne, hne2, hne3]
       refine CutR.okEnd hL hc (by omega) (by simp [flatW, Ne.symm hne2]) fun j x hj => ?_
       obtain ⟨k1, k2, k3, k4⟩ := hfin j x hj
       simp [k1, k2, k3, k4]
     · have hbn' := oldn _ _ hb
       have hb1 : b ≠ H1.next := by omega
       have hb2 : H.next ≠ b := by omega
       have hl1 : (ws.length + 1) * 40 <= 140737488355328 := by omega
       have hl2 : ws.length <= 4611686018427387903 := by omega
       simp [h0, h3, h4, h5, hf, hne, hne2, hne3, hb, hb1, hb2, hgrow, hl1, hl2]
       have htk : List.take (ws.length * 4) (flatW ws) = flatW ws := by rw [List.take_of_length_le]; simp
       rw [htk]
       refine CutR.okEnd hL hc (by omega) (by simp [Ne.symm hne2]) fun j x hj => ?_
       obtain ⟨k1, k2, k3, k4⟩ := hfin j x hj
       have := old j x hj
       have k5 : j ≠ b := by omega
       simp [k1, k2, k3, k4, k5]
   · have hlt : (n : Int) < t.length := by omega
     have hn' : (n : Int) <= t.length := by omega
     obtain ⟨c, q, hcq⟩ : ∃ c q, t.drop n = c :: q := by
      cases h : t.drop n with
      | nil => rw [List.drop_eq_nil_iff] at h; omega
      | cons c q => exact ⟨c, q, rfl⟩
     have hlen : (c :: q).length = t.length - n := by rw [<- hcq]; simp
     rw [hcq] at hbn
     have htk0 : List.take (t.length - n) (c :: q) = c :: q := by rw [List.take_of_length_le]; omega
     simp [h0, h3, h4, h5, hf, hlt, hn, hn', hcq, htk0]
     refine zab (word_does c q (by omega) hG _) ?_
     rintro r H2 ⟨hr, e⟩
     subst e
     have hkeep2 : ∀ j x, H.get j = some x -> H2.get j = some x /\ j ≠ H.next /\ j ≠ H2.next /\ j ≠ H2.next + 1 /\ j ≠ H2.next + 1 + 1 := fun j x hj => by
      have := old j x hj
      have := oldn j x (hkeep j x hj)
      exact ⟨hkeep j x hj, by omega, by omega, by omega, by omega⟩
     unfold WordIs at hr
     cases hwd : wordS (c :: q) with
     | none =>
       rw [hwd] at hr
       simp only at hr
       obtain ⟨k, tx, nn, rfl⟩ := hr
       have hc : cutS t.length t = .error n := by
        rw [hcut, cutS_bad hbn.symm hwd, hlen]
        simp only [aheadW]
        congr 1
        omega
       simp [h0, h3, h4, h5, hf, hne]
       refine CutR.badEnd hL hc fun j x hj => ?_
       obtain ⟨k1, k2, k3, k4, k5⟩ := hkeep2 j x hj
       simp [k1, k2, k3]
     | some w =>
       rw [hwd] at hr
       simp only at hr
       subst hr
       obtain ⟨hpre, htne⟩ := wordS_text hwd
       have hwl : w.text.length <= (c :: q).length := hpre.length_le
       have hwl0 : w.text.length ≠ 0 := by simpa using htne
       rw [hlen] at hwl
       have hw1 : IntKind.i64.wrap ((n : Int) + w.text.length) = ((n + w.text.length : Nat) : Int) := by rw [IntWalk.i64_in _ (by omega)]; omega
       have hn2 : ((n + w.text.length : Nat) : Int) <= t.length := by omega
       have hn3 : n + w.text.length <= t.length := by omega
       have hrest : t.drop (n + w.text.length) = (c :: q).drop w.text.length := by rw [<- List.drop_drop, hcq]
       obtain ⟨n2, hn2'⟩ : ∃ n2, n2 = n + w.text.length := ⟨_, rfl⟩
       rw [<- hn2'] at hw1 hn2 hn3 hrest
       have hcut2 : cutS t.length t = aheadW (ws ++ [(n, w)]) (cutS t.length (t.drop n2)) := by
        rw [hcut, cutS_word hbn.symm hwd, hrest, hlen]
        have e : t.length - (t.length - n) = n := by omega
        rw [e]
        cases cutS t.length ((c :: q).drop w.text.length) <;> simp [aheadW]
       rcases h4 with ⟨h4, rfl⟩ | ⟨b, h4, hlo, hb⟩
       · simp [h0, h3, h4, h5, hf, hne, hne2, hne3, zaA, hw1, hn2, hn3]
         refine zab (between_does (t.drop n2) (by simp; omega) _) ?_
         rintro _ _ ⟨⟨k, rfl, hk, hk2⟩, rfl⟩
         simp only [List.length_drop] at hk
         have hw2 : IntKind.i64.wrap ((n2 : Int) + k) = ((n2 + k : Nat) : Int) := by rw [IntWalk.i64_in _ (by omega)]; omega
         simp [h0, h3, h4, h5, hf, hne, hne2, hne3, hw2]
         refine ⟨t.length - (n2 + k), by omega, [(n, w)], t.drop n2, by simpa using hcut2, n2 + k, by omega, by rw [<- List.drop_drop]; exact hk2, rfl, by simp; omega, by omega, .inr ⟨H2.next + 1 + 1, rfl, by omega, by simp [flatW, zaA]⟩, fun j x hj => ?_⟩
         obtain ⟨k1, k2, k3, k4, k5⟩ := hkeep2 j x hj
         simp [k1, k3, k4, k5]
       · have hbn' := oldn _ _ hb
         have hb1 : b ≠ H2.next := by omega
         have hb2 : H.next ≠ b := by omega
         have hb3 : b ≠ H2.next + 1 := by omega
         have hl1 : (ws.length + 1) * 40 <= 140737488355328 := by omega
         have hl2 : ws.length <= 4611686018427387903 := by omega
         have hb4 : H2.next ≠ b := Ne.symm hb1
         have hb5 : H2.next ≠ H2.next + 1 + 1 := by omega
         have htk : List.take (ws.length * 4) (flatW ws) = flatW ws := by rw [List.take_of_length_le]; simp
         simp [h0, h3, h4, h5, hf, hne, hne2, hne3, zaA, hw1, hn2, hn3, hb, hb1, hb2, hb3, hb4, hb5, hgrow, hl1, hl2, htk]
         refine zab (between_does (t.drop n2) (by simp; omega) _) ?_
         rintro _ _ ⟨⟨k, rfl, hk, hk2⟩, rfl⟩
         simp only [List.length_drop] at hk
         have hw2 : IntKind.i64.wrap ((n2 : Int) + k) = ((n2 + k : Nat) : Int) := by rw [IntWalk.i64_in _ (by omega)]; omega
         simp [h0, h3, h4, h5, hf, hne, hne2, hne3, hw2]
         refine ⟨t.length - (n2 + k), by omega, ws ++ [(n, w)], t.drop n2, hcut2, n2 + k, by omega, by rw [<- List.drop_drop]; exact hk2, rfl, by simp; omega, by omega, .inr ⟨H2.next + 1 + 1, by simp, by omega, by simp [flatW_append, flatW, zaA]⟩, hb2, fun j x hj => ?_⟩
         obtain ⟨k1, k2, k3, k4, k5⟩ := hkeep2 j x hj
         have := old j x hj
         have k6 : j ≠ b := by omega
         simp [k1, k3, k4, k5, k6]
theorem flatW_lt (n : Nat) : ∀ l : List (Nat × Wd), AV.allLt n (flatW l) = true
 | [] => rfl
 | (i, w) :: l => by simp [flatW, zaA, AV.allLt, AV.idLt, flatW_lt n l]
theorem allLt_app (n : Nat) (a b : List AV) : AV.allLt n (a ++ b) = (AV.allLt n a && AV.allLt n b) := AV.allLt_append a b
theorem cut_does (t : Bs) (hG : HasErr G) (H : AHeap) (hbig : t.length < 9223372036854775808) : Does Tryz.prog G 121 [.str t] H fun r H' => r = cutAns t /\ H' = H := by
 by_cases hL : 16384 < t.length
 · refine Does.forgot (cut_live t hG H hbig) ?_
   rintro hw ha r H1 ⟨hk, hr⟩
   rw [if_pos hL] at hr
   subst hr
   exact ⟨hk, rfl, by simp [cutAns, hL], rfl⟩
 · cases hc : cutS t.length t with
   | error e =>
     refine Does.forgot (cut_live t hG H hbig) ?_
     rintro hw ha r H1 ⟨hk, hr⟩
     rw [if_neg hL, hc] at hr
     simp only at hr
     subst hr
     exact ⟨hk, rfl, by simp [cutAns, hL, hc], rfl⟩
   | ok l =>
     refine Does.frozen (cut_live t hG H hbig) ?_
     rintro hw ha r H1 ⟨hk, hr⟩
     rw [if_neg hL, hc] at hr
     obtain ⟨b, hb, rfl, hg⟩ := hr
     refine ⟨b, _, hb, hg, hk, ?_, ?_, rfl⟩
     · simp [AV.frz, AV.frzs, AV.idLt, AV.allLt]
       rw [List.take_of_length_le (by simp; omega)]
       simp [allLt_app, flatW_lt, AV.allLt, AV.idLt]
     · simp [AV.frz, AV.frzs, cutAns, hL, hc]
       rw [List.take_of_length_le (by simp; omega)]
def isErrCell : Option AV -> Bool
 | some (.vptr [.iface _ _]) => true
 | _ => false
theorem errCell : isErrCell (Gof tab 2) = true := by kernel_rfl
theorem hasErr : HasErr (Gof tab) := by
 have h := errCell
 unfold isErrCell at h
 split at h
 · rename_i t v he; exact ⟨t, v, he⟩
 · simp at h
theorem flatW_cellsW (l : List (Nat × Wd)) : flatW l = cellsW l := by
 induction l with
 | nil => rfl
 | cons x l ih =>
   obtain ⟨i, w⟩ := x
   simp only [flatW, cellsW, ih, zaA]
theorem cutAns_eq (t : Bs) : cutAns t = cutA t := by
 unfold cutAns cutA
 split
 · rfl
 · cases cutS t.length t with
   | ok l => simp only [flatW_cellsW]
   | error e => rfl
theorem cutOv_good (args : List AV) (H : FH) (k : AV -> FH -> Bool) (h : cutOv args H k = true) :
  ∃ v H', Does Tryz.prog (Gof tab) 121 args H.abs (fun r h => r = v /\ h = FH.abs H') /\ H.next <= H'.next /\ k v H' = true := by
 obtain ⟨s, rfl, hl, hk⟩ := cutOv_inv h
 exact ⟨_, H, (cut_does s hasErr H.abs (by omega)).mono fun r h hr => ⟨hr.1.trans (cutAns_eq s), hr.2⟩, Nat.le_refl _, hk⟩
noncomputable def knownC : Ov := ovAdd 121 cutOv known
theorem knownC_good : zau Tryz.prog (Gof tab) knownC := zaq cutOv_good (known_good _)
end Go.Proofs.YtjfgldopgijonaaGreatDoor
namespace Go.Proofs.YtjfgldopgijonaaGreatDoor
open Go Go.Abs Go.RowKit
noncomputable def knownW : Ov := knownC
theorem knownW_good : zau Tryz.prog (Gof tab) knownW := knownC_good
noncomputable def knownP : Ov := knownW
theorem zar : zau Tryz.prog (Gof tab) knownP := knownW_good
end Go.Proofs.YtjfgldopgijonaaGreatDoor
namespace Go.Proofs.YtjfgldopgijonaaGreatDoor
open Go Go.Abs Go.Lex
theorem gof_low5 : ∀ (T : List (Nat × List AV)), (T.all fun p => (AV.vptr p.2).idLt 0) = true -> ∀ g a, Gof T g = some a -> a.idLt 0 = true
 | [], _, g, a, ha => by simp [Gof] at ha
 | (h, l) :: r, hT, g, a, ha => by
   simp only [List.all_cons, Bool.and_eq_true] at hT
   simp only [Gof] at ha
   split at ha
   · cases ha; exact hT.1
   · exact gof_low5 r hT.2 g a ha
theorem mixed5 : Tryz.prog.follows .mixedOrders = true := by kernel_rfl
theorem plain5 : plainFn Tryz.prog = true := by kernel_rfl
theorem zaT : ∀ g a, Gof tab g = some a -> a.idLt 0 = true := gof_low5 tab (by kernel_rfl)
end Go.Proofs.YtjfgldopgijonaaGreatDoor
