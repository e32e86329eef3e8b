/-
  Own library of this claim, part 5: texts one behind the other.
-/
import Derived.Test.YtekbjlihciedjaaGreatDoorLibRepLivesD
set_option maxRecDepth 100000
set_option maxHeartbeats 8000000
set_option linter.unusedVariables false
set_option linter.unusedSimpArgs false
namespace Go.Proofs.YtekbjlihciedjaaGreatDoor
open Go Go.Abs Go.Rp
variable {G : Nat -> Option AV}
def BsF (v : AV) (l : List Bs) : Prop := (v = .nilsl /\ l = []) \/ ∃ vs ts, v = .vsl (vs ++ ts) l.length /\ Bts vs l
@[simp] theorem cells_map (g : Nat) : (AV.map g).cells = [.map g] := rfl
@[simp] theorem scalar_map (g : Nat) : (AV.map g).scalar = true := rfl
theorem follow_does {H : AHeap} {i : Nat} {a0 a1 a2 a3 a4 a5 a6 a7 a8 a9 a10 : AV} (hi : H.get i = some (.cells [a0, a1, a2, a3, a4, a5, a6, a7, a8, a9, a10])) (hin : i < H.next) :
  Does Tryz.prog G 53 [.ptr i 0] H fun r h => r = .tuple [] /\ h = ((H.push (.map [])).push (.map [])).set i (.cells [a0, a1, a2, a3, a4, a5, .bool false, .int .i64 0, .map H.next, .map (H.next + 1), a10]) := by
 refine zad Tryz.call53 Tryz.func53 rfl (by simp [Tryz.f53]) ?_
 have e1 : i ≠ H.next := by omega
 have e2 : i ≠ H.next + 1 := by omega
 simp [hi, e1, e2]
 obtain ⟨nn, gg⟩ := H
 simp only [AHeap.push, AHeap.set, AHeap.mk.injEq, true_and]
 funext j
 by_cases e : j = i
 · simp [e]
 · simp [e]
def CoR (H : AHeap) (i g : Nat) (me n : Nat) (c : Cs) : Prop := ∃ lv, H.get i = some (.cells (csC me n c lv [.bool false, .int .i64 0, .map g, .map (g + 1), .nilsl])) /\ EnF lv c.list /\ H.get g = some (.map []) /\ H.get (g + 1) = some (.map []) /\ i ≠ g /\ i ≠ g + 1
theorem coNew_does {me n : Nat} (h1 : me < n) (h2 : n % 2 = 1) (h3 : n <= 7) (H : AHeap) :
  Does Tryz.prog G 29 [.int .i64 me, .int .i64 n] H fun r h => r = .tuple [.ptr H.next 0, .int .i64 0] /\ CoR h H.next (H.next + 1) me n ⟨0, 0, [], 0⟩ /\ ∀ j y, H.get j = some y -> h.get j = some y := by
 refine Does.wf Tryz.call29 fun hw _ => ?_
 refine zad Tryz.call29 Tryz.func29 rfl (by simp [Tryz.f29]) ?_
 have c1 : ¬ (n : Int) < 1 := by omega
 have c2 : ¬ (7 : Int) < n := by omega
 have c3 : (n : Int).tmod 2 = 1 := by
  have : n = 1 \/ n = 3 \/ n = 5 \/ n = 7 := by omega
  rcases this with rfl | rfl | rfl | rfl <;> decide
 have c4 : ¬ (me : Int) < 0 := by omega
 have c5 : ¬ (n : Int) <= me := by omega
 simp [c1, c2, c3, c4, c5]
 refine zac (follow_does (i := H.next) (if_pos rfl) (by simp)) ?_
 rintro r h ⟨rfl, rfl⟩ hw1 _
 simp
 refine ⟨⟨.nilsl, by simp [csC], .inl ⟨rfl, rfl⟩, by simp, by simp; omega, by simp, by simp; omega⟩, fun j y hj => ?_⟩
 have := zaa hw hj
 have q1 : j ≠ H.next := by omega
 have q2 : j ≠ H.next + 1 := by omega
 have q3 : j ≠ H.next + 1 + 1 := by omega
 simp [q1, q2, q3, hj]
theorem fresh_rows : ∀ (l : List En) (s : List Nat), fresh s l = true -> ∀ e ∈ l, e.l.length <= 16
 | [], _, _, e, he => by simp at he
 | a :: l, s, h, e, he => by
   simp only [fresh, may, Bool.and_eq_true, decide_eq_true_eq] at h
   rcases List.mem_cons.1 he with rfl | he
   · exact h.1.1.2
   · exact fresh_rows l _ h.2 e he
theorem listed_ok {l : List En} (h : listed l = true) : l.length <= 200 /\ ∀ e ∈ l, e.l.length <= 1000000 := by
 simp only [listed, Bool.and_eq_true, decide_eq_true_eq] at h
 exact ⟨h.2, fun e he => by have := fresh_rows l _ h.1 e he; omega⟩
theorem parse_ok {me n : Nat} {b : Bs} {x : Rc} (h : parse me n b = some x) (hl : b.length <= 1000000) : RcOk x /\ listed x.list = true := by
 unfold parse at h
 obtain ⟨u1, R1, e1⟩ : ∃ u R, (Rd.mk b false).U = (u, R) := ⟨_, _, rfl⟩
 obtain ⟨u2, R2, e2⟩ : ∃ u R, R1.U = (u, R) := ⟨_, _, rfl⟩
 obtain ⟨u3, R3, e3⟩ : ∃ u R, R2.U = (u, R) := ⟨_, _, rfl⟩
 obtain ⟨u4, R4, e4⟩ : ∃ u R, R3.U = (u, R) := ⟨_, _, rfl⟩
 obtain ⟨u5, R5, e5⟩ : ∃ u R, R4.U = (u, R) := ⟨_, _, rfl⟩
 obtain ⟨u6, R6, e6⟩ : ∃ u R, R5.U = (u, R) := ⟨_, _, rfl⟩
 obtain ⟨u7, R7, e7⟩ : ∃ u R, R6.U = (u, R) := ⟨_, _, rfl⟩
 have f1 := rdU_b e1 (by simpa using hl)
 have f2 := rdU_b e2 f1.2
 have f3 := rdU_b e3 f2.2
 have f4 := rdU_b e4 f3.2
 have f5 := rdU_b e5 f4.2
 have f6 := rdU_b e6 f5.2
 simp only [e1, e2, e3, e4, e5, e6, e7] at h
 split at h
 · cases h
 · split at h
   · cases h
   · split at h
     · rename_i hh
       simp only [Option.some.injEq] at h
       subst h
       have := listed_ok hh.2.2.2.2
       exact ⟨⟨this.1, this.2, by simp only; omega⟩, hh.2.2.2.2⟩
     · cases h
theorem apply_ok {c c' : Cs} {x : Rc} (h : apply c x = some c') (hc : listed c.list = true /\ c.agreed <= c.list.length) (hx : listed x.list = true) : listed c'.list = true /\ c'.agreed <= c'.list.length := by
 unfold apply at h
 split at h
 · split at h
   · cases h
   · cases h; exact hc
 · split at h
   · split at h
     · cases h
     · rename_i hh
       cases h
       refine ⟨hx, ?_⟩
       simp only [not_or, begins, Bool.not_eq_false, Bool.and_eq_true, decide_eq_true_eq, List.length_take] at hh
       simp only
       omega
   · split at h
     · split at h
       · rename_i hh
         cases h
         exact ⟨hh, by simp; omega⟩
       · cases h
     · split at h
       · split at h
         · cases h
         · cases h; exact ⟨hx, by simp only; omega⟩
       · cases h
theorem opened_ok {me n : Nat} : ∀ {l : List Bs} {c c' : Cs}, zaA me n c l = some c' -> (∀ b ∈ l, b.length <= 1000000) -> listed c.list = true /\ c.agreed <= c.list.length -> listed c'.list = true /\ c'.agreed <= c'.list.length
 | [], c, c', h, _, hc => by simp only [zaA, Option.some.injEq] at h; subst h; exact hc
 | b :: l, c, c', h, hl, hc => by
   simp only [zaA] at h
   split at h
   · cases h
   · rename_i x hx
     split at h
     · cases h
     · rename_i c1 h1
       exact opened_ok h (fun b hb => hl b (by simp [hb])) (apply_ok h1 hc (parse_ok hx (hl b (by simp))).2)
theorem BsF.alen {v : AV} {l : List Bs} (h : BsF v l) : Go.Abs.alen Tryz.prog 87 v = some (.int .i64 l.length) := by
 rcases h with ⟨rfl, rfl⟩ | ⟨vs, ts, rfl, _⟩ <;> simp [Go.Abs.alen]
def OpR (o : Option Cs) (H : AHeap) (me n : Nat) (r : AV) (h : AHeap) : Prop := match o with
 | none => r = .tuple [.nilptr, .int .i64 3] /\ h = H
 | some c => ∃ i, r = .tuple [.ptr i 0, .int .i64 0] /\ H.next <= i /\ (∃ g, H.next <= g /\ CoR h i g me n (if n = 1 then { c with agreed := c.list.length } else c)) /\ ∀ j y, H.get j = some y -> h.get j = some y
theorem coOpen_run {me n : Nat} (h1 : me < n) (h2 : n % 2 = 1) (h3 : n <= 7) {v : AV} {l : List Bs} (hv : BsF v l) (hlen : l.length <= 1000000) (hl : ∀ b ∈ l, b.length <= 1000000) (H : AHeap) :
  Does Tryz.prog G 35 [.int .i64 me, .int .i64 n, v] H fun r h => match zaA me n ⟨0, 0, [], 0⟩ l with
   | none => r = .tuple [.nilptr, .int .i64 3] /\ ∀ j y, H.get j = some y -> h.get j = some y
   | some _ => OpR (zaA me n ⟨0, 0, [], 0⟩ l) H me n r h := by
 refine Does.wf Tryz.call35 fun hw _ => ?_
 refine zad Tryz.call35 Tryz.func35 rfl (by simp [Tryz.f35]) ?_
 have hal := hv.alen
 obtain ⟨O, hO⟩ : ∃ O, O = zaA me n ⟨0, 0, [], 0⟩ l := ⟨_, rfl⟩
 rw [<- hO]
 simp [hal, -alen]
 refine zac (coNew_does h1 h2 h3 _) ?_
 rintro r H1 ⟨rfl, hc0, hk0⟩ hw1 _
 simp [hal, -alen]
 refine zam (fun k T' H' => ∃ j c, j + k = l.length /\ O = zaA me n c (l.drop j) /\ listed c.list = true /\ c.agreed <= c.list.length /\ CoR H' H.next (H.next + 1) me n c /\ (∀ j y, H.get j = some y -> H'.get j = some y) /\
  T' 8 = .ptr H.next 0 /\ T' 1 = .int .i64 n /\ T' 23 = v /\ T' 24 = .int .i64 l.length /\ T' 25 = .int .i64 j) l.length ?_ ?_
 · exact ⟨0, ⟨0, 0, [], 0⟩, by simp, by simpa using hO, by decide, by simp, hc0, hk0, by simp, by simp, by simp, by simp, by simp⟩
 rintro k T H' ⟨j, c, hjk, hOc, hls, hag, hcr, hk, t8, t1, t23, t24, t25⟩ hw2 _
 obtain ⟨lv, q1, q2, q3, q4, q5, q6⟩ := hcr
 by_cases hj : j < l.length
 · have hjj : (j : Int) < l.length := by omega
   have hd : l.drop j = l[j] :: l.drop (j + 1) := List.drop_eq_getElem_cons hj
   have hm : l[j] ∈ l := List.getElem_mem hj
   have hlb := hl _ hm
   obtain ⟨vs, ts, hvv, hvs⟩ : ∃ vs ts, v = .vsl (vs ++ ts) l.length /\ Bts vs l := by
    rcases hv with ⟨_, rfl⟩ | h
    · simp at hj
    · exact h
   obtain ⟨bv, hb1, hb2⟩ := hvs.get (n := j) (List.getElem?_eq_getElem hj)
   have hvl := hvs.len
   have hb3 : (vs ++ ts)[j]? = some bv := by rw [List.getElem?_append_left (by omega)]; exact hb1
   rw [hd] at hOc
   generalize l[j] = b at *
   rw [hvv] at t23
   have wr : IntKind.i64.wrap ((j : Int) + 1) = ((j + 1 : Nat) : Int) := by rw [IntWalk.i64_in _ (by omega)]; omega
   have bs := hb2.sc
   have bc := hb2.cells
   simp [t8, t1, t23, t24, t25, hj, hjj, hb3, bs, bc]
   refine zac (parse_does q1 (by omega) (by omega) hb2 hlb) ?_
   rintro r h ⟨hr, rfl⟩ hw3 _
   simp only [zaA] at hOc
   cases hp : parse me n b with
   | none =>
     rw [hp] at hr hOc
     obtain ⟨a1, a2, a3, a4, l', rfl⟩ := hr
     have ls := (EnF.entsV l').sc
     have lc := (EnF.entsV l').cells
     simp only at hOc
     simp [t8, ls, lc, hOc]
     intro j y hj
     have := hk j y hj
     have e : j ≠ h.next := by have := zaa hw3 this; omega
     simp [e, this]
   | some x =>
     rw [hp] at hr hOc
     simp only at hOc hr
     subst hr
     obtain ⟨px, pl⟩ := parse_ok hp hlb
     have ls := (EnF.entsV x.list).sc
     have lc := (EnF.entsV x.list).cells
     simp [t8, ls, lc]
     have hlo := listed_ok hls
     have hin := zaa hw3 q1
     have e0 : H.next ≠ h.next := by omega
     refine zac (apply_does (i := H.next) (me := me) (n := n) (c := c) (lv := lv) (rest := [.bool false, .int .i64 0, .map (H.next + 1), .map (H.next + 1 + 1), .nilsl]) (x := x) (by simp [e0, q1]) q2 ⟨hlo.1, hlo.2, hag⟩ px rfl) ?_
     rintro r h2 hr hw4 _
     have k0 : ∀ j y, H.get j = some y -> h.get j = some y := hk
     cases ha : apply c x with
     | none =>
       rw [ha] at hr hOc
       obtain ⟨rfl, rfl⟩ := hr
       simp only at hOc
       simp [t8, hOc]
       intro j y hj
       have := k0 j y hj
       have e : j ≠ h.next := by have := zaa hw3 this; omega
       simp [e, this]
     | some c' =>
       rw [ha] at hr hOc
       obtain ⟨rfl, lw, g1, g2, g3⟩ := hr
       have ok := apply_ok ha ⟨hls, hag⟩ pl
       simp [t1, t8, t23, t24, t25]
       have hkeep : ∀ y z, y ≠ H.next -> h.get y = some z -> h2.get y = some z := fun y z hy hz => g3 y z hy (by
        have e : y ≠ h.next := by have := zaa hw3 hz; omega
        simp [e, hz])
       refine ⟨k - 1, by omega, j + 1, by omega, c', hOc, ok.1, ok.2, ⟨lw, g2, g1, hkeep _ _ (by omega) q3, hkeep _ _ (by omega) q4, by omega, by omega⟩, fun y z hy => hkeep y z (by have := zaa hw hy; omega) (k0 y z hy), hvv.symm, wr⟩
 · have hjl : j = l.length := by omega
   subst hjl
   rw [List.drop_length] at hOc
   simp only [zaA] at hOc
   have hlo := listed_ok hls
   have hll : alen Tryz.prog 48 lv = some (.int .i64 c.list.length) := q2.alen (e := 62) (by simp)
   have ls := q2.sc
   have lc := q2.cells
   simp only [csC] at q1
   by_cases hn : n = 1
   · subst hn
     simp [t8, t1, t23, t24, t25, hOc, OpR, q1, csC, hll, ls, lc, -alen]
     refine ⟨⟨H.next + 1, by omega, lv, by simp [csC], q2, ?_, ?_, by omega, by omega⟩, fun j y hj => ?_⟩
     · simp [q3]
     · have : ¬ H.next + 1 + 1 = H.next := by omega
       simp [this, q4]
     · have : j ≠ H.next := by have := zaa hw hj; omega
       simp [this, hk j y hj]
   · have hn' : ¬ (n : Int) = 1 := by omega
     simp [t8, t1, t23, t24, t25, hOc, OpR, hn, hn']
     exact ⟨⟨H.next + 1, by omega, lv, q1, q2, q3, q4, by omega, by omega⟩, hk⟩
theorem coOpen_does {me n : Nat} (h1 : me < n) (h2 : n % 2 = 1) (h3 : n <= 7) {v : AV} {l : List Bs} (hv : BsF v l) (hlen : l.length <= 1000000) (hl : ∀ b ∈ l, b.length <= 1000000) (H : AHeap) :
  Does Tryz.prog G 35 [.int .i64 me, .int .i64 n, v] H (OpR (zaA me n ⟨0, 0, [], 0⟩ l) H me n) := by
 have h := coOpen_run (G := G) h1 h2 h3 hv hlen hl H
 generalize zaA me n ⟨0, 0, [], 0⟩ l = o at *
 cases o with
 | none => exact Does.forgot h (fun hw ha r H1 ⟨h1, h2⟩ => ⟨h2, by rw [h1]; rfl, h1, rfl⟩)
 | some c => exact h
theorem committed_does {H : AHeap} {i : Nat} {a0 a1 a2 a3 a6 a7 a8 a9 a10 lv : AV} {l : List En} {n : Nat} (hi : H.get i = some (.cells [a0, a1, a2, a3, lv, .int .i64 n, a6, a7, a8, a9, a10])) (hlv : EnF lv l) (hn : n <= l.length) (hl : l.length <= 1000000) (hr : ∀ e ∈ l, e.l.length <= 1000000) :
  Does Tryz.prog G 38 [.ptr i 0] H fun r h => r = entsV (l.take n) /\ h = H := by
 refine zad Tryz.call38 Tryz.func38 rfl (by simp [Tryz.f38]) ?_
 have ls := hlv.sc
 have lc := hlv.cells
 obtain ⟨w, hw', hsl⟩ := slice_take hlv hn
 simp
 refine zaj [(3, 0), (7, 0)] zah (by kernel_rfl) ?_
 intro es hes
 simp [zaf, -zag, hi, ls, lc, hsl, -aslice]
 refine ⟨_, _, copies_does hw' (by rw [List.length_take]; omega) (fun e he => hr e (List.mem_of_mem_take he)) _, Nat.le_refl _, ?_⟩
 refine ad_go (fun T' => T' 12 = entsV (l.take n)) (by simp) ?_
 rintro T1 a12
 simp [zaf, -zag, a12]
 refine ⟨by subst hes; exact ⟨by kernel_rfl, by kernel_rfl⟩, by simp [rds, heapF, hi, ls, lc]⟩
theorem Gr_lt {H : AHeap} {z n : Nat} {cs : List AV} {v : AV} {b : Nat -> Prop} (h : Gr H z n cs v b) (hw : ∀ j x, H.get j = some x -> j < H.next) : Gr H z n cs v (fun j => b j /\ j < H.next /\ ∃ c, H.get j = some (.cells c)) := by
 rcases h with h | ⟨p, o, cap, op, pre, junk, h1, h2, h3, h4⟩
 · exact .inl h
 · exact .inr ⟨p, o, cap, op, pre, junk, h1, ⟨h2, hw _ _ h3, _, h3⟩, h3, h4⟩
def msV (kind frm to : Int) (view last op commit : Int) (ev bv : AV) : AV := .agg [.int .i64 kind, .int .i64 frm, .int .i64 to, .int .u64 view, .int .u64 last, .int .u64 op, .int .u64 commit, ev, bv]
theorem send_self {H : AHeap} {i s : Nat} {me view : Int} {a1 a3 : AV} {cs : List AV} (hi : H.get i = some (.cells (.int .i64 me :: a1 :: .int .u64 view :: a3 :: cs))) {kind frm view' last op commit : Int} {ev bv : AV} (e1 : ev.scalar = true) (e2 : ev.cells = [ev]) (b1 : bv.scalar = true) (b2 : bv.cells = [bv]) :
  Does Tryz.prog G 88 [.ptr i 0, .ptr s 0, msV kind frm me view' last op commit ev bv] H fun r h => r = .tuple [] /\ h = H := by
 refine Does.forgot (R := fun r h => r = .tuple [] /\ ∀ j x, H.get j = some x -> h.get j = some x) ?_ (fun hw ha r H1 ⟨h1, h2⟩ => ⟨h2, by rw [h1]; rfl, h1, rfl⟩)
 refine Does.wf Tryz.call88 fun hw _ => ?_
 refine zad Tryz.call88 Tryz.func88 rfl (by simp [Tryz.f88]) ?_
 have hin := zaa hw hi
 have q1 : i ≠ H.next := by omega
 simp [msV, e1, e2, b1, b2]
 refine zaj [(3, 0), (7, 0), (7, 10)] zah (by kernel_rfl) ?_
 intro es hes
 simp [hi, q1, q1.symm]
 refine ⟨by subst hes; exact ⟨by kernel_rfl, by kernel_rfl⟩, by simp [rds, heapF, hi, q1, q1.symm, e1, e2, b1, b2], ?_⟩
 refine zaj [(1, 0), (5, 0)] zah (by kernel_rfl) ?_
 intro es hes
 simp [hi, q1, q1.symm]
 refine ⟨by subst hes; exact ⟨by kernel_rfl, by kernel_rfl⟩, by simp [rds, heapF, hi, q1, q1.symm, e1, e2, b1, b2], ?_⟩
 intro j x hj
 have := zaa hw hj
 have e0 : j ≠ H.next := by omega
 simp [e0, hj]
structure KpRec where
 last : Nat
 whole : Bs
 stepped : Nat
 state : Bs
def slots (x : Nat × Nat × Bs) : Option (Option KpRec) :=
 if x.1 = 0 then some none
 else
  let r1 := (Rd.mk x.2.2 false).U
  let r2 := r1.2.S
  let r3 := r2.2.U
  let r4 := r3.2.S
  if r4.2.bad = true \/ 0 < r4.2.b.length then none else some (some ⟨r1.1, r2.1, r3.1, r4.1⟩)
def kpV (k : KpRec) : AV := .agg [.int .u64 k.last, bV k.whole, .int .u64 k.stepped, bV k.state]
def kp0 : AV := .agg [.int .u64 0, .nilsl, .int .u64 0, .nilsl]
def SlR (H : AHeap) (o : Option (Option KpRec)) (r : AV) (h : AHeap) : Prop := h = H /\ r = match o with
 | none => .tuple [kp0, .bool false, .int .i64 3]
 | some none => .tuple [kp0, .bool false, .int .i64 0]
 | some (some k) => .tuple [kpV k, .bool true, .int .i64 0]
def SlG (H : AHeap) (o : Option (Option KpRec)) (r : AV) (h : AHeap) : Prop := (∀ j y, H.get j = some y -> h.get j = some y) /\ match o with
 | none => r = .tuple [kp0, .bool false, .int .i64 3]
 | some none => r = .tuple [kp0, .bool false, .int .i64 0]
 | some (some k) => ∃ p q, p ≠ q /\ H.next <= p /\ H.next <= q /\ h.get p = some (.cells (strCs k.whole)) /\ h.get q = some (.cells (strCs k.state)) /\
   r = .tuple [.agg [.int .u64 k.last, .sl p 0 1 k.whole.length k.whole.length true, .int .u64 k.stepped, .sl q 0 1 k.state.length k.state.length true], .bool true, .int .i64 0]
theorem slots_run {H : AHeap} {k : Nat} {d : Dk} (hk : DkAt H k d) (hok : dkOk d) (ho : d.off = false) (hl : (ckLast d.f1.now d.f2.now).2.2.length <= 1000000) :
  Does Tryz.prog G 32 [.ptr k 0] H (SlG H (slots (ckLast d.f1.now d.f2.now))) := by
 refine Does.wf Tryz.call32 fun hw _ => ?_
 refine zad Tryz.call32 Tryz.func32 rfl (by simp [Tryz.f32]) ?_
 have kn : k < H.next := by obtain ⟨c, _, hc⟩ := hk; exact zaa hw hc
 have hk1 : DkAt (H.push (.cells [.int .u64 0, .nilsl, .int .u64 0, .nilsl])) k d := by
  obtain ⟨c, h1, hc⟩ := hk
  have : k ≠ H.next := by omega
  exact ⟨c, h1, by simp [this, hc]⟩
 simp
 refine zac (ckLoad_run hk1 hok ho) ?_
 rintro r h ⟨⟨v, hv, rfl⟩, hs⟩ hw2 _
 generalize ckLast d.f1.now d.f2.now = x at *
 obtain ⟨f, n, b⟩ := x
 simp only at hv hl
 have old : ∀ j y, H.get j = some y -> j ≠ H.next /\ h.get j = some y := fun j y hj => by
  have := zaa hw hj
  have e : j ≠ H.next := by omega
  exact ⟨e, hs j y (by simp [e, hj])⟩
 have gn : h.get H.next = some (.cells [.int .u64 0, .nilsl, .int .u64 0, .nilsl]) := hs _ _ (by simp)
 have gnn := zaa hw2 gn
 have gnn' : H.next ≠ h.next := by omega
 by_cases hf : f = 0
 · subst hf
   simp [gn, slots, SlG, kp0]
   intro j y hj
   obtain ⟨q1, q2⟩ := old j y hj
   simp [q1, q2]
 simp only [hf, if_false]
 obtain ⟨u1, R1, e1⟩ : ∃ u R, (Rd.mk b false).U = (u, R) := ⟨_, _, rfl⟩
 obtain ⟨s2, R2, e2⟩ : ∃ u R, R1.S = (u, R) := ⟨_, _, rfl⟩
 obtain ⟨u3, R3, e3⟩ : ∃ u R, R2.U = (u, R) := ⟨_, _, rfl⟩
 obtain ⟨s4, R4, e4⟩ : ∃ u R, R3.S = (u, R) := ⟨_, _, rfl⟩
 have f1 := rdU_b e1 (by simpa using hl)
 have f2 := rdS_b e2 f1.2
 have f3 := rdU_b e3 f2.2
 have f4 := rdS_b e4 f3.2
 have hsl : slots (f, n, b) = if R4.bad = true \/ 0 < R4.b.length then none else some (some ⟨u1, s2, u3, s4⟩) := by
  unfold slots
  simp only [hf, if_false, e1, e2, e3, e4]
 rw [hsl]
 simp [hf]
 refine zac (packRead_does hv (by omega) _) ?_
 rintro r H1 ⟨rk, rfl, hrk, hr, hs1⟩ hw3 _
 have hrk : h.next <= rk := hrk
 have hr : RdAt H1 rk ⟨b, false⟩ := hr
 have step : ∀ {Ha Hb : AHeap} {R : Rd}, ((∀ j x, j < h.next -> h.get j = some x -> Ha.get j = some x)) -> RdTo Ha Hb rk R -> ((∀ j x, j < h.next -> h.get j = some x -> Hb.get j = some x)) := by
  rintro Ha Hb R g1 ht j x hj hx
  rw [ht.off (by omega)]; exact g1 j x hj hx
 have G1 : (∀ j x, j < h.next -> h.get j = some x -> H1.get j = some x) := fun j x hj hx => hs1 j x hx
 simp
 refine zac (rdU_e e1 hr (by simpa using hl)) ?_
 rintro r H2 ⟨rfl, ht⟩ hw4 _
 have G2 := step G1 ht
 have hr := ht.at
 simp
 refine zac (rdS_e e2 hr f1.2) ?_
 rintro r H3 ⟨rfl, ht⟩ hw5 _
 have G3 := step G2 ht
 have hr := ht.at
 have rk3 : rk < H3.next := by obtain ⟨v, _, hc⟩ := hr; exact zaa hw5 hc
 simp
 have m2 : s2.map (fun b => AV.int .u8 b.toNat) = strCs s2 := rfl
 rw [m2]
 have hr : RdAt (H3.push (.cells (strCs s2))) rk R2 := by
  obtain ⟨v, a1, a2⟩ := hr
  have e0 : rk ≠ H3.next := by omega
  exact ⟨v, a1, by simp [e0, a2]⟩
 have G3 : (∀ j x, j < h.next -> h.get j = some x -> (H3.push (.cells (strCs s2))).get j = some x) := fun j x hj hx => by
  have e0 : j ≠ H3.next := by omega
  simp [e0, G3 j x hj hx]
 refine zac (rdU_e e3 hr f2.2) ?_
 rintro r H4 ⟨rfl, ht⟩ hw6 _
 have G4 := step G3 ht
 have hp4 : H4.get H3.next = some (.cells (strCs s2)) := by rw [ht.off (by omega)]; simp
 have n4 : H4.next = H3.next + 1 := by rw [ht.next]; rfl
 have hr := ht.at
 simp
 refine zac (rdS_e e4 hr f3.2) ?_
 rintro r H5 ⟨rfl, ht⟩ hw7 _
 have G5 := step G4 ht
 have hp5 : H5.get H3.next = some (.cells (strCs s2)) := by rw [ht.off (by omega)]; exact hp4
 have n5 : H5.next = H3.next + 1 := by rw [ht.next, n4]
 have hr := ht.at
 have m4 : s4.map (fun b => AV.int .u8 b.toNat) = strCs s4 := rfl
 have g5 := G5 _ _ gnn gn
 have hz : H.next ≠ H5.next := by omega
 simp [m4, g5, hz]
 have rk0 : rk ≠ H.next := by omega
 have rk5 : rk ≠ H5.next := by omega
 generalize hV : AHeap.set (H5.push (.cells (strCs s4))) H.next _ = H6
 have hr6 : RdAt H6 rk R4 := by
  obtain ⟨v, a1, a2⟩ := hr
  exact ⟨v, a1, by rw [<- hV]; simp [rk0, rk5, a2]⟩
 have z6 : H6.get H.next = some (.cells [.int .u64 u1, .sl H3.next 0 1 s2.length s2.length true, .int .u64 u3, .sl H5.next 0 1 s4.length s4.length true]) := by rw [<- hV]; simp
 have p6 : H6.get H3.next = some (.cells (strCs s2)) := by
  have q1 : H3.next ≠ H.next := by omega
  have q2 : H3.next ≠ H5.next := by omega
  rw [<- hV]; simp [q1, q2, hp5]
 have q6 : H6.get H5.next = some (.cells (strCs s4)) := by
  rw [<- hV]; simp [hz.symm]
 have G6 : ∀ j x, H.get j = some x -> H6.get j = some x /\ j ≠ H.next := fun j x hj => by
  obtain ⟨o1, o2⟩ := old j x hj
  have o3 := zaa hw2 o2
  have q2 : j ≠ H5.next := by omega
  exact ⟨by rw [<- hV]; simp [o1, q2, G5 j x o3 o2], o1⟩
 refine zab (zaF hr6) ?_
 rintro r H7 ⟨rfl, rfl⟩
 have fin : ∀ X, ∀ j x, H.get j = some x -> (H7.set H.next X).get j = some x := fun X j x hj => by
  obtain ⟨o1, o2⟩ := G6 j x hj
  simp [o1, o2]
 obtain ⟨b4, d4⟩ := R4
 cases d4 with
 | true =>
   simp [z6, SlG, kp0]
   exact fin _
 | false =>
   simp
   refine zab (zaC hr6) ?_
   rintro r H8 ⟨rfl, rfl⟩
   by_cases h0 : b4 = []
   · subst h0
     simp [z6, SlG]
     have q1 : H3.next ≠ H.next := by omega
     have q2 : H5.next ≠ H.next := by omega
     exact ⟨fin _, H3.next, H5.next, by omega, by omega, by omega, by rw [if_neg q1]; exact p6, by rw [if_neg q2]; exact q6, rfl, rfl⟩
   · have c1 : (0 : Int) < b4.length := by have := List.length_pos_iff.2 h0; omega
     have c2 := List.length_pos_iff.2 h0
     simp [c1, c2, h0, z6, SlG, kp0]
     exact fin _
theorem slots_does {H : AHeap} {k : Nat} {d : Dk} (hk : DkAt H k d) (hok : dkOk d) (ho : d.off = false) (hl : (ckLast d.f1.now d.f2.now).2.2.length <= 1000000) :
  Does Tryz.prog G 32 [.ptr k 0] H (SlR H (slots (ckLast d.f1.now d.f2.now))) := by
 refine Does.wfs fun hw ha => (slots_run hk hok ho hl).ghost ?_
 rintro r h ⟨hs, h2⟩
 generalize slots (ckLast d.f1.now d.f2.now) = o at *
 match o, h2 with
 | none, h2 => exact ⟨_, _, Ghost.back hw (by rw [h2]; rfl) hs, rfl, h2⟩
 | some none, h2 => exact ⟨_, _, Ghost.back hw (by rw [h2]; rfl) hs, rfl, h2⟩
 | some (some k'), h2 =>
   obtain ⟨p, q, hpq, hp, hq, g1, g2, rfl⟩ := h2
   have e1 : List.take k'.whole.length (strCs k'.whole) = strCs k'.whole := by rw [<- zae, List.take_length]
   have e2 : List.take k'.state.length (strCs k'.state) = strCs k'.state := by rw [<- zae, List.take_length]
   have f1 := Ghost.frz (n := H.next) (r := .tuple [.agg [.int .u64 k'.last, .sl p 0 1 k'.whole.length k'.whole.length true, .int .u64 k'.stepped, .sl q 0 1 k'.state.length k'.state.length true], .bool true, .int .i64 0]) g1
   have g2' := zaH (cs := strCs k'.whole) g2 hpq.symm
   rw [frzs_strCs] at g2'
   simp only [AV.frz, AV.frzs, if_true, if_neg hpq.symm, List.drop_zero, Nat.mul_one, e1] at f1
   have f2 := Ghost.frz (n := H.next) (r := .tuple [.agg [.int .u64 k'.last, .vsl (strCs k'.whole) k'.whole.length, .int .u64 k'.stepped, .sl q 0 1 k'.state.length k'.state.length true], .bool true, .int .i64 0]) g2'
   simp only [AV.frz, AV.frzs, if_true, List.drop_zero, Nat.mul_one, e2, frzs_strCs] at f2
   exact ⟨_, _, (f1.trans f2).trans (Ghost.back hw (by simp [AV.idLt, AV.allLt, strCs_lt]) (AHeap.frz_old hw hq (AHeap.frz_old hw hp hs))), rfl, rfl⟩
end Go.Proofs.YtekbjlihciedjaaGreatDoor
namespace Go.Abs
open Go
theorem aw_frz {P : Program} {G : Nat -> Option AV} {N : Nat} {c : Code} {Q : Post} {T : Nat -> AV} {H : AHeap} {i : Nat} {cs : List AV} (hi : H.get i = some (.cells cs))
  (h : AW P G N c Q (fun t => (T t).frz i cs) (H.frz i cs)) : AW P G N c Q T H := by
 intro E0 a w hG hs
 obtain ⟨⟨E, hx, hR, hT⟩, hd⟩ := hs
 obtain ⟨E', hx', hR', hk⟩ := hR.frz hi
 exact h E0 a w hG ⟨⟨E', hx.trans hx', hR', ⟨hT.size, fun t => hk (hT.rel t)⟩⟩, hd⟩
theorem aws_loopz {X : Ctx} {c : Code} {Q : Post} {T : Nat -> AV} {H : AHeap} (I : Nat -> (Nat -> AV) -> AHeap -> Prop) (n : Nat) (h0 : I n T H)
  (round : ∀ n T H, I n T H -> H.Wf -> (∀ t, (T t).idLt H.next = true) -> @AWf ⟨X⟩ ⟨c⟩ ⟨QThen (fun T' H' => ∃ m, m < n /\ (I m T' H' \/ ∃ i cs, H'.get i = some (.cells cs) /\ I m (fun t => (T' t).frz i cs) (H'.frz i cs))) Q⟩ ⟨T⟩ H) : @AWs ⟨X⟩ ⟨.loop c⟩ ⟨Q⟩ ⟨T⟩ H := by
 refine aw_loop (fun n T' H' => I n T' H' \/ ∃ i cs, H'.get i = some (.cells cs) /\ I n (fun t => (T' t).frz i cs) (H'.frz i cs)) n (.inl h0) fun n T H h => ?_
 rcases h with h | ⟨i, cs, hi, h⟩
 · exact aw_wf fun hw ht => awf_of (round n T H h hw ht)
 · exact aw_frz hi (aw_wf fun hw ht => awf_of (round n _ _ h hw ht))
end Go.Abs
namespace Go.Proofs.YtekbjlihciedjaaGreatDoor
open Go Go.Abs Go.Rp
variable {G : Nat -> Option AV}
theorem Gr_frz' {H : AHeap} {z n : Nat} {cs : List AV} {v : AV} {b : Nat -> Prop} (h : Gr H z n cs v b) {i : Nat} {c : List AV} (hi : ∀ j, b j -> j ≠ i) : Gr (H.frz i c) z n (AV.frzs i c cs) v b := by
 rcases h with ⟨h1, h2, h3⟩ | ⟨p, o, cap, op, pre, junk, h1, h2, h3, h4, h5, h6, h7⟩
 · exact .inl ⟨h1, by rw [h2]; rfl, h3⟩
 · refine .inr ⟨p, o, cap, op, AV.frzs i c pre, AV.frzs i c junk, h1, h2, ?_, by rw [frzs_len]; exact h4, by rw [frzs_len]; exact h5, by rw [frzs_len]; exact h6, h7⟩
   rw [zaH h3 (hi p h2), zaU, zaU]
@[simp] theorem bV_cells (b : Bs) : (bV b).cells = [bV b] := (BtA.bV b).cells
@[simp] theorem bV_sc (b : Bs) : (bV b).scalar = true := (BtA.bV b).sc
theorem elemBs : ElemOk Tryz.prog 87 87 22 1 24 := ⟨by simp, ⟨.slice 22, by simp, rfl⟩, by simp⟩
def kpv : Option KpRec -> AV
 | none => kp0
 | some k => kpV k
def rrecs (ko : Option KpRec) (l : List Bs) : Option (List Bs × Nat) := (recs (match ko with | none => 0 | some k => k.last) l).map fun x => ((match ko with | none => [] | some k => [k.whole]) ++ x.1, x.2)
def lens (l : List Bs) : Nat := (l.map List.length).sum
theorem lens_append (a b : List Bs) : lens (a ++ b) = lens a + lens b := by simp only [lens, List.map_append, List.sum_append]
theorem lens_take {l : List Bs} {j : Nat} (h : j < l.length) : lens (l.take (j + 1)) = lens (l.take j) + (l[j]).length /\ lens (l.take (j + 1)) <= lens l := by
 refine ⟨?_, ?_⟩
 · rw [List.take_add_one, List.getElem?_eq_getElem h, lens_append]
   simp [lens]
 · have := lens_append (l.take (j + 1)) (l.drop (j + 1))
   rw [List.take_append_drop] at this
   omega
theorem bV_alen (b : Bs) : Go.Abs.alen Tryz.prog 22 (bV b) = some (.int .i64 b.length) := by simp [Go.Abs.alen, bV]
theorem u64_succ {n : Nat} (h : n < 2 ^ 64) : IntKind.u64.wrap ((n : Int) + 1) = ((n + 1) % 18446744073709551616 : Nat) := by
 by_cases hn : n + 1 < 18446744073709551616
 · rw [Nat.mod_eq_of_lt hn, IntWalk.u64_in _ (by omega)]; omega
 · have : n = 18446744073709551615 := by omega
   subst this
   decide
def rpC (a : List AV) (g last bytes : Nat) (e : List AV) : List AV := match a with
 | [a0, a1, a3, a4] => a0 :: a1 :: .ptr g 0 :: a3 :: a4 :: .int .u64 last :: .int .i64 bytes :: e
 | _ => []
def RcG (o : Option (List Bs × Nat)) (H : AHeap) (r g : Nat) (a e : List AV) (n : Nat) (x : AV) (h : AHeap) : Prop := match o with
 | none => x = .tuple [.nilsl, .bool false]
 | some (l, last) => (∃ v vs, x = .tuple [v, .bool true] /\ Gr h 1 l.length vs v (fun j => H.next <= j) /\ Bts vs l) /\ h.get r = some (.cells (rpC a g last n e)) /\ ∀ j y, j ≠ r -> H.get j = some y -> h.get j = some y
theorem records_run {H : AHeap} {r g k : Nat} {lv : AV} {L : Lg} {a0 a1 a3 a4 : AV} {e : List AV} (hr : H.get r = some (.cells (rpC [a0, a1, a3, a4] g 0 0 e))) (he : e.length = 7) (hg : LgAt H g k lv L) (hgr : g ≠ r) (hlr : ∀ i op, lv = .sl i 0 1 L.l.length L.l.length op -> i ≠ r)
  (hn : L.l.length <= 1000000) (hb : ∀ b ∈ L.l, b.length <= 1000000) (hs : lens L.l <= 1000000000) {ko : Option KpRec} (hko : ∀ k, ko = some k -> k.last < 2 ^ 64) :
  Does Tryz.prog G 34 [.ptr r 0, kpv ko, .bool ko.isSome] H (RcG (rrecs ko L.l) H r g [a0, a1, a3, a4] e (lens L.l)) := by
 refine Does.wf Tryz.call34 fun hw _ => ?_
 have hrr : ∃ e0 e1 e2 e3 e4 e5 e6, e = [e0, e1, e2, e3, e4, e5, e6] := by
  match e, he with
  | [a, b, c, d, e, f, g], _ => exact ⟨a, b, c, d, e, f, g, rfl⟩
 obtain ⟨e0, e1, e2, e3, e4, e5, e6, rfl⟩ := hrr
 simp only [rpC] at hr
 have hrn := zaa hw hr
 have r1 : r ≠ H.next := by omega
 have r2 : r ≠ H.next + 1 := by omega
 have r3 : r ≠ H.next + 1 + 1 := by omega
 refine zad Tryz.call34 Tryz.func34 rfl (by simp [Tryz.f34]) ?_
 obtain ⟨last0, pre, hlp⟩ : ∃ last0 pre, last0 = (match ko with | none => 0 | some k => k.last) /\ pre = (match ko with | none => [] | some k => [k.whole]) := ⟨_, _, rfl, rfl⟩
 have lsKeep : ∀ {H1 : AHeap}, (∀ j y, j ≠ r -> H.get j = some y -> H1.get j = some y) -> LgAt H1 g k lv L := fun hk1 => ⟨hk1 g _ hgr hg.1, hg.2.keep fun i op e => by
   rcases hg.2 with ⟨h, _⟩ | ⟨i', op', vs, h, hgi, _⟩
   · rw [h] at e; cases e
   · rw [e] at h; cases h
     rw [hgi, hk1 i _ (hlr i op e) hgi]⟩
 have nl : ∀ {j y}, H.get j = some y -> j ≠ H.next /\ j ≠ H.next + 1 /\ j ≠ H.next + 1 + 1 := fun {j y} hj => by
  have := zaa hw hj
  omega
 rcases ko with _ | kk
 case' none =>
  simp only at hlp
  simp [kpv, kp0, hr, r1, r2, r3]
  refine zac (lgLen_does (lsKeep fun j y jr hj => ?_)) ?_
  case' refine_1 => simp [jr, (nl hj).1, (nl hj).2.1, (nl hj).2.2, hj]
 case' some =>
  simp only at hlp
  have z3 : H.next ≠ H.next + 1 + 1 := by omega
  simp [kpv, kpV, hr, r1, r2, r3, z3]
  refine zac (lgLen_does (lsKeep fun j y jr hj => ?_)) ?_
  case' refine_1 => simp [jr, (nl hj).1, (nl hj).2.1, (nl hj).2.2, hj]
 case' none =>
  rintro x H1 ⟨rfl, hH1⟩ hw1 _
  obtain ⟨w, vs0, hw0, hG0, hB0⟩ : ∃ w vs0, w = .nilsl /\ Gr H1 1 pre.length vs0 w (fun j => H.next < j) /\ Bts vs0 pre := ⟨_, [], rfl, .inl ⟨by rw [hlp.2]; rfl, rfl, rfl⟩, by rw [hlp.2]; exact .nil⟩
  have hlast0 : last0 < 2 ^ 64 := by rw [hlp.1]; decide
  have hpl : pre.length <= 1 := by rw [hlp.2]; simp
  have hO : rrecs none L.l = (recs last0 L.l).map fun x => (pre ++ x.1, x.2) := by rw [hlp.1, hlp.2]; rfl
 case' some =>
  rintro x H1 ⟨rfl, hH1⟩ hw1 _
  obtain ⟨w, vs0, hw0, hG0, hB0⟩ : ∃ w vs0, w = .sl (H.next + 1 + 1) 0 1 1 1 true /\ Gr H1 1 pre.length vs0 w (fun j => H.next < j) /\ Bts vs0 pre := by
   refine ⟨_, [bV kk.whole], rfl, .inr ⟨H.next + 1 + 1, 0, 1, true, [], [], by rw [hlp.2]; rfl, by omega, by rw [hH1]; simp [r3.symm], rfl, by rw [hlp.2]; rfl, by rw [hlp.2]; rfl, by rw [hlp.2]; exact Nat.le_refl _⟩, by rw [hlp.2]; exact .cons (BtA.bV _) .nil⟩
  have hlast0 : last0 < 2 ^ 64 := by rw [hlp.1]; exact hko kk rfl
  have hpl : pre.length <= 1 := by rw [hlp.2]; simp
  have hO : rrecs (some kk) L.l = (recs last0 L.l).map fun x => (pre ++ x.1, x.2) := by rw [hlp.1, hlp.2]; rfl
 all_goals
  have hk1 : ∀ j y, j ≠ r -> H.get j = some y -> H1.get j = some y := fun j y jr hj => by rw [hH1]; simp [jr, (nl hj).1, (nl hj).2.1, (nl hj).2.2, hj]
  have hr1 : H1.get r = some (.cells (rpC [a0, a1, a3, a4] g last0 0 [e0, e1, e2, e3, e4, e5, e6])) := by rw [hH1, hlp.1]; simp [r1, r2, r3, hr, rpC]
  rw [hO]
  have hn1 : H.next < H1.next := by rw [hH1]; simp; try omega
  clear hO hlp hH1
  simp
  refine aws_loopz (fun m T' H' => ∃ j last sv w vs, j + m = L.l.length /\ (recs last0 L.l).map (fun x => (pre ++ x.1, x.2)) = (recs last (L.l.drop j)).map (fun x => (sv ++ x.1, x.2)) /\ last < 2 ^ 64 /\ sv.length <= j + 1 /\ Gr H' 1 sv.length vs w (fun j => H.next < j) /\ Bts vs sv /\
   H'.get r = some (.cells (rpC [a0, a1, a3, a4] g last (lens (L.l.take j)) [e0, e1, e2, e3, e4, e5, e6])) /\ (∀ j y, j ≠ r -> H.get j = some y -> H'.get j = some y) /\ H.next <= H'.next /\ T' 0 = .ptr r 0 /\ T' 8 = w /\ T' 30 = .int .i64 L.l.length /\ T' 31 = .int .i64 j) L.l.length ?_ ?_
  · refine ⟨0, last0, pre, w, vs0, by simp, by simp, hlast0, by simpa using hpl, hG0, hB0, by simpa [lens] using hr1, hk1, by omega, ?_, ?_, ?_, ?_⟩ <;> simp [hw0]
  clear hr1 hk1 hG0 hB0 hw0 hlast0 hw1 hn1
  rintro m T H' ⟨j, last, sv, w, vs, hjm, hO, hla, hsv, hG, hB, hr', hk, hHn, t0, t8, t30, t31⟩ hw1 _
  rw [hO]
  clear hO
  have hr0 := hr'
  simp only [rpC] at hr'
  have hwc := hG.cells
  have hws := hG.sc
  by_cases hj : j < L.l.length
  case neg =>
   have hjj : ¬ (j : Int) < L.l.length := by omega
   obtain rfl : j = L.l.length := by omega
   rw [List.drop_length, List.take_length] at *
   simp [t0, t8, t30, t31, recs, RcG, hwc, hws]
   exact ⟨⟨vs, hG.mono fun j hj => by omega, hB⟩, hr0, hk⟩
  have hjj : (j : Int) < L.l.length := by omega
  have hd : L.l.drop j = L.l[j] :: L.l.drop (j + 1) := List.drop_eq_getElem_cons hj
  have hgb : L.l[j]? = some L.l[j] := List.getElem?_eq_getElem hj
  have hlb := hb _ (List.getElem_mem hj)
  have htk := (lens_take hj).1
  have htl := (lens_take hj).2
  generalize L.l[j] = b at *
  rw [hd]
  have wr : IntKind.i64.wrap ((j : Int) + 1) = ((j + 1 : Nat) : Int) := by rw [IntWalk.i64_in _ (by omega)]; omega
  simp [t0, t8, t30, t31, hj, hjj, hr']
  refine zab (lgGet_does (lsKeep hk) hgb (by omega)) ?_
  rintro x h ⟨rfl, rfl⟩
  simp
  refine zac (packRead_does (BtA.bV b) (by omega) _) ?_
  rintro x H1 ⟨rk, rfl, hrk, hrd, hs1⟩ hw2 _
  have hrd : RdAt H1 rk ⟨b, false⟩ := hrd
  have hrk1 : rk < H1.next := by obtain ⟨v, _, hc⟩ := hrd; exact zaa hw2 hc
  have hrk : h.next <= rk := hrk
  obtain ⟨u1, R1, eU⟩ : ∃ u R, (Rd.mk b false).U = (u, R) := ⟨_, _, rfl⟩
  obtain ⟨s2, R2, eS⟩ : ∃ u R, R1.S = (u, R) := ⟨_, _, rfl⟩
  have f1 := rdU_b eU (by simpa using hlb)
  have f2 := rdS_b eS f1.2
  simp
  refine zac (rdU_e eU hrd (by simpa using hlb)) ?_
  rintro x H2 ⟨rfl, ht⟩ hw3 _
  have hs2 : ∀ q y, h.get q = some y -> H2.get q = some y := fun q y hq => by
   have := zaa hw1 hq
   rw [ht.off (by omega)]; exact hs1 q y hq
  have hrd := ht.at
  have hn2 : h.next < H2.next := by
   have := ht.next
   omega
  simp
  refine zac (rdS_e eS hrd f1.2) ?_
  rintro x H3 ⟨rfl, ht⟩ hw4 _
  have hs3 : ∀ q y, h.get q = some y -> H3.get q = some y := fun q y hq => by
   have := zaa hw1 hq
   rw [ht.off (by omega)]; exact hs2 q y hq
  have hrd := ht.at
  have hn3 : h.next <= H3.next := by
   have := ht.next
   omega
  clear ht hs1 hs2
  simp
  refine zab (zaF hrd) ?_
  rintro x h4 ⟨rfl, rfl⟩
  have hrec : recs last (b :: L.l.drop (j + 1)) = if R2.bad = true \/ 0 < R2.b.length \/ u1 = 0 \/ (last + 1) % 18446744073709551616 < u1 then none
    else if u1 = (last + 1) % 18446744073709551616 then (recs ((last + 1) % 18446744073709551616) (L.l.drop (j + 1))).map fun x => (s2 :: x.1, x.2) else recs last (L.l.drop (j + 1)) := by
   simp only [recs, eU, eS]
  have wl := u64_succ hla
  have hnxl : (last + 1) % 18446744073709551616 < 2 ^ 64 := Nat.mod_lt _ (by decide)
  rw [hrec]
  clear hrec
  have hr3 := hs3 _ _ hr'
  generalize (last + 1) % 18446744073709551616 = nx at *
  obtain ⟨b2, d2⟩ := R2
  cases d2 with
  | true =>
    simp [RcG]
  | false =>
    simp
    refine zab (zaC hrd) ?_
    rintro x h5 ⟨rfl, rfl⟩
    by_cases h0 : b2 = []
    case neg =>
     have c2 := List.length_pos_iff.2 h0
     have c1 : (0 : Int) < b2.length := by omega
     simp [c1, c2, h0, RcG]
    subst h0
    by_cases hu0 : u1 = 0
    · have hu0' : (u1 : Int) = 0 := by omega
      simp [hu0, hu0', RcG]
    have hu0' : ¬ (u1 : Int) = 0 := by omega
    by_cases hnx : nx < u1
    · have hnx' : (nx : Int) < u1 := by omega
      simp [hu0, hu0', t0, hr3, wl, hnx, hnx', RcG]
    have hnx' : ¬ (nx : Int) < u1 := by omega
    have wb : IntKind.i64.wrap ((lens (L.l.take j) : Int) + b.length) = (lens (L.l.take (j + 1)) : Nat) := by rw [htk, IntWalk.i64_in _ (by omega)]; omega
    simp [hu0, hu0', t0, hr3, wl, hnx, hnx', bV_alen, wb, -alen]
    have hrn4 := zaa hw4 hr3
    have hG5 : Gr h5 1 sv.length vs w (fun j => H.next < j /\ j < h.next) := by
     have : Gr h 1 sv.length vs w (fun j => H.next < j /\ j < h.next) := (Gr_lt hG fun j x => zaa hw1).mono fun j hj => ⟨hj.1, hj.2.1⟩
     exact this.keep fun j x _ hx => hs3 j x hx
    by_cases hun : u1 = nx
    case neg =>
     have hun' : ¬ (u1 : Int) = nx := by omega
     rw [if_neg hun]
     simp [hun, hun', t0, t8, t30, t31]
     refine ⟨m - 1, by omega, .inl ⟨j + 1, by omega, last, sv, by simp [hu0, hnx], hla, by omega, w, vs, (hG5.keep fun q x hq hx => ?_).mono fun q hq => hq.1, hB, rfl, fun q y hq hy => ?_, by omega, rfl, wr⟩⟩
     · have : q ≠ r := by omega
       simp [this, hx]
     · simp [hq, hs3 _ _ (hk q y hq hy)]
    have hun' : (u1 : Int) = nx := by omega
    rw [if_pos hun]
    have ms : s2.map (fun b => AV.int .u8 b.toNat) = strCs s2 := rfl
    have h5n := zaa hw4 (hs3 _ _ hr')
    have hn5 : h.next <= h5.next := hn3
    have r5 : r ≠ h5.next := by omega
    have r6 : r ≠ h5.next + 1 := by omega
    have hG6 : Gr (((h5.set r (.cells (rpC [a0, a1, a3, a4] g last (lens (L.l.take (j + 1))) [e0, e1, e2, e3, e4, e5, e6]))).push (.cells (strCs s2))).push (.cells [.sl h5.next 0 1 s2.length s2.length true])) 1 sv.length vs w (fun j => H.next < j /\ j < h.next) :=
     hG5.keep fun q x hq hx => by
      have q1 : q ≠ r := by omega
      have q2 : q ≠ h5.next := by omega
      have q3 : q ≠ h5.next + 1 := by omega
      simp [q1, q2, q3, hx]
    obtain ⟨v', eff, g1, g2, g3, g4⟩ := hG6.app elemBs (m := 1) (x := .sl (h5.next + 1) 0 1 1 1 false) (news := [.sl h5.next 0 1 s2.length s2.length true]) (fun _ _ e => by cases e) rfl (by simp [zal]) rfl rfl (by omega) (by omega) (by omega) (by omega) (nx := h5.next + 1 + 1) rfl
    simp only [rpC] at g1 g2 g3 g4
    have vc := g2.cells
    have vsc := g2.sc
    simp [hun, hun', t0, t8, t30, t31, ms, -zan]
    rw [g1]
    generalize hH6 : ((h5.set r (.cells [a0, a1, .ptr g 0, a3, a4, .int .u64 last, .int .i64 (lens (L.l.take (j + 1))), e0, e1, e2, e3, e4, e5, e6])).push (.cells (strCs s2))).push (.cells [.sl h5.next 0 1 s2.length s2.length true]) = H6 at *
    have n6 : H6.next = h5.next + 1 + 1 := by rw [<- hH6]; rfl
    have hr6 : (H6.eff eff).get r = some (.cells [a0, a1, .ptr g 0, a3, a4, .int .u64 last, .int .i64 (lens (L.l.take (j + 1))), e0, e1, e2, e3, e4, e5, e6]) := by
     rw [g3 r (by omega) (by omega), <- hH6]
     simp [r5, r6]
    have hp6 : (H6.eff eff).get h5.next = some (.cells (strCs s2)) := by
     rw [g3 h5.next (by omega) (by omega), <- hH6]
     simp
    simp [t0, hr6, t8, t30, t31, vc, vsc]
    have vfz : AV.frz h5.next (strCs s2) v' = v' := Gr_frzV g2 fun q hq => by omega
    have hec := (hw r _ hr).2
    simp only [AObj.cellsList, AV.allLt, Bool.and_eq_true] at hec
    obtain ⟨f0, f1', f2', f3, f4', _, _, f7⟩ := hec
    have pc : h5.next ≠ r := r5.symm
    refine ⟨m - 1, by omega, .inr ⟨h5.next, strCs s2, by rw [if_neg pc]; exact hp6, j + 1, by omega, nx, sv ++ [s2], ?_, hnxl, by simp; omega, v', AV.frzs h5.next (strCs s2) (vs ++ [.sl h5.next 0 1 s2.length s2.length true]), ?_, ?_, ?_, fun q y hq hy => ?_, ?_, ?_, vfz, rfl, ?_⟩⟩
    · rw [if_neg (by simp [hu0, hnx])]
      cases recs nx (List.drop (j + 1) L.l) with
      | none => rfl
      | some x => simp
    · rw [List.length_append]
      have g5 : Gr ((H6.eff eff).set r (.cells [a0, a1, .ptr g 0, a3, a4, .int .u64 u1, .int .i64 (lens (L.l.take (j + 1))), e0, e1, e2, e3, e4, e5, e6])) 1 (sv.length + 1) (vs ++ [.sl h5.next 0 1 s2.length s2.length true]) v' (fun q => H.next < q /\ q ≠ h5.next) :=
       (g2.keep fun q x hq hx => by
         have : q ≠ r := by rcases hq with hq | hq <;> omega
         simp [this, hx]).mono fun q hq => by
          rcases hq with hq | hq <;> exact ⟨by omega, by omega⟩
      exact (Gr_frz' g5 fun q hq => hq.2).mono fun q hq => hq.1
    · rw [zaU]
      have e1 : AV.frzs h5.next (strCs s2) [.sl h5.next 0 1 s2.length s2.length true] = [bV s2] := by simp [AV.frzs, AV.frz, bV, take_strCs]
      rw [e1]
      exact (hB.frz _ _).snoc (BtA.bV s2)
    · rw [zaH (c := [a0, a1, .ptr g 0, a3, a4, .int .u64 u1, .int .i64 (lens (L.l.take (j + 1))), e0, e1, e2, e3, e4, e5, e6]) (by simp) r5]
      have hle : H.next <= h5.next := by omega
      simp only [AV.frzs, AV.frz_lt hle _ f0, AV.frz_lt hle _ f1', AV.frz_lt hle _ f2', AV.frz_lt hle _ f3, AV.frz_lt hle _ f4', rpC, hun', AV.frz_lt hle _ f7.1, AV.frz_lt hle _ f7.2.1, AV.frz_lt hle _ f7.2.2.1, AV.frz_lt hle _ f7.2.2.2.1, AV.frz_lt hle _ f7.2.2.2.2.1, AV.frz_lt hle _ f7.2.2.2.2.2.1, AV.frz_lt hle _ f7.2.2.2.2.2.2.1]
      rfl
    · refine frz_old1 hw (by omega) hy ?_
      have hq5 : q < h.next := zaa hw1 (hk q y hq hy)
      have q0 : q <= H.next := by have := zaa hw hy; omega
      simp only [AHeap.get_set, if_neg hq]
      rw [g3 q (by omega) (by omega), <- hH6]
      have q2 : q ≠ h5.next := by omega
      have q3 : q ≠ h5.next + 1 := by omega
      simp [hq, q2, q3, hs3 _ _ (hk q y hq hy)]
    · simp only [AHeap.frz, AHeap.next_set]
      omega
    · simp [AV.frz, r5]
    · rw [wr]; rfl
def RcF (o : Option (List Bs × Nat)) (H : AHeap) (r g : Nat) (a e : List AV) (n : Nat) (x : AV) (h : AHeap) : Prop := match o with
 | none => x = .tuple [.nilsl, .bool false]
 | some (l, last) => (∃ v, x = .tuple [v, .bool true] /\ BsF v l) /\ h.get r = some (.cells (rpC a g last n e)) /\ ∀ j y, j ≠ r -> H.get j = some y -> h.get j = some y
theorem records_does {H : AHeap} {r g k : Nat} {lv : AV} {L : Lg} {a0 a1 a3 a4 : AV} {e : List AV} (hr : H.get r = some (.cells (rpC [a0, a1, a3, a4] g 0 0 e))) (he : e.length = 7) (hg : LgAt H g k lv L) (hgr : g ≠ r) (hlr : ∀ i op, lv = .sl i 0 1 L.l.length L.l.length op -> i ≠ r)
  (hn : L.l.length <= 1000000) (hb : ∀ b ∈ L.l, b.length <= 1000000) (hs : lens L.l <= 1000000000) {ko : Option KpRec} (hko : ∀ k, ko = some k -> k.last < 2 ^ 64) :
  Does Tryz.prog G 34 [.ptr r 0, kpv ko, .bool ko.isSome] H (RcF (rrecs ko L.l) H r g [a0, a1, a3, a4] e (lens L.l)) := by
 refine Does.wfs fun hw ha => (records_run hr he hg hgr hlr hn hb hs hko).ghost ?_
 intro x h hx
 generalize rrecs ko L.l = o at *
 match o, hx with
 | none, hx => exact ⟨_, _, Ghost.refl, hx⟩
 | some (l, last), hx =>
   obtain ⟨⟨v, vs, rfl, h1, h2⟩, h3, h4⟩ := hx
   rcases h1 with ⟨a1, a2, rfl⟩ | ⟨p, o, cap, op, pre, junk, rfl, b2, b3, b4, b5, b6, b7⟩
   · exact ⟨_, _, Ghost.refl, ⟨.nilsl, rfl, .inl ⟨rfl, List.length_eq_zero_iff.1 a1⟩⟩, h3, h4⟩
   · have hrn := zaa hw hr
     have ev : AV.frz p (pre ++ (vs ++ junk)) (.tuple [.sl p o 1 l.length cap op, .bool true]) = .tuple [.vsl vs l.length, .bool true] := by
      simp only [AV.frz, AV.frzs, if_true, List.drop_left' b4, List.take_left' b5]
     have f1 := Ghost.frz (n := H.next) (r := .tuple [.sl p o 1 l.length cap op, .bool true]) b3
     rw [ev] at f1
     refine ⟨_, _, f1, ⟨_, rfl, .inr ⟨vs, [], by rw [List.append_nil], h2⟩⟩, ?_, fun j y hj hy => frz_old1 hw b2 hy (h4 j y hj hy)⟩
     have hrr : ∃ e0 e1 e2 e3 e4 e5 e6, e = [e0, e1, e2, e3, e4, e5, e6] := by
      match e, he with
      | [a, b, c, d, e, f, g], _ => exact ⟨a, b, c, d, e, f, g, rfl⟩
     obtain ⟨e0, e1, e2, e3, e4, e5, e6, rfl⟩ := hrr
     have hec := (hw r _ hr).2
     simp only [AObj.cellsList, AV.allLt, Bool.and_eq_true, rpC] at hec
     obtain ⟨f0, f1', f2', f3, f4', _, _, f7⟩ := hec
     rw [zaH h3 (by omega)]
     simp only [AV.frzs, AV.frz_lt b2 _ f0, AV.frz_lt b2 _ f1', AV.frz_lt b2 _ f2', AV.frz_lt b2 _ f3, AV.frz_lt b2 _ f4', rpC, AV.frz_lt b2 _ f7.1, AV.frz_lt b2 _ f7.2.1, AV.frz_lt b2 _ f7.2.2.1, AV.frz_lt b2 _ f7.2.2.2.1, AV.frz_lt b2 _ f7.2.2.2.2.1, AV.frz_lt b2 _ f7.2.2.2.2.2.1, AV.frz_lt b2 _ f7.2.2.2.2.2.2.1]
     rfl
end Go.Proofs.YtekbjlihciedjaaGreatDoor
namespace Go.Rp
open Go Go.Abs
def addI (a b : Int) : Int := IntKind.u32.wrap (a + b)
def xorI (a b : Int) : Int := IntKind.u32.wrap ((BitVec.ofInt IntKind.u32.bits a ^^^ BitVec.ofInt IntKind.u32.bits b).toNat : Nat)
def andI (a b : Int) : Int := IntKind.u32.wrap ((BitVec.ofInt IntKind.u32.bits a &&& BitVec.ofInt IntKind.u32.bits b).toNat : Nat)
def orI (a b : Int) : Int := IntKind.u32.wrap ((BitVec.ofInt IntKind.u32.bits a ||| BitVec.ofInt IntKind.u32.bits b).toNat : Nat)
def shlI (a : Int) (n : Nat) : Int := IntKind.u32.wrap (a * 2 ^ (min n IntKind.u32.bits))
def shrI (a : Int) (n : Nat) : Int := a.fdiv (2 ^ (min n IntKind.u32.bits))
def notI (a : Int) : Int := IntKind.u32.wrap ((BitVec.ofInt IntKind.u32.bits (if IntKind.u32.signed then -1 else IntKind.u32.max) ^^^ BitVec.ofInt IntKind.u32.bits a).toNat : Nat)
def cvI (n : Int) : Int := IntKind.u32.wrap n
def rotI (x : Int) (n : Nat) : Int := orI (shlI x n) (shrI x (32 - n))
theorem o_add (a b : Int) : aint2 .add .u32 a b = some (.int .u32 (addI a b)) := rfl
theorem o_xor (a b : Int) : aint2 .xor .u32 a b = some (.int .u32 (xorI a b)) := rfl
theorem o_and (a b : Int) : aint2 .and .u32 a b = some (.int .u32 (andI a b)) := rfl
theorem o_or (a b : Int) : aint2 .or .u32 a b = some (.int .u32 (orI a b)) := rfl
theorem o_add64 (a b : Int) : aint2 .add .i64 a b = some (.int .i64 (IntKind.i64.wrap (a + b))) := rfl
theorem o_sub64 (a b : Int) : aint2 .sub .i64 a b = some (.int .i64 (IntKind.i64.wrap (a - b))) := rfl
theorem o_mul64 (a b : Int) : aint2 .mul .i64 a b = some (.int .i64 (IntKind.i64.wrap (a * b))) := rfl
theorem o_lss64 (a b : Int) : aint2 .lss .i64 a b = some (.bool (decide (a < b))) := rfl
theorem o_geq64 (a b : Int) : aint2 .geq .i64 a b = some (.bool (decide (a ≥ b))) := rfl
theorem o_subU (a b : Int) : aint2 .sub .u64 a b = some (.int .u64 (IntKind.u64.wrap (a - b))) := rfl
theorem o_mulU (a b : Int) : aint2 .mul .u64 a b = some (.int .u64 (IntKind.u64.wrap (a * b))) := rfl
theorem o_shl (a : Int) (n : Nat) : zaB .shl .u32 a (n : Int) = some (.int .u32 (shlI a n)) := by simp only [zaB]; rw [if_neg (by omega)]; rfl
theorem o_shr (a : Int) (n : Nat) : zaB .shr .u32 a (n : Int) = some (.int .u32 (shrI a n)) := by simp only [zaB]; rw [if_neg (by omega)]; rfl
theorem o_not (a : Int) : aun .xor (.int .u32 a) = some (.int .u32 (notI a)) := rfl
theorem o_shl24 (a : Int) : zaB .shl .u32 a 24 = some (.int .u32 (shlI a 24)) := rfl
theorem o_shl16 (a : Int) : zaB .shl .u32 a 16 = some (.int .u32 (shlI a 16)) := rfl
theorem o_shl8 (a : Int) : zaB .shl .u32 a 8 = some (.int .u32 (shlI a 8)) := rfl
theorem o_shr3 (a : Int) : zaB .shr .u32 a 3 = some (.int .u32 (shrI a 3)) := rfl
theorem o_shr10 (a : Int) : zaB .shr .u32 a 10 = some (.int .u32 (shrI a 10)) := rfl
def u32s (l : List Int) : List AV := l.map (.int .u32 ·)
theorem za1 (l : List Int) : (u32s l).length = l.length := by simp [u32s]
theorem u32s_set (l : List Int) (i : Nat) (x : Int) : (u32s l).set i (.int .u32 x) = u32s (l.set i x) := by simp [u32s, List.map_set]
theorem u32s_at {l : List Int} {i : Nat} (h : i < l.length) : (u32s l)[i]? = some (.int .u32 (l.getD i 0)) := by simp [u32s, h]
theorem u32s_sc (l : List Int) : (u32s l).all AV.scalar = true := by simp [u32s]
def byteI (b : Bs) (i : Nat) : Int := cvI ((b.getD i 0).toNat : Int)
def word0 (b : Bs) (i : Nat) : Int := orI (orI (orI (shlI (byteI b (4 * i)) 24) (shlI (byteI b (4 * i + 1)) 16)) (shlI (byteI b (4 * i + 2)) 8)) (byteI b (4 * i + 3))
def words0 (b : Bs) : Nat -> List Int -> List Int
 | 0, w => w
 | i + 1, w => (words0 b i w).set i (word0 b i)
def word1 (w : List Int) (i : Nat) : Int :=
 addI (addI (addI (w.getD (i - 16) 0) (xorI (xorI (rotI (w.getD (i - 15) 0) 25) (rotI (w.getD (i - 15) 0) 14)) (shrI (w.getD (i - 15) 0) 3))) (w.getD (i - 7) 0)) (xorI (xorI (rotI (w.getD (i - 2) 0) 15) (rotI (w.getD (i - 2) 0) 13)) (shrI (w.getD (i - 2) 0) 10))
def words1 : Nat -> List Int -> List Int
 | 0, w => w
 | i + 1, w => (words1 i w).set (16 + i) (word1 (words1 i w) (16 + i))
def zeros (n : Nat) : List Int := List.replicate n 0
def sched (b : Bs) : List Int := words1 48 (words0 b 16 (zeros 64))
theorem words0_len (b : Bs) (w : List Int) : ∀ i, (words0 b i w).length = w.length
 | 0 => rfl
 | i + 1 => by simp [words0, words0_len b w i]
theorem words1_len (w : List Int) : ∀ i, (words1 i w).length = w.length
 | 0 => rfl
 | i + 1 => by simp [words1, words1_len w i]
theorem sched_len (b : Bs) : (sched b).length = 64 := by simp [sched, words1_len, words0_len, zeros]
def rnd (k w : Int) (v : List Int) : List Int :=
 let a := v.getD 0 0
 let e := v.getD 4 0
 let s1 := xorI (xorI (rotI e 26) (rotI e 21)) (rotI e 7)
 let t1 := addI (addI (addI (addI (v.getD 7 0) s1) (xorI (andI e (v.getD 5 0)) (andI (notI e) (v.getD 6 0)))) k) w
 let s0 := xorI (xorI (rotI a 30) (rotI a 19)) (rotI a 10)
 let t2 := addI s0 (xorI (xorI (andI a (v.getD 1 0)) (andI a (v.getD 2 0))) (andI (v.getD 1 0) (v.getD 2 0)))
 [addI t1 t2, v.getD 0 0, v.getD 1 0, v.getD 2 0, addI (v.getD 3 0) t1, v.getD 4 0, v.getD 5 0, v.getD 6 0]
def rnds (k w : List Int) : Nat -> List Int -> List Int
 | 0, v => v
 | i + 1, v => rnd (k.getD i 0) (w.getD i 0) (rnds k w i v)
theorem rnd_len (k w : Int) (v : List Int) : (rnd k w v).length = 8 := rfl
theorem rnds_len (k w : List Int) {v : List Int} (h : v.length = 8) : ∀ i, (rnds k w i v).length = 8
 | 0 => h
 | i + 1 => rnd_len _ _ _
def adds (h v : List Int) : Nat -> List Int
 | 0 => h
 | i + 1 => (adds h v i).set i (addI ((adds h v i).getD i 0) (v.getD i 0))
theorem adds_len (h v : List Int) : ∀ i, (adds h v i).length = h.length
 | 0 => rfl
 | i + 1 => by simp [adds, adds_len h v i]
def mixI (k : List Int) (h : List Int) (b : Bs) : List Int := adds h (rnds k (sched b) 64 h) 8
theorem mixI_len (k : List Int) {h : List Int} (hh : h.length = 8) (b : Bs) : (mixI k h b).length = 8 := by rw [mixI, adds_len, hh]
def zaI (k : List Int) : Nat -> List Int -> Bs -> List Int
 | 0, h, _ => h
 | n + 1, h, b => if 64 <= b.length then zaI k n (mixI k h (b.take 64)) (b.drop 64) else h
end Go.Rp
namespace Go.Proofs.YtekbjlihciedjaaGreatDoor
open Go Go.Abs Go.Rp
variable {G : Nat -> Option AV}
theorem rot_does (x : Int) (k : Int) (n : Nat) (hn : n <= 31) (h1 : aint2 .and .u64 (IntKind.u64.wrap k) 31 = some (.int .u64 n)) (h2 : IntKind.u64.wrap (32 - (n : Int)) = ((32 - n : Nat) : Int)) (H : AHeap) :
  Does Tryz.prog G 266 [.int .u32 x, .int .i64 k] H fun r h => r = .int .u32 (rotI x n) /\ h = H := by
 refine zad Tryz.call266 Tryz.func266 rfl (by simp [Tryz.f266]) ?_
 simp [h1, o_shl, o_shr, o_subU, h2, o_or, rotI, -aint2, -zaB]
theorem rot6 (x : Int) (H : AHeap) : Does Tryz.prog G 266 [.int .u32 x, .int .i64 (-6)] H fun r h => r = .int .u32 (rotI x 26) /\ h = H := rot_does x _ 26 (by decide) rfl rfl H
theorem rot7 (x : Int) (H : AHeap) : Does Tryz.prog G 266 [.int .u32 x, .int .i64 (-7)] H fun r h => r = .int .u32 (rotI x 25) /\ h = H := rot_does x _ 25 (by decide) rfl rfl H
theorem rot18 (x : Int) (H : AHeap) : Does Tryz.prog G 266 [.int .u32 x, .int .i64 (-18)] H fun r h => r = .int .u32 (rotI x 14) /\ h = H := rot_does x _ 14 (by decide) rfl rfl H
theorem rot17 (x : Int) (H : AHeap) : Does Tryz.prog G 266 [.int .u32 x, .int .i64 (-17)] H fun r h => r = .int .u32 (rotI x 15) /\ h = H := rot_does x _ 15 (by decide) rfl rfl H
theorem rot19 (x : Int) (H : AHeap) : Does Tryz.prog G 266 [.int .u32 x, .int .i64 (-19)] H fun r h => r = .int .u32 (rotI x 13) /\ h = H := rot_does x _ 13 (by decide) rfl rfl H
theorem rot11 (x : Int) (H : AHeap) : Does Tryz.prog G 266 [.int .u32 x, .int .i64 (-11)] H fun r h => r = .int .u32 (rotI x 21) /\ h = H := rot_does x _ 21 (by decide) rfl rfl H
theorem rot25 (x : Int) (H : AHeap) : Does Tryz.prog G 266 [.int .u32 x, .int .i64 (-25)] H fun r h => r = .int .u32 (rotI x 7) /\ h = H := rot_does x _ 7 (by decide) rfl rfl H
theorem rot2 (x : Int) (H : AHeap) : Does Tryz.prog G 266 [.int .u32 x, .int .i64 (-2)] H fun r h => r = .int .u32 (rotI x 30) /\ h = H := rot_does x _ 30 (by decide) rfl rfl H
theorem rot13 (x : Int) (H : AHeap) : Does Tryz.prog G 266 [.int .u32 x, .int .i64 (-13)] H fun r h => r = .int .u32 (rotI x 19) /\ h = H := rot_does x _ 19 (by decide) rfl rfl H
theorem rot22 (x : Int) (H : AHeap) : Does Tryz.prog G 266 [.int .u32 x, .int .i64 (-22)] H fun r h => r = .int .u32 (rotI x 10) /\ h = H := rot_does x _ 10 (by decide) rfl rfl H
theorem u32s_put {l : List Int} {i : Nat} (h : i < l.length) (x : Int) : List.take i (u32s l) ++ AV.int .u32 x :: List.drop (i + 1) (u32s l) = u32s (l.set i x) := by
 rw [<- u32s_set, List.set_eq_take_append_cons_drop, if_pos (by rw [za1]; exact h)]
theorem u32s_lt (n : Nat) : ∀ l : List Int, AV.allLt n (u32s l) = true
 | [] => rfl
 | a :: l => by
   have := u32s_lt n l
   simp only [u32s, List.map_cons, AV.allLt, AV.idLt, Bool.true_and] at this ⊢
   exact this
theorem u32s_get {l : List Int} {i : Nat} (h : i < (u32s l).length) : (u32s l)[i]'h = .int .u32 (l.getD i 0) := by
 have := u32s_at (l := l) (i := i) (by rw [za1] at h; exact h)
 rw [List.getElem?_eq_getElem h] at this
 exact Option.some.inj this
theorem strCs_at {b : Bs} {ts : List AV} {i : Nat} (h : i < b.length) : (strCs b ++ ts)[i]? = some (.int .u8 ((b.getD i 0).toNat : Int)) := by
 rw [List.getElem?_append_left (by rw [zae]; exact h)]
 simp [strCs, h]
theorem sched_does {b : Bs} {ts : List AV} {n : Nat} (hn : n = 64) (hb : 64 <= b.length) (H : AHeap) :
  Does Tryz.prog G 265 [.vsl (strCs b ++ ts) n] H fun r h => r = .agg (u32s (sched b)) /\ h = H := by
 subst hn
 refine Does.forgot (R := fun r h => r = .agg (u32s (sched b)) /\ ∀ j x, H.get j = some x -> h.get j = some x) ?_ (fun hw ha r H1 ⟨h1, h2⟩ => ⟨h2, by rw [h1, AV.idLt, u32s_lt], h1, rfl⟩)
 refine Does.wf Tryz.call265 fun hw _ => ?_
 refine zad Tryz.call265 Tryz.func265 rfl (by simp [Tryz.f265]) ?_
 simp
 refine zam (fun m T' H' => ∃ i, i + m = 16 /\ (∀ j x, H.get j = some x -> H'.get j = some x) /\ H.next + 2 <= H'.next /\ H'.get H.next = some (.cells (u32s (zeros 64))) /\ H'.get (H.next + 1) = some (.cells (u32s (words0 b i (zeros 64)))) /\
  T' 0 = .vsl (strCs b ++ ts) 64 /\ T' 2 = .ptr H.next 0 /\ T' 3 = .ptr (H.next + 1) 0 /\ T' 10 = .int .i64 i) 16 ?_ ?_
 · refine ⟨0, rfl, fun j x hj => ?_, by simp, ?_, ?_, ?_, ?_, ?_, ?_⟩
   · have := zaa hw hj
     have q1 : j ≠ H.next := by omega
     have q2 : j ≠ H.next + 1 := by omega
     simp [q1, q2, hj]
   · simp [u32s, zeros]
   · simp [u32s, zeros, words0]
   all_goals simp
 rintro m T H1 ⟨i, him, hk, hnx, hz, hg, t0, t2, t3, t10⟩ hw1 _
 by_cases hi : i < 16
 · have hii : (i : Int) < 16 := by omega
   have w1 : IntKind.i64.wrap (4 * (i : Int)) = ((4 * i : Nat) : Int) := by rw [IntWalk.i64_in _ (by omega)]; omega
   have w2 : IntKind.i64.wrap (((4 * i : Nat) : Int) + 1) = ((4 * i + 1 : Nat) : Int) := by rw [IntWalk.i64_in _ (by omega)]; omega
   have w3 : IntKind.i64.wrap (((4 * i : Nat) : Int) + 2) = ((4 * i + 2 : Nat) : Int) := by rw [IntWalk.i64_in _ (by omega)]; omega
   have w4 : IntKind.i64.wrap (((4 * i : Nat) : Int) + 3) = ((4 * i + 3 : Nat) : Int) := by rw [IntWalk.i64_in _ (by omega)]; omega
   have w5 : IntKind.i64.wrap ((i : Int) + 1) = ((i + 1 : Nat) : Int) := by rw [IntWalk.i64_in _ (by omega)]; omega
   have s1 := strCs_at (b := b) (ts := ts) (i := 4 * i) (by omega)
   have s2 := strCs_at (b := b) (ts := ts) (i := 4 * i + 1) (by omega)
   have s3 := strCs_at (b := b) (ts := ts) (i := 4 * i + 2) (by omega)
   have s4 := strCs_at (b := b) (ts := ts) (i := 4 * i + 3) (by omega)
   have l1 : (0 : Int) <= 4 * i /\ 4 * (i : Int) < 64 := by omega
   have l2 : (0 : Int) <= 4 * i + 1 /\ 4 * (i : Int) + 1 < 64 := by omega
   have l3 : (0 : Int) <= 4 * i + 2 /\ 4 * (i : Int) + 2 < 64 := by omega
   have l4 : (0 : Int) <= 4 * i + 3 /\ 4 * (i : Int) + 3 < 64 := by omega
   have n1 : (4 * (i : Int)).toNat = 4 * i := by omega
   have n2 : (4 * (i : Int) + 1).toNat = 4 * i + 1 := by omega
   have n3 : (4 * (i : Int) + 2).toNat = 4 * i + 2 := by omega
   have n4 : (4 * (i : Int) + 3).toNat = 4 * i + 3 := by omega
   simp only [Int.natCast_add, Int.natCast_mul, Int.cast_ofNat_Int] at w1 w2 w3 w4
   have h64 : i < 64 := by omega
   have h63 : i <= 63 := by omega
   have h64' : (i : Int) < 64 := by omega
   have wl : (words0 b i (zeros 64)).length = 64 := by rw [words0_len]; rfl
   have ul := za1 (words0 b i (zeros 64))
   rw [wl] at ul
   generalize hC : strCs b ++ ts = C at *
   simp [t0, t2, t3, t10, hi, hii]
   refine zaj [(5, 0), (13, 0), (22, 0), (31, 0)] zah (by kernel_rfl) ?_
   intro es hes
   simp [t0, t2, t3, t10, w1, w2, w3, w4, s1, s2, s3, s4, l1, l2, l3, l4, n1, n2, n3, n4, h63, h64, h64', ul, hg, o_shl24, o_shl16, o_shl8, o_or, o_add64, o_mul64, -aint2, -zaB]
   refine ⟨by subst hes; exact ⟨by kernel_rfl, by kernel_rfl⟩, by simp [rds, heapF], ?_⟩
   refine ⟨m - 1, by omega, i + 1, by omega, fun j x hj => ?_, hnx, hz, ?_, w5⟩
   · have := zaa hw hj
     have q2 : j ≠ H.next + 1 := by omega
     simp [q2, hk j x hj]
   · rw [u32s_put (by omega)]
     simp [words0, word0, byteI, cvI]
 · obtain rfl : i = 16 := by omega
   simp [t0, t2, t3, t10]
   obtain ⟨W0, hW0⟩ : ∃ W0, W0 = words0 b 16 (zeros 64) := ⟨_, rfl⟩
   have hWl : W0.length = 64 := by rw [hW0, words0_len]; rfl
   have hS : sched b = words1 48 W0 := by rw [hW0]; rfl
   rw [<- hW0] at hg
   clear hW0
   refine zam (fun m T' H' => ∃ i, i + m = 48 /\ (∀ j x, H.get j = some x -> H'.get j = some x) /\ H.next + 2 <= H'.next /\ H'.get H.next = some (.cells (u32s (zeros 64))) /\ H'.get (H.next + 1) = some (.cells (u32s (words1 i W0))) /\
    T' 2 = .ptr H.next 0 /\ T' 3 = .ptr (H.next + 1) 0 /\ T' 5 = .int .i64 (16 + i : Nat)) 48 ?_ ?_
   · exact ⟨0, rfl, hk, hnx, hz, hg, by simp [t2], by simp [t3], by simp⟩
   clear hw1 hk hnx hz hg t0 t2 t3 t10
   rintro m T H1 ⟨i, him, hk, hnx, hz, hg, t2, t3, t5⟩ hw1 _
   have w5 : IntKind.i64.wrap (((16 + i : Nat) : Int) + 1) = ((16 + (i + 1) : Nat) : Int) := by rw [IntWalk.i64_in _ (by omega)]; omega
   have wl : (words1 i W0).length = 64 := by rw [words1_len]; exact hWl
   by_cases hi : i < 48
   · have hii : ((16 + i : Nat) : Int) < 64 := by omega
     have m15 : IntKind.i64.wrap (((16 + i : Nat) : Int) - 15) = ((16 + i - 15 : Nat) : Int) := by rw [IntWalk.i64_in _ (by omega)]; omega
     have m2 : IntKind.i64.wrap (((16 + i : Nat) : Int) - 2) = ((16 + i - 2 : Nat) : Int) := by rw [IntWalk.i64_in _ (by omega)]; omega
     have m16 : IntKind.i64.wrap (((16 + i : Nat) : Int) - 16) = ((16 + i - 16 : Nat) : Int) := by rw [IntWalk.i64_in _ (by omega)]; omega
     have m7 : IntKind.i64.wrap (((16 + i : Nat) : Int) - 7) = ((16 + i - 7 : Nat) : Int) := by rw [IntWalk.i64_in _ (by omega)]; omega
     obtain ⟨W, hW⟩ : ∃ W, W = words1 i W0 := ⟨_, rfl⟩
     have hN : words1 (i + 1) W0 = W.set (16 + i) (word1 W (16 + i)) := by rw [hW]; rfl
     rw [<- hW] at hg wl
     obtain ⟨k, hk16⟩ : ∃ k, k = 16 + i := ⟨_, rfl⟩
     rw [<- hk16] at t5 m15 m2 m16 m7 hii hN
     obtain ⟨k15, e15⟩ : ∃ k15, k15 = k - 15 := ⟨_, rfl⟩
     obtain ⟨k2, e2⟩ : ∃ k2, k2 = k - 2 := ⟨_, rfl⟩
     obtain ⟨k16, e16⟩ : ∃ k16, k16 = k - 16 := ⟨_, rfl⟩
     obtain ⟨k7, e7⟩ : ∃ k7, k7 = k - 7 := ⟨_, rfl⟩
     rw [<- e15] at m15
     rw [<- e2] at m2
     rw [<- e16] at m16
     rw [<- e7] at m7
     have a15 := u32s_at (l := W) (i := k15) (by omega)
     have a2 := u32s_at (l := W) (i := k2) (by omega)
     have a16 := u32s_at (l := W) (i := k16) (by omega)
     have a7 := u32s_at (l := W) (i := k7) (by omega)
     have ul := za1 W
     rw [wl] at ul
     have b15 : k15 < 64 := by omega
     have b2 : k2 < 64 := by omega
     have b16 : k16 < 64 := by omega
     have b7 : k7 < 64 := by omega
     have bk : k < 64 := by omega
     have b15' : (k15 : Int) < 64 := by omega
     have b2' : (k2 : Int) < 64 := by omega
     have b16' : (k16 : Int) < 64 := by omega
     have b7' : (k7 : Int) < 64 := by omega
     have c15 : k15 <= 64 := by omega
     have c2 : k2 <= 64 := by omega
     have c16 : k16 <= 64 := by omega
     have c7 : k7 <= 64 := by omega
     have ck : k <= 63 := by omega
     have bk' : (k : Int) < 64 := by omega
     simp [t2, t3, t5, bk, bk']
     refine zaj [(3, 0), (7, 0)] zah (by kernel_rfl) ?_
     intro es hes
     simp [t2, t3, t5, o_sub64, m15, m2, b15, b2, b15', b2', c15, c2, hg, ul, u32s_get, -aint2, -zaB]
     refine ⟨by subst hes; exact ⟨by kernel_rfl, by kernel_rfl⟩, by simp [rds, heapF, hg, ul, u32s_get, b15, b2, c15, c2], ?_⟩
     refine zab (rot7 _ _) ?_
     rintro r h ⟨rfl, rfl⟩
     simp
     refine zab (rot18 _ _) ?_
     rintro r h ⟨rfl, rfl⟩
     simp [o_xor, o_shr3, -aint2, -zaB]
     refine zab (rot17 _ _) ?_
     rintro r h ⟨rfl, rfl⟩
     simp
     refine zab (rot19 _ _) ?_
     rintro r h ⟨rfl, rfl⟩
     simp [o_xor, o_shr10, -aint2, -zaB]
     refine zaj [(4, 0), (10, 0)] zah (by kernel_rfl) ?_
     intro es hes
     simp [t2, t3, t5, o_sub64, o_add, m16, m7, b16, b7, b16', b7', bk, bk', c16, c7, ck, hg, ul, u32s_get, -aint2, -zaB]
     refine ⟨by subst hes; exact ⟨by kernel_rfl, by kernel_rfl⟩, by simp [rds, heapF, hg, ul, u32s_get, b16, b7, c16, c7], ?_⟩
     have wk : IntKind.i64.wrap ((k : Int) + 1) = ((16 + (i + 1) : Nat) : Int) := by rw [IntWalk.i64_in _ (by omega)]; omega
     simp [t5, o_add64, wk, -aint2]
     refine ⟨m - 1, by omega, i + 1, by omega, fun j x hj => ?_, hnx, hz, ?_, t2, t3, by omega⟩
     · have := zaa hw hj
       have q2 : j ≠ H.next + 1 := by omega
       simp [q2, hk j x hj]
     · rw [u32s_put (by omega), hN]
       simp [word1, e15, e2, e16, e7]
   · obtain rfl : i = 48 := by omega
     have ul := za1 (words1 48 W0)
     rw [wl] at ul
     have tk : List.take 64 (u32s (words1 48 W0)) = u32s (words1 48 W0) := by rw [<- ul, List.take_length]
     have zl : (u32s (zeros 64)).length = 64 := by rw [za1]; rfl
     have sc : ∀ x, x ∈ u32s (words1 48 W0) -> x.scalar = true := fun x hx => List.all_eq_true.1 (u32s_sc _) x hx
     have dz : List.drop 64 (u32s (zeros 64)) = [] := List.drop_eq_nil_of_le (by rw [zl]; exact Nat.le_refl _)
     simp only [<- hS] at *
     simp [t2, t3, t5, hg, hz, ul, tk, zl, dz]
     rw [if_pos sc]
     simp [t2, tk, ul]
     intro j x hj
     have := zaa hw hj
     have q2 : j ≠ H.next := by omega
     simp [q2, hk j x hj]
def K32 : List Int := [1116352408, 1899447441, 3049323471, 3921009573, 961987163, 1508970993, 2453635748, 2870763221, 3624381080, 310598401, 607225278, 1426881987, 1925078388, 2162078206, 2614888103, 3248222580, 3835390401, 4022224774, 264347078, 604807628, 770255983, 1249150122, 1555081692, 1996064986, 2554220882, 2821834349, 2952996808, 3210313671, 3336571891, 3584528711, 113926993, 338241895, 666307205, 773529912, 1294757372, 1396182291, 1695183700, 1986661051, 2177026350, 2456956037, 2730485921, 2820302411, 3259730800, 3345764771, 3516065817, 3600352804, 4094571909, 275423344, 430227734, 506948616, 659060556, 883997877, 958139571, 1322822218, 1537002063, 1747873779, 1955562222, 2024104815, 2227730452, 2361852424, 2428436474, 2756734187, 3204031479, 3329325298]
theorem K32_len : K32.length = 64 := rfl
theorem rounds_does (H : AHeap) : Does Tryz.prog G 264 [] H fun r h => r = .agg (u32s K32) /\ h = H := by
 refine Does.forgot (R := fun r h => r = .agg (u32s K32) /\ ∀ j x, H.get j = some x -> h.get j = some x) ?_ (fun hw ha r H1 ⟨h1, h2⟩ => ⟨h2, by rw [h1, AV.idLt, u32s_lt], h1, rfl⟩)
 refine Does.wf Tryz.call264 fun hw _ => ?_
 refine zad Tryz.call264 Tryz.func264 rfl (by simp [Tryz.f264]) ?_
 simp
 refine ⟨rfl, fun j x hj => ?_⟩
 have := zaa hw hj
 have e : j ≠ H.next := by omega
 simp [e, hj]
theorem mix_does {hv : List Int} (hh : hv.length = 8) {b : Bs} {ts : List AV} {n : Nat} (hn : n = 64) (hb : 64 <= b.length) (H : AHeap) :
  Does Tryz.prog G 221 [.agg (u32s hv), .vsl (strCs b ++ ts) n] H fun r h => r = .agg (u32s (mixI K32 hv b)) /\ h = H := by
 obtain ⟨M, hM⟩ : ∃ M, M = mixI K32 hv b := ⟨_, rfl⟩
 rw [<- hM]
 refine Does.forgot (R := fun r h => r = .agg (u32s M) /\ ∀ j x, H.get j = some x -> h.get j = some x) ?_ (fun hw ha r H1 ⟨h1, h2⟩ => ⟨h2, by rw [h1, AV.idLt, u32s_lt], h1, rfl⟩)
 refine Does.wf Tryz.call221 fun hw _ => ?_
 refine zad Tryz.call221 Tryz.func221 rfl (by simp [Tryz.f221]) ?_
 have hul := za1 hv
 rw [hh] at hul
 have hsc : ∀ x, x ∈ u32s hv -> x.scalar = true := fun x hx => List.all_eq_true.1 (u32s_sc _) x hx
 simp [hul]
 have e01 : H.next ≠ H.next + 1 := by omega
 have tk8 : ∀ {l : List Int}, l.length = 8 -> List.take 8 (u32s l) = u32s l := fun {l} h => by
  have : (u32s l).length = 8 := by rw [za1, h]
  rw [<- this, List.take_length]
 have dk8 : ∀ {l : List Int}, l.length = 8 -> List.drop 8 (u32s l) = [] := fun {l} h => List.drop_eq_nil_of_le (by rw [za1, h]; exact Nat.le_refl _)
 have hk64 := za1 K32
 rw [K32_len] at hk64
 have hs64 := za1 (sched b)
 rw [sched_len] at hs64
 have ksc : ∀ x, x ∈ u32s K32 -> x.scalar = true := fun x hx => List.all_eq_true.1 (u32s_sc _) x hx
 have ssc : ∀ x, x ∈ u32s (sched b) -> x.scalar = true := fun x hx => List.all_eq_true.1 (u32s_sc _) x hx
 obtain ⟨K, hK⟩ : ∃ K, K = K32 := ⟨_, rfl⟩
 rw [<- hK] at hk64 ksc
 obtain ⟨S, hS⟩ : ∃ S, S = sched b := ⟨_, rfl⟩
 rw [<- hS] at hs64 ssc
 refine zaj [(3, 0), (3, 1), (3, 3), (3, 8), (3, 9)] zah (by kernel_rfl) ?_
 intro es hes
 simp [zaf, -zag]
 refine ⟨_, _, rounds_does _, Nat.le_refl _, ?_⟩
 rw [<- hK]
 refine ad_go (fun T' => T' 1 = .vsl (strCs b ++ ts) n /\ T' 2 = .ptr H.next 0 /\ T' 4 = .ptr (H.next + 1) 0 /\ T' 16 = .agg (u32s K)) (by simp) ?_
 rintro T1 ⟨a1, a2, a4, a16⟩
 simp [zaf, -zag, a1, a2, a4, a16]
 refine ⟨_, _, sched_does hn hb _, Nat.le_refl _, ?_⟩
 rw [<- hS]
 refine ad_go (fun T' => T' 2 = .ptr H.next 0 /\ T' 4 = .ptr (H.next + 1) 0 /\ T' 16 = .agg (u32s K) /\ T' 18 = .agg (u32s S)) (by simp [a2, a4, a16]) ?_
 rintro T2 ⟨b2, b4, b16, b18⟩
 simp [zaf, -zag, b2, b4, b16, b18, hul, hk64, hs64, e01, tk8 hh, dk8 hh]
 rw [if_pos ksc]
 simp [zaf, -zag, b2, b4, b16, b18, hul, hk64, hs64, e01, tk8 hh, dk8 hh]
 rw [if_pos ssc]
 simp [zaf, -zag, b2, b4, b16, b18, hul, hk64, hs64, e01, tk8 hh, dk8 hh]
 have e02 : H.next + 1 + 1 ≠ H.next := by omega
 have e03 : H.next ≠ H.next + 1 + 1 := by omega
 have e04 : H.next ≠ H.next + 1 + 1 + 1 := by omega
 have e05 : H.next ≠ H.next + 1 + 1 + 1 + 1 := by omega
 have e06 : H.next + 1 ≠ H.next + 1 + 1 + 1 := by omega
 have e07 : H.next + 1 ≠ H.next + 1 + 1 + 1 + 1 := by omega
 have e08 : H.next + 1 + 1 ≠ H.next + 1 + 1 + 1 + 1 := by omega
 have hsc' : (∀ x, x ∈ u32s hv -> x.scalar = true) = True := eq_true hsc
 simp [zaf, -zag, b2, b4, b16, b18, hul, hk64, hs64, e01, e02, hsc', tk8 hh, dk8 hh]
 refine ⟨by subst hes; exact ⟨by kernel_rfl, by kernel_rfl⟩, by simp [rds, heapF, e03, e04, e05, hul, tk8 hh], ?_⟩
 obtain ⟨v0, hv0⟩ : ∃ v0, v0 = hv := ⟨_, rfl⟩
 refine zam (fun m T' H' => ∃ i, i + m = 64 /\ (∀ j x, H.get j = some x -> H'.get j = some x) /\ H.next + 5 <= H'.next /\ H'.get H.next = some (.cells (u32s hv)) /\ H'.get (H.next + 1) = some (.cells (u32s (zeros 8))) /\ H'.get (H.next + 1 + 1) = some (.cells (u32s K)) /\ H'.get (H.next + 1 + 1 + 1) = some (.cells (u32s S)) /\
  H'.get (H.next + 1 + 1 + 1 + 1) = some (.cells (u32s (rnds K S i hv))) /\ T' 2 = .ptr H.next 0 /\ T' 4 = .ptr (H.next + 1) 0 /\ T' 5 = .ptr (H.next + 1 + 1) 0 /\ T' 6 = .ptr (H.next + 1 + 1 + 1) 0 /\ T' 7 = .ptr (H.next + 1 + 1 + 1 + 1) 0 /\ T' 20 = .int .i64 i) 64 ?_ ?_
 · refine ⟨0, rfl, fun j x hj => ?_, by simp, ?_, ?_, ?_, ?_, ?_, ?_, ?_, ?_, ?_, ?_, ?_⟩
   · have := zaa hw hj
     have q1 : j ≠ H.next := by omega
     have q2 : j ≠ H.next + 1 := by omega
     have q3 : j ≠ H.next + 1 + 1 := by omega
     have q4 : j ≠ H.next + 1 + 1 + 1 := by omega
     have q5 : j ≠ H.next + 1 + 1 + 1 + 1 := by omega
     simp [q1, q2, q3, q4, q5, hj]
   · simp [e03, e04, e05]
   · simp [e06, e07, u32s, zeros]; try omega
   · simp [e08]; try omega
   · simp
   · simp [rnds]
   all_goals simp [b2, b4]
 clear b2 b4 b16 b18 a1 a2 a4 a16 e01 e02 e03 e04 e05 e06 e07 e08
 rintro m T H1 ⟨i, him, hk, hnx, g0, g1, g2, g3, g4, t2, t4, t5, t6, t7, t20⟩ hw1 _
 by_cases hi : i < 64
 · obtain ⟨V, hV⟩ : ∃ V, V = rnds K S i hv := ⟨_, rfl⟩
   have hvl : V.length = 8 := by rw [hV]; exact rnds_len _ _ hh _
   have hN : rnds K S (i + 1) hv = rnd (K.getD i 0) (S.getD i 0) V := by rw [hV]; rfl
   rw [<- hV] at g4
   have vl := za1 V
   rw [hvl] at vl
   have hii : (i : Int) < 64 := by omega
   have hi64 : i <= 64 := by omega
   have hi63 : i <= 63 := by omega
   have w5 : IntKind.i64.wrap ((i : Int) + 1) = ((i + 1 : Nat) : Int) := by rw [IntWalk.i64_in _ (by omega)]; omega
   simp [t20, hi, hii]
   refine zaj [(1, 0), (3, 0)] zah (by kernel_rfl) ?_
   intro es hes
   simp [t7, g4, vl, u32s_get]
   refine ⟨by subst hes; exact ⟨by kernel_rfl, by kernel_rfl⟩, by simp [rds, heapF, g4, vl, u32s_get], ?_⟩
   refine zab (rot6 _ _) ?_
   rintro r h ⟨rfl, rfl⟩
   simp
   refine zab (rot11 _ _) ?_
   rintro r h ⟨rfl, rfl⟩
   simp [o_xor, -aint2, -zaB]
   refine zab (rot25 _ _) ?_
   rintro r h ⟨rfl, rfl⟩
   simp [o_xor, -aint2, -zaB]
   refine zaj [(1, 0), (6, 0), (11, 0), (17, 0), (21, 0)] zah (by kernel_rfl) ?_
   intro es hes
   simp [t5, t6, t7, g2, g3, g4, vl, hk64, hs64, hi, hii, hi64, u32s_get, o_add, o_and, o_xor, o_not, -aint2, -zaB, -aun]
   refine ⟨by subst hes; exact ⟨by kernel_rfl, by kernel_rfl⟩, by simp [rds, heapF, g2, g3, g4, vl, hk64, hs64, hi, hi64, u32s_get], ?_⟩
   refine zab (rot2 _ _) ?_
   rintro r h ⟨rfl, rfl⟩
   simp
   refine zab (rot13 _ _) ?_
   rintro r h ⟨rfl, rfl⟩
   simp [o_xor, -aint2, -zaB]
   refine zab (rot22 _ _) ?_
   rintro r h ⟨rfl, rfl⟩
   simp [t7, g4, vl, u32s_get, o_add, o_and, o_xor, -aint2, -zaB]
   simp [t20, o_add64, w5, -aint2]
   refine ⟨m - 1, by omega, i + 1, by omega, fun j x hj => ?_, hnx, by rw [if_neg (by omega)]; exact g0, g1, g2, g3, ?_, t2, t4, t5, t6, t7, by omega⟩
   · have := zaa hw hj
     have q2 : j ≠ H.next + 1 + 1 + 1 + 1 := by omega
     simp [q2, hk j x hj]
   · rw [hN]
     simp [rnd, u32s]; try omega
 · obtain rfl : i = 64 := by omega
   obtain ⟨V, hV⟩ : ∃ V, V = rnds K S 64 hv := ⟨_, rfl⟩
   have hvl : V.length = 8 := by rw [hV]; exact rnds_len _ _ hh _
   have hM : M = adds hv V 8 := by rw [hM, hV, hK, hS]; rfl
   rw [<- hV] at g4
   have vl := za1 V
   rw [hvl] at vl
   clear hV g2 g3
   simp [t20]
   refine zam (fun m T' H' => ∃ i, i + m = 8 /\ (∀ j x, H.get j = some x -> H'.get j = some x) /\ H'.get H.next = some (.cells (u32s (adds hv V i))) /\ H'.get (H.next + 1) = some (.cells (u32s (zeros 8))) /\
    H'.get (H.next + 1 + 1 + 1 + 1) = some (.cells (u32s V)) /\ T' 2 = .ptr H.next 0 /\ T' 4 = .ptr (H.next + 1) 0 /\ T' 7 = .ptr (H.next + 1 + 1 + 1 + 1) 0 /\ T' 104 = .int .i64 i) 8 ?_ ?_
   · exact ⟨0, rfl, hk, g0, g1, g4, by simp [t2], by simp [t4], by simp [t7], by simp⟩
   clear hk hnx g0 g1 g4 t2 t4 t5 t6 t7 t20 hw1
   rintro m T H1 ⟨i, him, hk, g0, g1, g4, t2, t4, t7, t104⟩ hw1 _
   obtain ⟨A, hA⟩ : ∃ A, A = adds hv V i := ⟨_, rfl⟩
   have hal : A.length = 8 := by rw [hA, adds_len]; exact hh
   have al := za1 A
   rw [hal] at al
   rw [<- hA] at g0
   by_cases hi : i < 8
   · have hN : adds hv V (i + 1) = A.set i (addI (A.getD i 0) (V.getD i 0)) := by rw [hA]; rfl
     have hii : (i : Int) < 8 := by omega
     have hi8 : i <= 8 := by omega
     have hi7 : i <= 7 := by omega
     have w5 : IntKind.i64.wrap ((i : Int) + 1) = ((i + 1 : Nat) : Int) := by rw [IntWalk.i64_in _ (by omega)]; omega
     have e4 : H.next ≠ H.next + 1 + 1 + 1 + 1 := by omega
     simp [t104, hi, hii]
     refine zaj [(2, 0), (5, 0)] zah (by kernel_rfl) ?_
     intro es hes
     simp [t2, t7, g0, g4, vl, al, hi, hii, hi8, hi7, u32s_get, o_add, -aint2, -zaB]
     refine ⟨by subst hes; exact ⟨by kernel_rfl, by kernel_rfl⟩, by simp [rds, heapF, g0, g4, vl, al, hi, hi8, u32s_get], ?_⟩
     simp [t104, o_add64, w5, -aint2]
     refine ⟨m - 1, by omega, i + 1, by omega, fun j x hj => ?_, ?_, g1, ?_, t2, t4, t7, by omega⟩
     · have := zaa hw hj
       have q2 : j ≠ H.next := by omega
       simp [q2, hk j x hj]
     · rw [u32s_put (by omega), hN]
       simp
     · rw [if_neg (by omega)]; exact g4
   · obtain rfl : i = 8 := by omega
     have sc : (∀ x, x ∈ u32s A -> x.scalar = true) = True := eq_true fun x hx => List.all_eq_true.1 (u32s_sc _) x hx
     have zl : (u32s (zeros 8)).length = 8 := by rw [za1]; rfl
     have dz : List.drop 8 (u32s (zeros 8)) = [] := List.drop_eq_nil_of_le (by rw [zl]; exact Nat.le_refl _)
     rw [<- hA] at hM
     simp [t2, t4, t104, g0, g1, al, sc, zl, dz, tk8 hal]
     exact ⟨by rw [hM], fun j x hj => by
      have := zaa hw hj
      have q2 : j ≠ H.next + 1 := by omega
      simp [q2, hk j x hj]⟩
def restI : Nat -> Bs -> Bs
 | 0, b => b
 | n + 1, b => if 64 <= b.length then restI n (b.drop 64) else b
theorem restI_fuel : ∀ (n m : Nat) (b : Bs), b.length < n -> b.length < m -> restI n b = restI m b
 | 0, _, _, h, _ => by omega
 | _, 0, _, _, h => by omega
 | n + 1, m + 1, b, h1, h2 => by
   simp only [restI]
   split
   · exact restI_fuel n m _ (by rw [List.length_drop]; omega) (by rw [List.length_drop]; omega)
   · rfl
theorem blocksI_fuel (k : List Int) : ∀ (n m : Nat) (h : List Int) (b : Bs), b.length < n -> b.length < m -> zaI k n h b = zaI k m h b
 | 0, _, _, _, h, _ => by omega
 | _, 0, _, _, _, h => by omega
 | n + 1, m + 1, h, b, h1, h2 => by
   simp only [zaI]
   split
   · exact blocksI_fuel k n m _ _ (by rw [List.length_drop]; omega) (by rw [List.length_drop]; omega)
   · rfl
theorem strCs_app (a b : Bs) : strCs (a ++ b) = strCs a ++ strCs b := by simp [strCs]
theorem strCs_drop (b : Bs) (ts : List AV) (n : Nat) (h : n <= b.length) : List.drop n (strCs b ++ ts) = strCs (b.drop n) ++ ts := by
 rw [List.drop_append_of_le_length (by rw [zae]; exact h)]
 simp [strCs, List.map_drop]
theorem blocks_does {hv : List Int} (hh : hv.length = 8) {v : AV} {b : Bs} (hb : BtA v b) (hl : b.length <= 1000000000) (H : AHeap) :
  Does Tryz.prog G 170 [.agg (u32s hv), v] H fun r h => (∃ v', r = .tuple [.agg (u32s (zaI K32 (b.length + 1) hv b)), v'] /\ BtA v' (restI (b.length + 1) b)) /\ H.next <= h.next /\ ∀ j x, H.get j = some x -> h.get j = some x := by
 obtain ⟨M, hM⟩ : ∃ M, M = zaI K32 (b.length + 1) hv b := ⟨_, rfl⟩
 obtain ⟨L, hL⟩ : ∃ L, L = restI (b.length + 1) b := ⟨_, rfl⟩
 rw [<- hM, <- hL]
 refine Does.wf Tryz.call170 fun hw _ => ?_
 refine zad Tryz.call170 Tryz.func170 rfl (by simp [Tryz.f170]) ?_
 have hul := za1 hv
 rw [hh] at hul
 simp [hul]
 refine zam (fun m T' H' => ∃ b' h' w, b'.length = m /\ b'.length <= b.length /\ h'.length = 8 /\ M = zaI K32 (b'.length + 1) h' b' /\ L = restI (b'.length + 1) b' /\ BtA w b' /\ H.next <= H'.next /\ (∀ j x, H.get j = some x -> H'.get j = some x) /\ H'.get H.next = some (.cells (u32s h')) /\ H'.get (H.next + 1) = some (.cells (u32s (zeros 8))) /\
  T' 1 = w /\ T' 2 = .ptr H.next 0 /\ T' 4 = .ptr (H.next + 1) 0) b.length ?_ ?_
 · refine ⟨b, hv, v, rfl, Nat.le_refl _, hh, hM, hL, hb, by simp; omega, fun j x hj => ?_, ?_, ?_, ?_, ?_, ?_⟩
   · have := zaa hw hj
     have q1 : j ≠ H.next := by omega
     have q2 : j ≠ H.next + 1 := by omega
     simp [q1, q2, hj]
   · have : H.next ≠ H.next + 1 := by omega
     simp [this]
   · simp [u32s, zeros]
   all_goals simp
 rintro m T H1 ⟨b', h', w, rfl, hbl, hh', hM', hL', hw', hnx, hk, g0, g1, t1, t2, t4⟩ hw1 _
 have hwl : alen Tryz.prog 22 w = some (.int .i64 b'.length) := by
  rcases hw' with ⟨rfl, e⟩ | ⟨ts, rfl⟩
  · simp [alen, e]
  · simp [alen]
 have h8 := za1 h'
 rw [hh'] at h8
 have tk : List.take 8 (u32s h') = u32s h' := by rw [<- h8, List.take_length]
 by_cases h64 : 64 <= b'.length
 · have h64' : (64 : Int) <= b'.length := by omega
   obtain ⟨ts, rfl⟩ : ∃ ts, w = .vsl (strCs b' ++ ts) b'.length := by
    rcases hw' with ⟨_, rfl⟩ | h
    · simp at h64
    · exact h
   have c1 : 0 < b'.length := by omega
   simp [t1, t2, t4, hwl, h64, h64', -alen]
   refine zaj [(0, 0)] zah (by kernel_rfl) ?_
   intro es hes
   simp [zaf, -zag, t1, t2, g0, h8, tk, h64, h64', c1]
   have eC : strCs b' ++ ts = strCs (b'.take 64) ++ (strCs (b'.drop 64) ++ ts) := by
    rw [<- List.append_assoc, <- strCs_app, List.take_append_drop]
   have hmx := mix_does (G := G) hh' (b := b'.take 64) (ts := strCs (b'.drop 64) ++ ts) (n := 64) rfl (by rw [List.length_take]; omega) H1
   rw [<- eC] at hmx
   refine ⟨_, _, hmx, Nat.le_refl _, ?_⟩
   obtain ⟨X, hX⟩ : ∃ X, X = mixI K32 h' (b'.take 64) := ⟨_, rfl⟩
   rw [<- hX]
   have hM2 : M = zaI K32 ((b'.drop 64).length + 1) X (b'.drop 64) := by
    rw [hM', zaI, if_pos h64, <- hX]
    exact blocksI_fuel _ _ _ _ _ (by rw [List.length_drop]; omega) (by omega)
   have hL2 : L = restI ((b'.drop 64).length + 1) (b'.drop 64) := by
    rw [hL', restI, if_pos h64]
    exact restI_fuel _ _ _ (by rw [List.length_drop]; omega) (by omega)
   have hXl : X.length = 8 := by rw [hX]; exact mixI_len _ hh' _
   have hx8 := za1 X
   rw [hXl] at hx8
   have sc : (∀ x, x ∈ u32s X -> x.scalar = true) = True := eq_true fun x hx => List.all_eq_true.1 (u32s_sc _) x hx
   have dk : List.drop 8 (u32s h') = [] := List.drop_eq_nil_of_le (by rw [h8]; exact Nat.le_refl _)
   refine ad_go (fun T' => T' 1 = .vsl (strCs b' ++ ts) b'.length /\ T' 2 = .ptr H.next 0 /\ T' 4 = .ptr (H.next + 1) 0 /\ T' 12 = .agg (u32s X)) (by simp [t1, t2, t4]) ?_
   rintro T1 ⟨a1, a2, a4, a12⟩
   simp [zaf, -zag, a1, a2, a4, a12, g0, h8, hx8, sc, dk]
   refine ⟨by subst hes; exact ⟨by kernel_rfl, by kernel_rfl⟩, by simp [rds, heapF, g0, h8, tk, t2], ?_⟩
   have kp : ∀ j x, H.get j = some x -> (if j = H.next then some (.cells (u32s X)) else H1.get j) = some x := fun j x hj => by
    have := zaa hw hj
    have q : j ≠ H.next := by omega
    simp [q, hk j x hj]
   by_cases hlt : 64 < b'.length
   · simp [h64, h64', hlt]
     refine ⟨(b'.drop 64).length, by rw [List.length_drop]; omega, b'.drop 64, rfl, by rw [List.length_drop]; omega, X, hXl, hM2, hL2, _, .inr ⟨ts, ?_⟩, hnx, kp, rfl, g1, rfl, a2, a4⟩
     rw [strCs_drop _ _ _ h64, List.length_drop]
   · have e64 : b'.length = 64 := by omega
     simp [a1, a2, a4, e64]
     refine ⟨(b'.drop 64).length, by rw [List.length_drop]; omega, b'.drop 64, rfl, by rw [List.length_drop]; omega, X, hXl, hM2, hL2, _, .inr ⟨[], ?_⟩, hnx, kp, rfl, g1, rfl⟩
     have : b'.drop 64 = [] := List.drop_eq_nil_of_le (by omega)
     rw [this]; rfl
 · have h64' : ¬ (64 : Int) <= b'.length := by omega
   have sc : (∀ x, x ∈ u32s h' -> x.scalar = true) = True := eq_true fun x hx => List.all_eq_true.1 (u32s_sc _) x hx
   have zl : (u32s (zeros 8)).length = 8 := by rw [za1]; rfl
   have dz : List.drop 8 (u32s (zeros 8)) = [] := List.drop_eq_nil_of_le (by rw [zl]; exact Nat.le_refl _)
   simp [t1, t2, t4, hwl, h64, h64', g0, g1, h8, tk, sc, zl, dz, hw'.cells, -alen]
   refine ⟨⟨w, ⟨?_, rfl⟩, ?_⟩, hnx, fun j x hj => ?_⟩
   · rw [hM', zaI, if_neg h64]
   · rw [hL', restI, if_neg h64]; exact hw'
   · have := zaa hw hj
     have q : j ≠ H.next + 1 := by omega
     simp [q, hk j x hj]
theorem elemB : ElemOk Tryz.prog 22 22 5 1 1 := ⟨by simp, ⟨.slice 5, by simp, rfl⟩, by simp⟩
def ByF (H : AHeap) (u : AV) (x : Bs) (b : Nat -> Prop) : Prop := BtA u x \/ Gr H 1 x.length (strCs x) u b
theorem ByF.len {H : AHeap} {u : AV} {x : Bs} {b : Nat -> Prop} (h : ByF H u x b) : alen Tryz.prog 22 u = some (.int .i64 x.length) := by
 rcases h with h | h
 · rcases h with ⟨rfl, rfl⟩ | ⟨ts, rfl⟩ <;> simp [alen]
 · exact h.alen (e := 5) (by simp)
theorem ByF.sc {H : AHeap} {u : AV} {x : Bs} {b : Nat -> Prop} (h : ByF H u x b) : u.scalar = true := by
 rcases h with h | h
 · exact h.sc
 · exact h.sc
theorem ByF.cells {H : AHeap} {u : AV} {x : Bs} {b : Nat -> Prop} (h : ByF H u x b) : u.cells = [u] := by
 rcases h with h | h
 · exact h.cells
 · exact h.cells
theorem app_bytes {H : AHeap} {l x : Bs} {w u : AV} {b b2 : Nat -> Prop} (h : Gr H 1 l.length (strCs l) w b) (hu : ByF H u x b2) (h1 : l.length <= 1000000000) (h2 : x.length <= 1000000000) {nx : Nat} (hnx : nx = H.next) :
  ∃ v' eff, zan Tryz.prog 22 22 H.get nx w u = some (v', eff) /\ Gr (H.eff eff) 1 (l ++ x).length (strCs (l ++ x)) v' (fun j => b j \/ j = H.next) /\ (∀ j, ¬ b j -> j ≠ H.next -> (H.eff eff).get j = H.get j) /\ H.next <= (H.eff eff).next := by
 subst hnx
 by_cases h0 : x = []
 · subst h0
   have hf : (u = .nilsl \/ (∃ ts, u = .vsl ts 0) \/ ∃ p o cap op pre junk, u = .sl p o 1 0 cap op /\ H.get p = some (.cells (pre ++ ([] ++ junk))) /\ pre.length = o) := by
    rcases hu with (⟨rfl, _⟩ | ⟨ts, rfl⟩) | (⟨_, _, rfl⟩ | ⟨p, o, cap, op, pre, junk, rfl, _, a3, a4, _⟩)
    · exact .inl rfl
    · exact .inr (.inl ⟨_, rfl⟩)
    · exact .inl rfl
    · exact .inr (.inr ⟨p, o, cap, op, pre, junk, rfl, a3, a4⟩)
   rcases h with ⟨a1, a2, rfl⟩ | ⟨p, o, cap, op, pre, junk, rfl, a2, a3, a4, a5, a6, a7⟩
   · refine ⟨.nilsl, .same, ?_, .inl (by simp [a1, a2]), fun j _ _ => rfl, Nat.le_refl _⟩
     rcases hf with rfl | ⟨ts, rfl⟩ | ⟨p, o, cap, op, pre, junk, rfl, a3, a4⟩
     · simp [zan, zal, zaq]
     · simp [zan, zal, zaq]
     · have : o <= pre.length + junk.length := by omega
       simp [zan, zal, zaq, a3, this]
   · have hs : AHeap.set H p (.cells (pre ++ (strCs l ++ junk))) = H := set_self a3
     refine ⟨.sl p o 1 l.length cap op, .put p (.cells (pre ++ (strCs l ++ junk))), ?_, ?_, fun j _ _ => by simp only [AHeap.eff, hs], by simp [AHeap.eff]⟩
     · rcases hf with rfl | ⟨ts, rfl⟩ | ⟨p', o', cap', op', pre', junk', rfl, a3', a4'⟩
       · simp [zan, zal, zaq, splice_nil, a3, a7, zae] <;> omega
       · simp [zan, zal, zaq, splice_nil, a3, a7, zae] <;> omega
       · have : o' <= pre'.length + junk'.length := by omega
         simp [zan, zal, zaq, splice_nil, a3, a3', this, a7, zae] <;> omega
     · simp only [AHeap.eff, hs, List.append_nil]
       exact .inr ⟨p, o, cap, op, pre, junk, rfl, .inl a2, a3, a4, a5, a6, a7⟩
 · have hp : 0 < x.length := List.length_pos_iff.2 h0
   have hn : zaq u = some x.length /\ zal H.get 1 x.length u = some (strCs x) /\ ∀ k i, u ≠ .int k i := by
    rcases hu with (⟨rfl, e⟩ | ⟨ts, rfl⟩) | (⟨a1, _, rfl⟩ | ⟨p, o, cap, op, pre, junk, rfl, _, a3, a4, a5, a6, a7⟩)
    · exact absurd e h0
    · have e1 : List.take x.length (strCs x ++ ts) = strCs x := List.take_left' (zae x)
      simp [zaq, zal, e1, zae]
    · omega
    · have e1 : List.take x.length (strCs x ++ junk) = strCs x := List.take_left' (zae x)
      have e2 : List.drop o (pre ++ (strCs x ++ junk)) = strCs x ++ junk := List.drop_left' a4
      simp [zaq, zal, a3, e1, e2, zae]
      omega
   have := h.app elemB (m := x.length) (x := u) (news := strCs x) hn.2.2 hn.1 hn.2.1 (za4 x) (by rw [zae]; omega) hp (by omega) (by omega) (by omega) (nx := H.next) rfl
   rw [<- strCs_app, <- List.length_append] at this
   exact this
def H0s : List Int := [1779033703, 3144134277, 1013904242, 2773480762, 1359893119, 2600822924, 528734635, 1541459225]
def HsAt (H : AHeap) (i : Nat) (hv : List Int) (left : Bs) (n : Nat) (b : Nat -> Prop) : Prop := ∃ u, H.get i = some (.cells (u32s hv ++ [u, .int .u64 n])) /\ ByF H u left (fun j => b j /\ j ≠ i)
theorem shaNew_does (H : AHeap) : Does Tryz.prog G 115 [] H fun r h => r = .ptr H.next 0 /\ h = H.push (.cells (u32s H0s ++ [.nilsl, .int .u64 0])) := by
 refine zad Tryz.call115 Tryz.func115 rfl (by simp [Tryz.f115]) ?_
 simp [u32s, H0s]
theorem blocksI_len (k : List Int) : ∀ (n : Nat) (h : List Int) (b : Bs), h.length = 8 -> (zaI k n h b).length = 8
 | 0, h, b, hh => hh
 | n + 1, h, b, hh => by
   simp only [zaI]
   split
   · exact blocksI_len k n _ _ (mixI_len _ hh _)
   · exact hh
theorem restI_len : ∀ (n : Nat) (b : Bs), (restI n b).length <= b.length
 | 0, b => Nat.le_refl _
 | n + 1, b => by
   simp only [restI]
   split
   · have := restI_len n (b.drop 64)
     rw [List.length_drop] at this
     omega
   · exact Nat.le_refl _
theorem blocks_live {H0 H : AHeap} (hw : H0.Wf) {B : Nat} (hBn : H0.next <= B) {hv : List Int} (hh : hv.length = 8) {w : AV} {b : Bs} (hg : Gr H 1 b.length (strCs b) w (fun j => B <= j)) (hl : b.length <= 1000000000) :
  Does Tryz.prog G 170 [.agg (u32s hv), w] H fun r h => (∃ v', r = .tuple [.agg (u32s (zaI K32 (b.length + 1) hv b)), v'] /\ BtA v' (restI (b.length + 1) b)) /\ H.next <= h.next /\ (∀ j x, H0.get j = some x -> H.get j = some x -> h.get j = some x) /\ ∀ j c, j < B -> (∀ p cs, AV.frzs p cs c = c) -> H.get j = some (.cells c) -> h.get j = some (.cells c) := by
 rcases hg with ⟨h1, h2, rfl⟩ | ⟨p, o, cap, op, pre, junk, rfl, h2, h3, h4, h5, h6, h7⟩
 · obtain rfl := List.length_eq_zero_iff.1 h1
   refine (blocks_does hh .nil (by simp) H).mono ?_
   rintro r h ⟨g1, g0, g2⟩
   exact ⟨g1, g0, fun j x _ hj => g2 j x hj, fun j c _ _ hj => g2 j _ hj⟩
 · refine Does.lend h3 ?_
   have e : [AV.agg (u32s hv), AV.sl p o 1 b.length cap op].map (AV.frz p (pre ++ (strCs b ++ junk))) = [.agg (u32s hv), .vsl (strCs b) b.length] := by
    have e1 : AV.frzs p (pre ++ (strCs b ++ junk)) (u32s hv) = u32s hv := AV.frzs_lt (n := 0) (Nat.zero_le _) _ (u32s_lt 0 hv)
    simp only [List.map_cons, List.map_nil, AV.frz, e1, if_true, List.drop_left' h4, List.take_left' h5]
   rw [e]
   refine (blocks_does hh (.inr ⟨[], by rw [List.append_nil]⟩) hl _).mono ?_
   rintro r h ⟨g1, g0, g2⟩
   refine ⟨g1, by simpa [AHeap.frz] using g0, fun j x h0 hj => g2 j x (frz_old1 hw (by omega) h0 hj), fun j c hj hc hx => g2 j _ ?_⟩
   rw [zaH hx (by omega), hc]
theorem shaAdd_does {H : AHeap} {i : Nat} {hv : List Int} (hh : hv.length = 8) (hi : H.get i = some (.cells (u32s hv ++ [.nilsl, .int .u64 0]))) {v : AV} {b : Bs} (hb : BtA v b) (hl : b.length <= 100000000) :
  Does Tryz.prog G 116 [.ptr i 0, v] H fun r h => r = .tuple [] /\ HsAt h i (zaI K32 (b.length + 1) hv b) (restI (b.length + 1) b) b.length (fun j => H.next <= j) /\ ∀ j x, j ≠ i -> H.get j = some x -> h.get j = some x := by
 refine Does.wf Tryz.call116 fun hw _ => ?_
 refine zad Tryz.call116 Tryz.func116 rfl (by simp [Tryz.f116]) ?_
 obtain ⟨M, hM⟩ : ∃ M, M = zaI K32 (b.length + 1) hv b := ⟨_, rfl⟩
 obtain ⟨L, hL⟩ : ∃ L, L = restI (b.length + 1) b := ⟨_, rfl⟩
 rw [<- hM, <- hL]
 have hMl : M.length = 8 := by rw [hM]; exact blocksI_len _ _ _ _ hh
 have hLl : L.length <= b.length := by rw [hL]; exact restI_len _ _
 have hin := zaa hw hi
 obtain ⟨w0, w1, w2, w3, w4, w5, w6, w7, hv8⟩ : ∃ w0 w1 w2 w3 w4 w5 w6 w7, hv = [w0, w1, w2, w3, w4, w5, w6, w7] := by
  match hv, hh with
  | [a, b, c, d, e, f, g, h], _ => exact ⟨a, b, c, d, e, f, g, h, rfl⟩
 have hi' := hi
 rw [hv8] at hi
 simp only [u32s, List.map_cons, List.map_nil, List.cons_append, List.nil_append] at hi
 have q1 : i ≠ H.next := by omega
 obtain ⟨va, ea, fa1, fa2, fa3, fa4⟩ := app_bytes (H := H.push (.cells [])) (l := []) (x := []) (w := .sl H.next 0 1 0 0 false) (u := .nilsl) (b := fun j => H.next <= j) (b2 := fun _ => False) (.inr ⟨H.next, 0, 0, false, [], [], rfl, Nat.le_refl _, by simp [strCs], rfl, rfl, rfl, Nat.le_refl _⟩) (.inl .nil) (by simp) (by simp) (nx := H.next + 1) rfl
 have fa2 := fa2.mono (b' := fun j => H.next <= j) fun j hj => hj.elim (fun h => h) fun h => by rw [h]; simp
 obtain ⟨vb, eb, fb1, fb2, fb3, fb4⟩ := app_bytes (x := b) fa2 (.inl hb) (b2 := fun _ => False) (by simp) (by omega) (nx := _) rfl
 have fb2 := fb2.mono (b' := fun j => H.next <= j) fun j hj => hj.elim (fun h => h) fun h => by rw [h]; simp at fa4; omega
 simp [hi, q1, -zan]
 rw [fa1]
 simp [-zan]
 rw [fb1]
 simp
 have old : ∀ j x, H.get j = some x -> (((H.push (.cells [])).eff ea).eff eb).get j = some x := fun j x hj => by
  have := zaa hw hj
  have p1 : j ≠ H.next := by omega
  simp only [AHeap.next_push] at fa4 fa3
  rw [fb3 j (by omega) (by omega), fa3 j (by omega) (by omega)]
  simp [p1, hj]
 have hn2 : H.next <= (((H.push (.cells [])).eff ea).eff eb).next := by
  simp only [AHeap.next_push] at fa4
  omega
 generalize ((H.push (.cells [])).eff ea).eff eb = H2 at *
 have gi := old _ _ hi
 have hbl := (show ByF H v b (fun _ => False) from .inl hb).len
 have wl : IntKind.u64.wrap (b.length : Int) = b.length := IntWalk.u64_in _ (by omega)
 simp only [List.nil_append] at fb2
 simp [gi, hbl, wl, -alen]
 have hB := blocks_live (G := G) (H0 := H) (H := H2.set i (.cells [.int .u32 w0, .int .u32 w1, .int .u32 w2, .int .u32 w3, .int .u32 w4, .int .u32 w5, .int .u32 w6, .int .u32 w7, .nilsl, .int .u64 b.length])) hw (Nat.le_refl _) hh (w := vb) (b := b) (fb2.keep fun j x hj hx => by
  have : j ≠ i := by omega
  simp [this, hx]) (by omega)
 rw [<- hM, <- hL, hv8] at hB
 simp only [u32s, List.map_cons, List.map_nil] at hB
 refine zac hB ?_
 rintro r h ⟨⟨v', rfl, hv'⟩, hk0, hk1, hk2⟩ hw2 _
 have gi2 := hk2 i _ hin (fun p cs => rfl) (by simp; rfl)
 obtain ⟨m0, m1, m2, m3, m4, m5, m6, m7, hM8⟩ : ∃ w0 w1 w2 w3 w4 w5 w6 w7, M = [w0, w1, w2, w3, w4, w5, w6, w7] := by
  match M, hMl with
  | [a, b, c, d, e, f, g, h], _ => exact ⟨a, b, c, d, e, f, g, h, rfl⟩
 clear hB
 subst hM8
 have hin3 := zaa hw2 gi2
 have i3 : i ≠ h.next := by omega
 obtain ⟨vc, ec, fc1, fc2, fc3, fc4⟩ := app_bytes (H := (h.set i (.cells [.int .u32 m0, .int .u32 m1, .int .u32 m2, .int .u32 m3, .int .u32 m4, .int .u32 m5, .int .u32 m6, .int .u32 m7, .nilsl, .int .u64 b.length])).push (.cells [])) (l := []) (x := L) (w := .sl h.next 0 1 0 0 false) (u := v') (b := fun j => h.next <= j) (b2 := fun _ => False) (.inr ⟨h.next, 0, 0, false, [], [], rfl, Nat.le_refl _, by simp [strCs], rfl, rfl, rfl, Nat.le_refl _⟩) (.inl hv') (by simp) (by omega) (nx := h.next + 1) rfl
 have fc2 := fc2.mono (b' := fun j => h.next <= j) fun j hj => hj.elim (fun h => h) fun h => by rw [h]; simp
 simp only [List.nil_append, AHeap.next_push, AHeap.next_set] at fc2 fc3 fc4
 have vcc := fc2.cells
 have vcs := fc2.sc
 simp [gi2, -zan]
 rw [fc1]
 simp
 have hHh : H.next <= h.next := by simp only [AHeap.next_set] at hk0; omega
 have old3 : ∀ j x, j ≠ i -> j < h.next -> h.get j = some x -> (((h.set i (.cells [.int .u32 m0, .int .u32 m1, .int .u32 m2, .int .u32 m3, .int .u32 m4, .int .u32 m5, .int .u32 m6, .int .u32 m7, .nilsl, .int .u64 b.length])).push (.cells [])).eff ec).get j = some x := fun j x ji hjn hj => by
  have p1 : j ≠ h.next := by omega
  rw [fc3 j (by omega) (by omega)]
  simp [p1, ji, hj]
 have gi3 : (((h.set i (.cells [.int .u32 m0, .int .u32 m1, .int .u32 m2, .int .u32 m3, .int .u32 m4, .int .u32 m5, .int .u32 m6, .int .u32 m7, .nilsl, .int .u64 b.length])).push (.cells [])).eff ec).get i = some (.cells [.int .u32 m0, .int .u32 m1, .int .u32 m2, .int .u32 m3, .int .u32 m4, .int .u32 m5, .int .u32 m6, .int .u32 m7, .nilsl, .int .u64 b.length]) := by
  rw [fc3 i (by omega) (by omega)]
  simp [i3]
 generalize ((h.set i (.cells [.int .u32 m0, .int .u32 m1, .int .u32 m2, .int .u32 m3, .int .u32 m4, .int .u32 m5, .int .u32 m6, .int .u32 m7, .nilsl, .int .u64 b.length])).push (.cells [])).eff ec = H3 at *
 simp [gi3, vcc, vcs]
 refine ⟨⟨vc, by simp [u32s], .inr ((fc2.keep fun j x hj hx => ?_).mono fun j hj => ⟨by omega, by omega⟩)⟩, fun j x hji hj => ?_⟩
 · have : j ≠ i := by omega
   simp [this, hx]
 · have := zaa hw hj
   rw [if_neg hji]
   exact old3 j x hji (by omega) (hk1 j x hj (by simp [hji, old j x hj]))
def padZ (n : Nat) : Nat := (120 - n % 64) % 64
def padI (t : Bs) : Bs := t ++ List.replicate (padZ t.length) 0
theorem padI_done {t : Bs} (h : t.length % 64 = 56) : padI t = t := by simp [padI, padZ, h]
theorem padI_more {t : Bs} (h : ¬ t.length % 64 = 56) : padI (t ++ [0]) = padI t /\ padZ (t ++ [0]).length + 1 = padZ t.length := by
 have e : padZ (t ++ [0]).length + 1 = padZ t.length := by
  simp only [padZ, List.length_append, List.length_singleton]
  omega
 refine ⟨?_, e⟩
 simp only [padI]
 rw [<- e, List.replicate_succ, List.append_assoc]
 rfl
theorem padZ_lt (n : Nat) : padZ n < 64 := Nat.mod_lt _ (by decide)
def byteX (n : Nat) (s : Nat) : Int := IntKind.u8.wrap ((IntKind.u64.wrap ((n : Int) * 8)).fdiv (2 ^ (min s 64)))
def byteAt (n s : Nat) : UInt8 := UInt8.ofNat (byteX n s).toNat
theorem byteAt_eq (n s : Nat) : ((byteAt n s).toNat : Int) = byteX n s := by
 have h : 0 <= byteX n s /\ byteX n s < 256 := by
  unfold byteX
  rw [IntKind.wrap_u8]
  omega
 unfold byteAt
 rw [UInt8.toNat_ofNat']
 omega
def lenR (n : Nat) : Nat -> Bs
 | 0 => []
 | k + 1 => byteAt n (8 * k) :: lenR n k
theorem lenR_len (n : Nat) : ∀ k, (lenR n k).length = k
 | 0 => rfl
 | k + 1 => by simp [lenR, lenR_len n k]
def sumB (left : Bs) (n : Nat) : Bs := padI (left ++ [0x80]) ++ lenR n 8
def u8s (l : List Int) : List AV := l.map (.int .u8 ·)
theorem u8s_len (l : List Int) : (u8s l).length = l.length := by simp [u8s]
theorem u8s_put {l : List Int} {i : Nat} (h : i < l.length) (x : Int) : List.take i (u8s l) ++ AV.int .u8 x :: List.drop (i + 1) (u8s l) = u8s (l.set i x) := by
 have : u8s (l.set i x) = (u8s l).set i (.int .u8 x) := by simp [u8s, List.map_set]
 rw [this, List.set_eq_take_append_cons_drop, if_pos (by rw [u8s_len]; exact h)]
theorem u8s_lt (n : Nat) : ∀ l : List Int, AV.allLt n (u8s l) = true
 | [] => rfl
 | a :: l => by
   have := u8s_lt n l
   simp only [u8s, List.map_cons, AV.allLt, AV.idLt, Bool.true_and] at this ⊢
   exact this
def digI (v : List Int) (j : Nat) : Int := IntKind.u8.wrap (shrI (v.getD (j / 4) 0) (24 - 8 * (j % 4)))
def digs (v : List Int) : Nat -> List Int
 | 0 => zeros 32
 | j + 1 => (digs v j).set j (digI v j)
theorem digs_len (v : List Int) : ∀ j, (digs v j).length = 32
 | 0 => rfl
 | j + 1 => by simp [digs, digs_len v j]
def shaSum (hv : List Int) (left : Bs) (n : Nat) : List Int := digs (zaI K32 ((sumB left n).length + 1) hv (sumB left n)) 32
theorem list8 {l : List Int} (h : l.length = 8) : ∃ a b c d e f g i, l = [a, b, c, d, e, f, g, i] := by
 match l, h with
 | [a, b, c, d, e, f, g, i], _ => exact ⟨a, b, c, d, e, f, g, i, rfl⟩
theorem o_shrN (a : Int) (n : Nat) : zaB .shr .u64 a (n : Int) = some (.int .u64 (a.fdiv (2 ^ (min n 64)))) := by simp only [zaB]; rw [if_neg (by omega)]; rfl
theorem rem64 (n : Nat) : ((n : Int).tmod 64) = ((n % 64 : Nat) : Int) := by
 rw [Int.tmod_eq_emod_of_nonneg (by omega)]; rfl
def Z32 : List AV := [AV.int IntKind.u8 0, AV.int IntKind.u8 0, AV.int IntKind.u8 0, AV.int IntKind.u8 0, AV.int IntKind.u8 0, AV.int IntKind.u8 0, AV.int IntKind.u8 0, AV.int IntKind.u8 0, AV.int IntKind.u8 0, AV.int IntKind.u8 0, AV.int IntKind.u8 0, AV.int IntKind.u8 0, AV.int IntKind.u8 0, AV.int IntKind.u8 0, AV.int IntKind.u8 0, AV.int IntKind.u8 0, AV.int IntKind.u8 0, AV.int IntKind.u8 0, AV.int IntKind.u8 0, AV.int IntKind.u8 0, AV.int IntKind.u8 0, AV.int IntKind.u8 0, AV.int IntKind.u8 0, AV.int IntKind.u8 0, AV.int IntKind.u8 0, AV.int IntKind.u8 0, AV.int IntKind.u8 0, AV.int IntKind.u8 0, AV.int IntKind.u8 0, AV.int IntKind.u8 0, AV.int IntKind.u8 0, AV.int IntKind.u8 0]
theorem aappend_put {P : Program} {t u : TypeId} {get : Nat -> Option AObj} {next : Nat} {s x v' : AV} {eff : AEff} (hx : ∀ k i, x ≠ .int k i) (h : zan P t u get next s x = some (v', eff)) {i : Nat} {y : AObj} (e : eff = .put i y) : ∃ z, get i = some z := by
 subst e
 unfold zan at h
 split at h
 · exact absurd rfl (hx _ _)
 · repeat' split at h
   all_goals first
    | (simp only [Option.some.injEq, Prod.mk.injEq, reduceCtorEq, and_false] at h; done)
    | (simp only [Option.some.injEq, Prod.mk.injEq, AEff.put.injEq] at h; obtain ⟨_, rfl, _⟩ := h; exact ⟨_, by assumption⟩)
    | cases h
theorem eff_lt {H : AHeap} (hw : ∀ j x, H.get j = some x -> j < H.next) {eff : AEff} (he : ∀ i y, eff = .put i y -> ∃ z, H.get i = some z) : ∀ j x, (H.eff eff).get j = some x -> j < (H.eff eff).next := by
 intro j x hj
 cases eff with
 | same => exact hw j x hj
 | put i y =>
   simp only [AHeap.eff, AHeap.get_set, AHeap.next_set] at hj ⊢
   split at hj
   · rename_i e
     obtain ⟨z, hz⟩ := he i y rfl
     rw [e]; exact hw _ _ hz
   · exact hw j x hj
 | new y =>
   simp only [AHeap.eff, AHeap.get_push, AHeap.next_push] at hj ⊢
   split at hj
   · omega
   · have := hw j x hj; omega
 | move i y =>
   simp only [AHeap.eff, AHeap.get_push, AHeap.next_push, AHeap.next_kill, AHeap.get_kill] at hj ⊢
   have hj : (if j = H.next then some y else if j = i then none else H.get j) = some x := hj
   by_cases e : j = H.next
   · omega
   · rw [if_neg e] at hj
     by_cases e2 : j = i
     · rw [if_pos e2] at hj; cases hj
     · rw [if_neg e2] at hj
       have := hw j x hj; omega
theorem push_lt {H : AHeap} (hw : ∀ j x, H.get j = some x -> j < H.next) (y : AObj) : ∀ j x, (H.push y).get j = some x -> j < (H.push y).next := by
 intro j x hj
 simp only [AHeap.get_push, AHeap.next_push] at hj ⊢
 split at hj
 · omega
 · have := hw j x hj; omega
theorem app1 {H : AHeap} {l : Bs} {w : AV} {b : Nat -> Prop} (h : Gr H 1 l.length (strCs l) w b) (hw : ∀ j x, H.get j = some x -> j < H.next) (h1 : l.length <= 500000000) (x : UInt8) {c : Int} (hc : ((x.toNat : Nat) : Int) = c) :
  ∃ v' eff, zan Tryz.prog 22 22 (H.push (.cells [.int .u8 c])).get (H.next + 1) w (.sl H.next 0 1 1 1 false) = some (v', eff) /\ Gr ((H.push (.cells [.int .u8 c])).eff eff) 1 (l ++ [x]).length (strCs (l ++ [x])) v' (fun j => b j \/ H.next <= j) /\
    (∀ j, ¬ b j -> j < H.next -> ((H.push (.cells [.int .u8 c])).eff eff).get j = H.get j) /\ H.next + 1 <= ((H.push (.cells [.int .u8 c])).eff eff).next := by
 have h' : Gr (H.push (.cells [.int .u8 c])) 1 l.length (strCs l) w b := h.keep fun j y hj hy => by
  have := hw j y hy
  have e : j ≠ H.next := by omega
  simp [e, hy]
 obtain ⟨v', eff, f1, f2, f3, f4⟩ := app_bytes (x := [x]) h' (u := .sl H.next 0 1 1 1 false) (b2 := fun _ => True) (.inr (.inr ⟨H.next, 0, 1, false, [], [], rfl, trivial, by simp [strCs, hc], rfl, rfl, rfl, Nat.le_refl _⟩)) (by omega) (by simp) (nx := H.next + 1) rfl
 refine ⟨v', eff, f1, f2.mono fun j hj => ?_, fun j hj hjn => ?_, f4⟩
 · rcases hj with hj | hj
   · exact .inl hj
   · exact .inr (by rw [hj]; simp)
 · rw [f3 j hj (by simp; omega)]
   have e : j ≠ H.next := by omega
   simp [e]
theorem shaSum_does {H : AHeap} {i : Nat} {hv : List Int} (hh : hv.length = 8) {left : Bs} {n : Nat} {P : Nat -> Prop} (hs : HsAt H i hv left n P) (hP : ∀ j, P j -> j < H.next) (hl : left.length <= 100000000) :
  Does Tryz.prog G 117 [.ptr i 0] H fun r h => r = .agg (u8s (shaSum hv left n)) /\ ∀ j x, ¬ P j -> H.get j = some x -> h.get j = some x := by
 refine Does.wf Tryz.call117 fun hw _ => ?_
 obtain ⟨M, hM⟩ : ∃ M, M = shaSum hv left n := ⟨_, rfl⟩
 rw [<- hM]
 refine zad Tryz.call117 Tryz.func117 rfl (by simp [Tryz.f117]) ?_
 obtain ⟨u, hi, hu⟩ := hs
 have hin := zaa hw hi
 have hiR := hi
 obtain ⟨w0, w1, w2, w3, w4, w5, w6, w7, hv8⟩ := list8 hh
 rw [hv8] at hi
 simp only [u32s, List.map_cons, List.map_nil, List.cons_append, List.nil_append] at hi
 have q1 : i ≠ H.next := by omega
 have q2 : i ≠ H.next + 1 := by omega
 have uc := hu.cells
 have us := hu.sc
 have hu' : ByF ((H.push (.cells Z32)).push (.cells [])) u left (fun j => P j /\ j ≠ i) := by
  rcases hu with hu | hu
  · exact .inl hu
  · exact .inr (hu.keep fun j x hj hx => by
     have := zaa hw hx
     have p1 : j ≠ H.next := by omega
     have p2 : j ≠ H.next + 1 := by omega
     simp [p1, p2, hx])
 obtain ⟨va, ea, fa1, fa2, fa3, fa4⟩ := app_bytes (H := (H.push (.cells Z32)).push (.cells [])) (l := []) (x := left) (w := .sl (H.next + 1) 0 1 0 0 false) (u := u) (b := fun j => H.next < j) (.inr ⟨H.next + 1, 0, 0, false, [], [], rfl, Nat.lt_succ_self _, by simp [strCs], rfl, rfl, rfl, Nat.le_refl _⟩) hu' (by simp) (by omega) (nx := H.next + 1 + 1) rfl
 simp only [List.nil_append, AHeap.next_push] at fa2 fa3 fa4
 have lt2 : ∀ j x, (((H.push (.cells Z32)).push (.cells [])).eff ea).get j = some x -> j < (((H.push (.cells Z32)).push (.cells [])).eff ea).next :=
  eff_lt (push_lt (push_lt (fun j x => zaa hw) _) _) fun i y e => aappend_put (fun k i => by rcases hu with (⟨rfl, _⟩ | ⟨ts, rfl⟩) | (⟨_, _, rfl⟩ | ⟨p, o, cap, op, pre, junk, rfl, _⟩) <;> simp) fa1 e
 obtain ⟨vb, eb, fb1, fb2, fb3, fb4⟩ := app1 fa2 lt2 (by omega) 0x80 (c := 128) rfl
 have old : ∀ j x, ¬ (H.next < j) -> j ≠ H.next + 1 + 1 -> (((H.push (.cells Z32)).push (.cells [])).eff ea).get j = some x -> True := fun _ _ _ _ _ => trivial
 unfold Z32 at fa1 fb1
 simp [hi, q1, q2, uc, us, -zan]
 rw [fa1]
 simp [-zan]
 rw [fb1]
 simp
 have old : ∀ j x, H.get j = some x -> ((((((H.push (.cells Z32)).push (.cells [])).eff ea).push (.cells [.int .u8 128])).eff eb)).get j = some x := fun j x hj => by
  have := zaa hw hj
  have p1 : j ≠ H.next := by omega
  have p2 : j ≠ H.next + 1 := by omega
  rw [fb3 j (by omega) (by omega), fa3 j (by omega) (by omega)]
  simp [p1, p2, hj]
 have hz0 : ((((((H.push (.cells Z32)).push (.cells [])).eff ea).push (.cells [.int .u8 128])).eff eb)).get H.next = some (.cells Z32) := by
  rw [fb3 _ (by omega) (by omega), fa3 _ (by omega) (by omega)]
  simp
 have fb2 := fb2.mono (b' := fun j => H.next < j) fun j hj => by
  rcases hj with (hj | hj) | hj <;> omega
 unfold Z32 at old hz0 fb2
 generalize ((((((H.push (.cells [AV.int IntKind.u8 0, AV.int IntKind.u8 0, AV.int IntKind.u8 0, AV.int IntKind.u8 0, AV.int IntKind.u8 0, AV.int IntKind.u8 0, AV.int IntKind.u8 0, AV.int IntKind.u8 0, AV.int IntKind.u8 0, AV.int IntKind.u8 0, AV.int IntKind.u8 0, AV.int IntKind.u8 0, AV.int IntKind.u8 0, AV.int IntKind.u8 0, AV.int IntKind.u8 0, AV.int IntKind.u8 0, AV.int IntKind.u8 0, AV.int IntKind.u8 0, AV.int IntKind.u8 0, AV.int IntKind.u8 0, AV.int IntKind.u8 0, AV.int IntKind.u8 0, AV.int IntKind.u8 0, AV.int IntKind.u8 0, AV.int IntKind.u8 0, AV.int IntKind.u8 0, AV.int IntKind.u8 0, AV.int IntKind.u8 0, AV.int IntKind.u8 0, AV.int IntKind.u8 0, AV.int IntKind.u8 0, AV.int IntKind.u8 0])).push (.cells [])).eff ea).push (.cells [.int .u8 128])).eff eb)) = H2 at *
 have hz0 : H2.get H.next = some (.cells (u8s (zeros 32))) := hz0
 have hpz := padZ_lt (left ++ [0x80]).length
 refine zam (fun m T' H' => ∃ t w, padI t = padI (left ++ [0x80]) /\ padZ t.length = m /\ t.length + m = (left ++ [0x80]).length + padZ (left ++ [0x80]).length /\ Gr H' 1 t.length (strCs t) w (fun j => H.next < j) /\ (∀ j x, H.get j = some x -> H'.get j = some x) /\ H'.get H.next = some (.cells (u8s (zeros 32))) /\
  T' 0 = .ptr i 0 /\ T' 2 = .ptr H.next 0 /\ T' 3 = w) (padZ (left ++ [0x80]).length) ?_ ?_
 · exact ⟨left ++ [0x80], vb, rfl, rfl, rfl, fb2, old, hz0, by simp, by simp, by simp⟩
 clear fa1 fa2 fa3 fa4 fb1 fb2 fb3 fb4 lt2 old hz0
 rintro m T H1 ⟨t, w, hpd, hpm, htl, hg, hk, hz, t0, t2, t3⟩ hw1 _
 have hal : alen Tryz.prog 22 w = some (.int .i64 t.length) := hg.alen (e := 5) (by simp)
 have htb : t.length <= 100000100 := by
  simp only [List.length_append, List.length_singleton] at htl hpz
  omega
 by_cases h56 : t.length % 64 = 56
 · have hne : ((((t.length : Int).tmod 64)) != 56) = false := by rw [rem64, h56]; rfl
   simp [t0, t2, t3, hal, hne, -alen]
   have hF : sumB left n = t ++ lenR n 8 := by rw [sumB, <- hpd, padI_done h56]
   have hSl : (sumB left n).length <= 200000000 := by rw [hF, List.length_append, lenR_len]; omega
   refine zam (fun m T' H' => ∃ t' w, sumB left n = t' ++ lenR n m /\ m <= 8 /\ Gr H' 1 t'.length (strCs t') w (fun j => H.next < j) /\ (∀ j x, H.get j = some x -> H'.get j = some x) /\ H'.get H.next = some (.cells (u8s (zeros 32))) /\
    T' 0 = .ptr i 0 /\ T' 2 = .ptr H.next 0 /\ T' 3 = w /\ T' 4 = .int .i64 (8 * (m : Int) - 8)) 8 ?_ ?_
   · exact ⟨t, w, hF, by omega, hg, hk, hz, by simp [t0], by simp [t2], by simp [t3], by simp⟩
   clear hg hk hz t0 t2 t3 hw1 hal hne
   rintro m T H1 ⟨t', w, hF, hm8, hg, hk, hz, t0, t2, t3, t4⟩ hw1 _
   have gi := hk _ _ hi
   have hFl := congrArg List.length hF
   rw [List.length_append, lenR_len] at hFl
   cases m with
   | succ m =>
     have t4 : T 4 = .int .i64 ((8 * m : Nat) : Int) := by rw [t4]; congr 1; omega
     have hge : (0 : Int) <= ((8 * m : Nat) : Int) := by omega
     have w8 : IntKind.i64.wrap (((8 * m : Nat) : Int) - 8) = 8 * (m : Int) - 8 := by rw [IntWalk.i64_in _ (by omega)]; omega
     have hwl : t'.length <= 500000000 := by omega
     obtain ⟨v', eff, f1, f2, f3, f4⟩ := app1 hg (fun j x => zaa hw1) hwl (byteAt n (8 * m)) (c := byteX n (8 * m)) (byteAt_eq n _)
     unfold byteX at f1 f2 f3 f4
     obtain ⟨I8, hI8⟩ : ∃ I8, I8 = 8 * m := ⟨_, rfl⟩
     rw [<- hI8] at t4 hge w8 f1 f2 f3 f4
     simp [t0, t2, t3, t4, gi, hge, o_geq64, o_shrN, o_mulU, o_sub64, w8, -zan, -zaB, -aint2]
     have hF2 : sumB left n = (t' ++ [byteAt n (8 * m)]) ++ lenR n m := by rw [hF]; simp [lenR]
     rw [f1]
     simp [t0, t2, t3, t4, w8, o_sub64, -aint2]
     rw [<- hI8] at hF2
     refine ⟨m, by omega, t' ++ [byteAt n I8], hF2, by omega, v', f2.mono fun j hj => ?_, fun j x hj => ?_, ?_, rfl, by first | rfl | omega⟩
     · rcases hj with hj | hj
       · exact hj
       · have := zaa hw1 hz; omega
     · have hjn := zaa hw hj
       have := zaa hw1 (hk j x hj)
       rw [f3 j (by omega) (by omega)]
       exact hk j x hj
     · have := zaa hw1 hz
       rw [f3 _ (by omega) (by omega)]
       exact hz
   | zero =>
     have t4 : T 4 = .int .i64 (-8) := t4
     simp [t0, t2, t3, t4, gi]
     have hF0 : sumB left n = t' := by rw [hF]; simp [lenR]
     have hB := blocks_live (G := G) (H0 := H) hw (B := H.next + 1) (by omega) hh (w := w) (b := t') (hg.mono fun j hj => by omega) (by rw [<- hF0]; omega)
     rw [hv8] at hB
     simp only [u32s, List.map_cons, List.map_nil] at hB
     rw [<- hv8] at hB
     refine zac hB ?_
     rintro r h ⟨⟨v', rfl, hv'⟩, hk0, hk1, hk2⟩ hw2 _
     have gz := hk2 H.next _ (by omega) (fun p cs => AV.frzs_lt (n := 0) (Nat.zero_le _) _ (u8s_lt 0 _)) hz
     obtain ⟨V, hV⟩ : ∃ V, V = zaI K32 (t'.length + 1) hv t' := ⟨_, rfl⟩
     have hMV : M = digs V 32 := by rw [hM, shaSum, hF0, hV]
     have hVl : V.length = 8 := by rw [hV]; exact blocksI_len _ _ _ _ hh
     have vl := za1 V
     rw [hVl] at vl
     have tk : List.take 8 (u32s V) = u32s V := by rw [<- vl, List.take_length]
     have sc : (∀ x, x ∈ u32s V -> x.scalar = true) = True := eq_true fun x hx => List.all_eq_true.1 (u32s_sc _) x hx
     have eV : List.map (fun x => AV.int IntKind.u32 x) V = u32s V := rfl
     have gzn := zaa hw2 gz
     have old : ∀ j x, H.get j = some x -> h.get j = some x := fun j x hj => hk1 j x hj (hk j x hj)
     have vc := hv'.cells
     have vs := hv'.sc
     rw [<- hV]
     clear hk1 hk2 hB hV hk hz hg
     simp [eV, vl, tk, sc, vc, vs]
     refine zam (fun m T' H' => ∃ a, a + m = 8 /\ (∀ j x, H.get j = some x -> H'.get j = some x) /\ H'.get H.next = some (.cells (u8s (zeros 32))) /\ H'.get (h.next + 1) = some (.cells (u8s (digs V (4 * a)))) /\
      T' 2 = .ptr H.next 0 /\ T' 7 = .ptr (h.next + 1) 0 /\ T' 50 = .agg (u32s V) /\ T' 51 = .int .i64 a) 8 ?_ ?_
     · refine ⟨0, rfl, fun j x hj => ?_, ?_, by simp [digs, u8s, zeros], ?_, ?_, ?_, ?_⟩
       · have := zaa hw2 (old j x hj)
         have p1 : j ≠ h.next := by omega
         have p2 : j ≠ h.next + 1 := by omega
         simp [p1, p2, old j x hj]
       · have p1 : H.next ≠ h.next := by omega
         have p2 : H.next ≠ h.next + 1 := by omega
         simp [p1, p2, gz]
       all_goals simp [t2]
     clear old gz t0 t2 t3 t4 gi hw1
     rintro m T H1 ⟨a, ham, hk, hz, hd, t2, t7, t50, t51⟩ hw1 _
     have zn := zaa hw1 hz
     by_cases ha : a < 8
     · have haa : (a : Int) < 8 := by omega
       simp [t50, t51, ha, haa, vl, u32s_get]
       refine zam (fun m' T' H' => ∃ k, k + m' = 4 /\ (∀ j x, H.get j = some x -> H'.get j = some x) /\ H'.get H.next = some (.cells (u8s (zeros 32))) /\ H'.get (h.next + 1) = some (.cells (u8s (digs V (4 * a + k)))) /\
        T' 2 = .ptr H.next 0 /\ T' 7 = .ptr (h.next + 1) 0 /\ T' 50 = .agg (u32s V) /\ T' 51 = .int .i64 a /\ T' 8 = .int .i64 a /\ T' 9 = .int .u32 (V.getD a 0) /\ T' 55 = .int .i64 k) 4 ?_ ?_
       · refine ⟨0, rfl, hk, hz, hd, ?_, ?_, ?_, ?_, ?_, ?_, ?_⟩ <;> simp [t2, t7, t50, t51]
       clear hk hz hd t2 t7 t50 t51 hw1
       rintro m' T H1 ⟨k, hkm, hk, hz, hd, t2, t7, t50, t51, t8, t9, t55⟩ hw1 _
       by_cases hk4 : k < 4
       · have hkk : (k : Int) < 4 := by omega
         have dl : (digs V (4 * a + k)).length = 32 := digs_len _ _
         have ul := u8s_len (digs V (4 * a + k))
         rw [dl] at ul
         have w1 : IntKind.i64.wrap (4 * (a : Int)) = ((4 * a : Nat) : Int) := by rw [IntWalk.i64_in _ (by omega)]; omega
         have w2 : IntKind.i64.wrap (((4 * a : Nat) : Int) + k) = ((4 * a + k : Nat) : Int) := by rw [IntWalk.i64_in _ (by omega)]; omega
         have w3 : IntKind.i64.wrap (8 * (k : Int)) = ((8 * k : Nat) : Int) := by rw [IntWalk.i64_in _ (by omega)]; omega
         have w4 : IntKind.i64.wrap (24 - ((8 * k : Nat) : Int)) = ((24 - 8 * k : Nat) : Int) := by rw [IntWalk.i64_in _ (by omega)]; omega
         have w5 : IntKind.i64.wrap ((k : Int) + 1) = ((k + 1 : Nat) : Int) := by rw [IntWalk.i64_in _ (by omega)]; omega
         obtain ⟨A, hA⟩ : ∃ A, A = 4 * a := ⟨_, rfl⟩
         obtain ⟨B, hB⟩ : ∃ B, B = 4 * a + k := ⟨_, rfl⟩
         obtain ⟨C, hC⟩ : ∃ C, C = 8 * k := ⟨_, rfl⟩
         obtain ⟨D, hD⟩ : ∃ D, D = 24 - 8 * k := ⟨_, rfl⟩
         rw [<- hB] at w2 hd dl ul
         rw [<- hA] at w1 w2
         rw [<- hD] at w4
         rw [<- hC] at w3 w4
         have b1 : B < 32 := by omega
         have b1' : (B : Int) < 32 := by omega
         have b2 : B <= 31 := by omega
         simp [t2, t7, t50, t51, t8, t9, t55, hk4, hkk, o_lss64, o_mul64, o_add64, o_sub64, o_shr, w1, w2, w3, w4, w5, hd, ul, b1, b1', b2, -aint2, -zaB]
         refine ⟨m' - 1, by omega, k + 1, by omega, fun j x hj => ?_, ?_, ?_, by omega⟩
         · have := zaa hw hj
           have p1 : j ≠ h.next + 1 := by omega
           simp [p1, hk j x hj]
         · rw [if_neg (by omega)]; exact hz
         · rw [u8s_put (by omega)]
           have e1 : 4 * a + (k + 1) = B + 1 := by omega
           have e2 : B / 4 = a := by omega
           have e3 : 24 - 8 * (B % 4) = D := by omega
           rw [e1]
           simp only [digs, digI, e2, e3]
           simp
       · obtain rfl : k = 4 := by omega
         have w5 : IntKind.i64.wrap ((a : Int) + 1) = ((a + 1 : Nat) : Int) := by rw [IntWalk.i64_in _ (by omega)]; omega
         simp [t2, t7, t50, t51, t55, w5]
         exact ⟨m - 1, by omega, a + 1, by omega, hk, hz, by rw [show 4 * (a + 1) = 4 * a + 4 by omega]; exact hd, by omega⟩
     · obtain rfl : a = 8 := by omega
       have dl : (digs V (4 * 8)).length = 32 := digs_len _ _
       rw [<- hMV] at hd dl
       have ul := u8s_len M
       rw [dl] at ul
       have tkM : List.take 32 (u8s M) = u8s M := by rw [<- ul, List.take_length]
       have scM : (∀ x, x ∈ u8s M -> x.scalar = true) = True := eq_true fun x hx => by simp only [u8s, List.mem_map] at hx; obtain ⟨y, _, rfl⟩ := hx; rfl
       have zl : (u8s (zeros 32)).length = 32 := by rw [u8s_len]; rfl
       have dz : List.drop 32 (u8s (zeros 32)) = [] := List.drop_eq_nil_of_le (by rw [zl]; exact Nat.le_refl _)
       simp [t2, t7, t51, hz, hd, ul, tkM, scM, zl, dz]
       intro j x _ hj
       have := zaa hw hj
       have p1 : j ≠ H.next := by omega
       simp [p1, hk j x hj]
 · have hne : ((((t.length : Int).tmod 64)) != 56) = true := by rw [rem64, bne_iff_ne]; omega
   obtain ⟨v', eff, f1, f2, f3, f4⟩ := app1 hg (fun j x => zaa hw1) (by omega) 0 (c := 0) rfl
   simp [t0, t2, t3, hal, hne, -alen, -zan]
   rw [f1]
   simp [t0, t2, t3]
   obtain ⟨p1, p2⟩ := padI_more h56
   have l1 : (left ++ [0x80]).length = left.length + 1 := by simp
   rw [l1] at htl hpz
   refine ⟨m - 1, by omega, t ++ [0], by rw [p1, hpd], by omega, by simp only [List.length_append, List.length_singleton]; omega, v', f2.mono fun j hj => ?_, fun j x hj => ?_, ?_, rfl⟩
   · rcases hj with hj | hj
     · exact hj
     · have := zaa hw1 hz; omega
   · have hjn := zaa hw hj
     have := zaa hw1 (hk j x hj)
     rw [f3 j (by omega) (by omega)]
     exact hk j x hj
   · have := zaa hw1 hz
     rw [f3 _ (by omega) (by omega)]
     exact hz
def shaOf (b : Bs) : List Int := shaSum (zaI K32 (b.length + 1) H0s b) (restI (b.length + 1) b) b.length
theorem shaOf_does {v : AV} {b : Bs} (hb : BtA v b) (hl : b.length <= 100000000) (H : AHeap) : Does Tryz.prog G 73 [v] H fun r h => r = .agg (u8s (shaOf b)) /\ h = H := by
 obtain ⟨M, hM⟩ : ∃ M, M = shaOf b := ⟨_, rfl⟩
 rw [<- hM]
 refine Does.forgot (R := fun r h => r = .agg (u8s M) /\ ∀ j x, H.get j = some x -> h.get j = some x) ?_ (fun hw ha r H1 ⟨h1, h2⟩ => ⟨h2, by rw [h1, AV.idLt, u8s_lt], h1, rfl⟩)
 refine Does.wf Tryz.call73 fun hw _ => ?_
 refine zad Tryz.call73 Tryz.func73 rfl (by simp [Tryz.f73]) ?_
 simp
 refine zac (shaNew_does _) ?_
 rintro r h ⟨rfl, rfl⟩ hw1 _
 simp
 refine zac (shaAdd_does (hv := H0s) rfl (by simp) hb hl) ?_
 rintro r h ⟨rfl, h1, h2⟩ hw2 _
 simp
 have hL := restI_len (b.length + 1) b
 have h1' : HsAt h (H.next + 1) (zaI K32 (b.length + 1) H0s b) (restI (b.length + 1) b) b.length (fun j => H.next + 1 <= j /\ j < h.next) := by
  obtain ⟨u, g1, g2⟩ := h1
  refine ⟨u, g1, ?_⟩
  rcases g2 with g2 | g2
  · exact .inl g2
  · exact .inr ((Gr_lt g2 fun j x => zaa hw2).mono fun j hj => ⟨⟨by have := hj.1.1; simp at this; omega, hj.2.1⟩, hj.1.2⟩)
 have hz := h2 H.next _ (by omega) (by simp; rfl)
 refine zac (shaSum_does (blocksI_len _ _ _ _ rfl) h1' (fun j hj => hj.2) (by omega)) ?_
 rintro r h' ⟨rfl, h3⟩ hw3 _
 have hz3 := h3 H.next _ (by omega) hz
 have hM2 : u8s (shaSum (zaI K32 (b.length + 1) H0s b) (restI (b.length + 1) b) b.length) = u8s M := by rw [hM]; rfl
 rw [hM2]
 have ml : M.length = 32 := by rw [hM]; exact digs_len _ _
 have ul := u8s_len M
 rw [ml] at ul
 have tkM : List.take 32 (u8s M) = u8s M := by rw [<- ul, List.take_length]
 have scM : (∀ x, x ∈ u8s M -> x.scalar = true) = True := eq_true fun x hx => by simp only [u8s, List.mem_map] at hx; obtain ⟨y, _, rfl⟩ := hx; rfl
 simp [hz3, ul, tkM, scM]
 intro j x hj
 have := zaa hw hj
 have p1 : j ≠ H.next := by omega
 have p2 : j ≠ H.next + 1 := by omega
 simp [p1, h3 j x (by omega) (h2 j x (by omega) (by simp [p1, p2, hj]))]
def MacAt (H : AHeap) (m q : Nat) (p : List AV) (mv : List Int) (t : Nat) (op : Bool) : Prop :=
 H.get m = some (.cells (p ++ [.sl q 0 1 4 4 op, .int .i64 t])) /\ H.get q = some (.cells (ints mv)) /\ p.length = 6 /\ mv.length = 4 /\ m ≠ q /\ t <= 4611686018427387904 /\ ∀ v ∈ mv, i64 v
def stateB (mv : List Int) (t : Nat) : Bs := encU t ++ (encU 4 ++ encIs mv)
theorem list6 {l : List AV} (h : l.length = 6) : ∃ a b c d e f, l = [a, b, c, d, e, f] := by
 match l, h with
 | [a, b, c, d, e, f], _ => exact ⟨a, b, c, d, e, f, rfl⟩
theorem ints_get {l : List Int} {i : Nat} (h : i < (ints l).length) : (ints l)[i]'h = .int .i64 (l.getD i 0) := by
 have h' : i < l.length := by rw [za6] at h; exact h
 simp [ints, h']
theorem encI_le {v : Int} (h : i64 v) : (encI v).length <= 10 := zao (zig_lt h)
theorem encIs_le10 : ∀ {l : List Int}, (∀ v ∈ l, i64 v) -> (encIs l).length <= 10 * l.length
 | [], _ => by simp [encIs]
 | a :: l, h => by
   have h1 := encI_le (h a (by simp))
   have h2 := encIs_le10 (l := l) fun v hv => h v (by simp [hv])
   simp only [encIs, List.flatMap_cons, List.length_append, List.length_cons] at h2 ⊢
   omega
theorem encIs_append (a b : List Int) : encIs (a ++ b) = encIs a ++ encIs b := by simp [encIs]
theorem state_does {H : AHeap} {m q : Nat} {p : List AV} {mv : List Int} {t : Nat} {op : Bool} (hm : MacAt H m q p mv t op) : Does Tryz.prog G 74 [.ptr m 0] H fun r h => r = bV (stateB mv t) /\ h = H := by
 obtain ⟨h1, h2, h3, h4, h5, h6, h7⟩ := hm
 obtain ⟨a, b, c, d, e, f, rfl⟩ := list6 h3
 simp only [List.cons_append, List.nil_append] at h1
 refine zad Tryz.call74 Tryz.func74 rfl (by simp [Tryz.f74]) ?_
 have w1 : IntKind.u64.wrap (t : Int) = t := IntWalk.u64_in _ (by omega)
 have l1 := zao (u := t) (by omega)
 have l2 := zao (u := 4) (by omega)
 simp [h1, w1]
 refine zab (packU_does (u := t) (by omega) .nil (by simp) _) ?_
 rintro r h ⟨rfl, rfl⟩
 simp [h1]
 refine zab (packU_does (u := 4) (by omega) (.bV ([] ++ encU t)) (by simp; omega) _) ?_
 rintro r h ⟨rfl, rfl⟩
 simp [h1]
 obtain ⟨B0, hB0⟩ : ∃ B0, B0 = encU t ++ encU 4 := ⟨_, rfl⟩
 have hS : stateB mv t = B0 ++ encIs mv := by rw [hB0, stateB, List.append_assoc]
 have lB : B0.length <= 20 := by rw [hB0, List.length_append]; omega
 rw [hS, <- hB0]
 refine zam (fun k T' H' => ∃ j, j + k = 4 /\ H' = h /\ T' 3 = bV (B0 ++ encIs (mv.take j)) /\ T' 23 = .sl q 0 1 4 4 op /\ T' 24 = .int .i64 4 /\ T' 25 = .int .i64 j) 4 ?_ ?_
 · refine ⟨0, rfl, rfl, ?_, ?_, ?_, ?_⟩ <;> simp [encIs, hB0]
 rintro k T H1 ⟨j, hjk, rfl, t3, t23, t24, t25⟩ hw1 _
 by_cases hj : j < 4
 · have hjj : (j : Int) < 4 := by omega
   have hj4 : j <= 4 := by omega
   obtain ⟨v, hv⟩ : ∃ v, mv[j]? = some v := ⟨_, List.getElem?_eq_getElem (by omega)⟩
   have hvi : i64 v := h7 v (List.mem_of_getElem? hv)
   have iv : (ints mv)[j]? = some (.int .i64 v) := by simp [ints, hv]
   have il := za6 mv
   rw [h4] at il
   have hsn : mv.take (j + 1) = mv.take j ++ [v] := by rw [List.take_add_one, hv]; rfl
   have hle : (encIs (mv.take j)).length <= 40 := by
    have := encIs_le10 (l := mv.take j) fun x hx => h7 x (List.mem_of_mem_take hx)
    rw [List.length_take] at this
    omega
   have wr : IntKind.i64.wrap ((j : Int) + 1) = ((j + 1 : Nat) : Int) := by rw [IntWalk.i64_in _ (by omega)]; omega
   simp [t3, t23, t24, t25, hj, hjj, h2, il, hj4, ints_get, hv]
   refine zab (packI_does hvi (bs := B0 ++ encIs (mv.take j)) (.bV _) (by rw [List.length_append]; omega) _) ?_
   rintro r h ⟨rfl, rfl⟩
   simp [t3, t23, t24, t25]
   refine ⟨k - 1, by omega, j + 1, by omega, ?_, by omega⟩
   rw [hsn, encIs_append]
   simp [encIs]
 · obtain rfl : j = 4 := by omega
   have : mv.take 4 = mv := by rw [<- h4, List.take_length]
   rw [this] at t3
   simp [t3, t24, t25, hS]
def digestV (mv : List Int) (t : Nat) : AV := .agg (u8s (shaOf (stateB mv t)))
theorem stateB_le {mv : List Int} {t : Nat} (h4 : mv.length = 4) (h7 : ∀ v ∈ mv, i64 v) (ht : t < 2 ^ 64) : (stateB mv t).length <= 60 := by
 have l1 := zao ht
 have l2 := zao (u := 4) (by omega)
 have l3 := encIs_le10 h7
 simp only [stateB, List.length_append]
 omega
theorem shaOf_len (b : Bs) : (shaOf b).length = 32 := digs_len _ _
theorem digest_does {H : AHeap} {m q : Nat} {p : List AV} {mv : List Int} {t : Nat} {op : Bool} (hm : MacAt H m q p mv t op) : Does Tryz.prog G 39 [.ptr m 0] H fun r h => r = digestV mv t /\ h = H := by
 obtain ⟨M, hM⟩ : ∃ M, M = shaOf (stateB mv t) := ⟨_, rfl⟩
 have hD : digestV mv t = .agg (u8s M) := by rw [hM]; rfl
 rw [hD]
 refine Does.forgot (R := fun r h => r = .agg (u8s M) /\ ∀ j x, H.get j = some x -> h.get j = some x) ?_ (fun hw ha r H1 ⟨h1, h2⟩ => ⟨h2, by rw [h1, AV.idLt, u8s_lt], h1, rfl⟩)
 refine Does.wf Tryz.call39 fun hw _ => ?_
 refine zad Tryz.call39 Tryz.func39 rfl (by simp [Tryz.f39]) ?_
 have hmn := zaa hw hm.1
 have hqn := zaa hw hm.2.1
 have q1 : m ≠ H.next := by omega
 have q2 : q ≠ H.next := by omega
 simp
 refine zab (state_does (q := q) (p := p) (mv := mv) (t := t) (op := op) ⟨by simp [q1, hm.1], by simp [q2, hm.2.1], hm.2.2⟩) ?_
 rintro r h ⟨rfl, rfl⟩
 simp
 refine zab (shaOf_does (.bV (stateB mv t)) (by have := stateB_le (t := t) hm.2.2.2.1 hm.2.2.2.2.2.2 (by have := hm.2.2.2.2.2.1; omega); omega) _) ?_
 rintro r h ⟨rfl, rfl⟩
 have ml : M.length = 32 := by rw [hM]; exact shaOf_len _
 rw [<- hM]
 have ul := u8s_len M
 rw [ml] at ul
 have tkM : List.take 32 (u8s M) = u8s M := by rw [<- ul, List.take_length]
 have scM : (∀ x, x ∈ u8s M -> x.scalar = true) = True := eq_true fun x hx => by simp only [u8s, List.mem_map] at hx; obtain ⟨y, _, rfl⟩ := hx; rfl
 simp [ul, tkM, scM]
 intro j x hj
 have := zaa hw hj
 have p1 : j ≠ H.next := by omega
 simp [p1, hj]
def fitI : List Int -> List Int -> Bool
 | [], [] => true
 | k :: ks, x :: l => (decide (k ≠ 1) || decide (x = 0) || decide (x = 1)) && fitI ks l
 | _, _ => false
theorem fitI_len : ∀ {ks l : List Int}, fitI ks l = true -> ks.length = l.length
 | [], [], _ => rfl
 | k :: ks, x :: l, h => by
   simp only [fitI, Bool.and_eq_true] at h
   simp [fitI_len h.2]
 | [], _ :: _, h => by simp [fitI] at h
 | _ :: _, [], h => by simp [fitI] at h
theorem ticks_does {H : AHeap} {m q : Nat} {p : List AV} {mv : List Int} {t : Nat} {op : Bool} (hm : MacAt H m q p mv t op) : Does Tryz.prog G 37 [.ptr m 0] H fun r h => r = .int .i64 t /\ h = H := by
 obtain ⟨h1, h2, h3, h4, h5, h6, h7⟩ := hm
 obtain ⟨a, b, c, d, e, f, rfl⟩ := list6 h3
 simp only [List.cons_append, List.nil_append] at h1
 refine zad Tryz.call37 Tryz.func37 rfl (by simp [Tryz.f37]) ?_
 simp [h1]
theorem fit_does {ks l : List Int} {v : AV} {ts : List AV} (hv : v = .nilsl /\ l = [] \/ v = .vsl (ints l ++ ts) l.length) (hk : ks.length <= 1000000) (hl : l.length <= 1000000) (H : AHeap) :
  Does Tryz.prog G 71 [.vsl (ints ks) ks.length, v] H fun r h => r = .bool (fitI ks l) /\ h = H := by
 have hal : alen Tryz.prog 33 v = some (.int .i64 l.length) := by rcases hv with ⟨rfl, rfl⟩ | rfl <;> simp [alen]
 have hkl : alen Tryz.prog 32 (.vsl (ints ks) ks.length) = some (.int .i64 ks.length) := by simp [alen]
 refine zad Tryz.call71 Tryz.func71 rfl (by simp [Tryz.f71]) ?_
 by_cases hne : ks.length = l.length
 case neg =>
  have hf : fitI ks l = false := by
   cases h : fitI ks l with
   | false => rfl
   | true => exact absurd (fitI_len h) hne
  have c1 : ((ks.length : Int) != l.length) = true := by rw [bne_iff_ne]; omega
  simp [hal, hkl, c1, hf, -alen]
 have c1 : ((ks.length : Int) != l.length) = false := by simp [hne]
 simp [hal, hkl, c1, -alen]
 obtain ⟨F, hF⟩ : ∃ F, F = fitI ks l := ⟨_, rfl⟩
 rw [<- hF]
 refine zam (fun m T' H' => ∃ j, j + m = ks.length /\ H' = H /\ F = fitI (ks.drop j) (l.drop j) /\ T' 1 = v /\ T' 12 = .vsl (ints ks) ks.length /\ T' 13 = .int .i64 ks.length /\ T' 14 = .int .i64 j) ks.length ?_ ?_
 · refine ⟨0, by simp, rfl, by simpa using hF, ?_, ?_, ?_, ?_⟩ <;> simp
 rintro m T H1 ⟨j, hjm, rfl, hFj, t1, t12, t13, t14⟩ hw1 _
 by_cases hj : j < ks.length
 · have hjj : (j : Int) < ks.length := by omega
   have hv' : v = .vsl (ints l ++ ts) l.length := by
    rcases hv with ⟨_, rfl⟩ | h
    · rw [List.length_nil] at hne; omega
    · exact h
   have k1 : ks.drop j = ks[j] :: ks.drop (j + 1) := List.drop_eq_getElem_cons hj
   have k2 : l.drop j = l[j] :: l.drop (j + 1) := List.drop_eq_getElem_cons (by omega)
   have g1 : (ints ks)[j]? = some (.int .i64 ks[j]) := by simp [ints, hj]
   have g2 : (ints l ++ ts)[j]? = some (.int .i64 l[j]) := by rw [List.getElem?_append_left (by rw [za6]; omega)]; simp [ints, show j < l.length by omega]
   rw [k1, k2] at hFj
   have c2 := za6 ks
   generalize ks[j] = k at *
   generalize l[j] = x at *
   have hjl : j < l.length := by omega
   have hjl' : (j : Int) < l.length := by omega
   have wr : IntKind.i64.wrap ((j : Int) + 1) = ((j + 1 : Nat) : Int) := by rw [IntWalk.i64_in _ (by omega)]; omega
   have c3 : (ints l ++ ts).length = l.length + ts.length := by simp [za6]
   generalize hC : ints l ++ ts = C at *
   generalize hD : ints ks = D at *
   rw [hv'] at t1
   simp [t1, t12, t13, t14, hj, hjj, g1]
   by_cases hk1 : k = 1
   · by_cases x0 : x = 0
     · have e0 : (x != 0) = false := by simp [x0]
       simp [hk1, x0, e0, t1, t12, t13, t14, hjl, hjl', g2]
       refine ⟨m - 1, by omega, j + 1, by omega, ?_, hv'.symm, wr⟩
       simpa [fitI, x0] using hFj
     · have e0 : (x != 0) = true := by simp [x0]
       by_cases x1 : x = 1
       · have e1 : (x != 1) = false := by simp [x1]
         simp [hk1, x0, x1, e0, e1, t1, t12, t13, t14, hjl, hjl', g2]
         refine ⟨m - 1, by omega, j + 1, by omega, ?_, hv'.symm, wr⟩
         simpa [fitI, x1] using hFj
       · have e1 : (x != 1) = true := by simp [x1]
         simp [hk1, x0, x1, e0, e1, t1, t12, t13, t14, hjl, hjl', g2]
         simp [fitI, hk1, x0, x1] at hFj
         exact hFj
   · simp [hk1, t1, t12, t13, t14]
     refine ⟨m - 1, by omega, j + 1, by omega, ?_, hv'.symm, wr⟩
     simpa [fitI, hk1] using hFj
 · obtain rfl : j = ks.length := by omega
   rw [List.drop_length, hne, List.drop_length] at hFj
   simp only [fitI] at hFj
   simp [t13, t14, hFj]
theorem fits_does {H : AHeap} {r pI cap : Nat} {op : Bool} {a0 a1 a2 a3 : AV} {e : List AV} (hr : H.get r = some (.cells (a0 :: a1 :: a2 :: a3 :: .sl pI 0 1 1 cap op :: e))) (hp : H.get pI = some (.cells [.int .i64 2])) {l : List Int} {v : AV} {ts : List AV} (hv : v = .nilsl /\ l = [] \/ v = .vsl (ints l ++ ts) l.length) (hl : l.length <= 1000000) :
  Does Tryz.prog G 45 [.ptr r 0, v] H fun x h => x = .bool (decide (l.length = 1)) /\ h = H := by
 have hal : alen Tryz.prog 45 v = some (.int .i64 l.length) := by rcases hv with ⟨rfl, rfl⟩ | rfl <;> simp [alen]
 have hil : alen Tryz.prog 32 (.sl pI 0 1 1 cap op) = some (.int .i64 1) := by simp [alen]
 refine zad Tryz.call45 Tryz.func45 rfl (by simp [Tryz.f45]) ?_
 by_cases h1 : l.length = 1
 case neg =>
  have c1 : ((l.length : Int) != 1) = true := by rw [bne_iff_ne]; omega
  simp [hr, hal, hil, c1, h1, -alen]
 have c1 : ((l.length : Int) != 1) = false := by simp [h1]
 simp [hr, hal, hil, c1, -alen]
 refine zam (fun m T' H' => H' = H /\ T' 18 = .sl pI 0 1 1 cap op /\ T' 19 = .int .i64 1 /\ (m = 1 /\ T' 20 = .int .i64 0 \/ m = 0 /\ T' 20 = .int .i64 1)) 1 ?_ ?_
 · refine ⟨rfl, ?_, ?_, .inl ⟨rfl, ?_⟩⟩ <;> simp
 rintro m T H1 ⟨rfl, t18, t19, ht⟩ hw1 _
 have wr : IntKind.i64.wrap (0 + 1) = 1 := rfl
 rcases ht with ⟨rfl, t20⟩ | ⟨rfl, t20⟩
 · simp [t18, t19, t20, hp]
   decide
 · simp [t18, t19, t20, h1]
theorem rpOff_does {H : AHeap} {r k : Nat} {d : Dk} (hk : DkAt H k d) {c0 c2 c3 c4 c5 c6 c7 c8 c9 c10 c11 : AV} {lives : Int} {dn : Bool} (hr : H.get r = some (.cells [c0, .ptr k 0, c2, c3, c4, c5, c6, c7, c8, c9, c10, c11, .int .i64 lives, .bool dn])) :
  Does Tryz.prog G 42 [.ptr r 0] H fun x h => x = .bool (dn || d.off || (d.lives != lives)) /\ h = H.set r (.cells [c0, .ptr k 0, c2, c3, c4, c5, c6, c7, c8, c9, c10, c11, .int .i64 lives, .bool (dn || d.off || (d.lives != lives))]) := by
 refine zad Tryz.call42 Tryz.func42 rfl (by simp [Tryz.f42]) ?_
 have hpw := fun H' (h : DkAt H' k d) => power_does (G := G) h
 have hlv := fun H' (h : DkAt H' k d) => lives_does (G := G) h
 cases dn with
 | true =>
   simp
   refine zaj [(4, 0)] zah (by kernel_rfl) ?_
   intro es hes
   simp [hr]
   refine ⟨by subst hes; exact ⟨by kernel_rfl, by kernel_rfl⟩, ?_⟩
   simp [rds, heapF, hr]
 | false =>
   cases ho : d.off with
   | true =>
     simp
     refine zaj [(4, 0), (9, 0)] zah (by kernel_rfl) ?_
     intro es hes
     simp [hr]
     refine ⟨_, _, (hpw H hk), Nat.le_refl _, ?_⟩
     simp [hr, ho]
     refine ⟨by subst hes; exact ⟨by kernel_rfl, by kernel_rfl⟩, ?_⟩
     simp [rds, heapF, hr]
   | false =>
     simp
     refine zaj [(4, 0), (9, 0), (17, 11), (22, 11), (22, 19)] zah (by kernel_rfl) ?_
     intro es hes
     simp [hr]
     refine ⟨_, _, (hpw H hk), Nat.le_refl _, ?_⟩
     simp [hr, ho]
     refine ⟨_, _, (hlv H hk), Nat.le_refl _, ?_⟩
     simp [hr, ho]
     refine ⟨by subst hes; exact ⟨by kernel_rfl, by kernel_rfl⟩, ?_⟩
     simp [rds, heapF, hr]
theorem rpTell_does {H : AHeap} {r : Nat} {c0 c1 c2 c3 c4 c5 c6 c7 c8 c9 c10 c11 c12 : AV} {dn : Bool} (hr : H.get r = some (.cells [c0, c1, c2, c3, c4, c5, c6, c7, c8, c9, c10, c11, c12, .bool dn])) (e : Int) :
  Does Tryz.prog G 48 [.ptr r 0, .int .i64 e] H fun x h => x = .int .i64 e /\ h = H.set r (.cells [c0, c1, c2, c3, c4, c5, c6, c7, c8, c9, c10, c11, c12, .bool (dn || decide (e ≠ 0))]) := by
 refine zad Tryz.call48 Tryz.func48 rfl (by simp [Tryz.f48]) ?_
 by_cases he : e = 0
 · have c1 : (e != 0) = false := by simp [he]
   cases dn <;> simp [hr, he, c1]
 · have c1 : (e != 0) = true := by simp [he]
   cases dn <;> simp [hr, he, c1]
structure PgOk (G : Nat -> Option AV) (p : List AV) : Prop where
 len : p.length = 6
 sc : ∀ x ∈ p, x.scalar = true
 cells : ∀ x ∈ p, x.cells = [x]
 check : ∀ H, Does Tryz.prog G 54 [.agg p] H fun r h => r = .tuple [.agg [.int .i64 0, .int .i64 0], .bool true] /\ h = H
 copy : ∀ H, Does Tryz.prog G 55 [.agg p] H fun r h => r = .agg p /\ h = H
 ins : p[0]? = some (.vsl [.int .i64 2] 1)
 mems : p[3]? = some (.vsl [.int .i64 2, .int .i64 1, .int .i64 2, .int .i64 1] 4)
theorem reset_does {H : AHeap} {m : Nat} {a b c e f x y : AV} {K : List AV} (hm : H.get m = some (.cells [a, b, c, .vsl K 4, e, f, x, y])) (hmn : m < H.next) :
  Does Tryz.prog G 56 [.ptr m 0] H fun r h => r = .tuple [] /\ h = (H.push (.cells [.int .i64 0, .int .i64 0, .int .i64 0, .int .i64 0])).set m (.cells [a, b, c, .vsl K 4, e, f, .sl H.next 0 1 4 4 false, .int .i64 0]) := by
 have q1 : m ≠ H.next := by omega
 refine zad Tryz.call56 Tryz.func56 rfl (by simp [Tryz.f56]) ?_
 simp [hm, q1]
 trace_state
theorem machNew_does {p : List AV} (hp : PgOk G p) (H : AHeap) :
  Does Tryz.prog G 30 [.agg p] H fun r h => ∃ m q, r = .tuple [.ptr m 0, .int .i64 0] /\ H.next <= m /\ H.next <= q /\ MacAt h m q p [0, 0, 0, 0] 0 false /\ ∀ j x, H.get j = some x -> h.get j = some x := by
 refine Does.wf Tryz.call30 fun hw _ => ?_
 obtain ⟨h1, h2, h3, h4, h5, h6, h7⟩ := hp
 obtain ⟨a, b, c, d, e, f, rfl⟩ := list6 h1
 simp only [List.getElem?_cons_succ, List.getElem?_cons_zero, Option.some.injEq] at h6 h7
 subst h6 h7
 simp only [List.mem_cons, List.not_mem_nil, or_false, forall_eq_or_imp, forall_eq] at h2 h3
 obtain ⟨-, s2, s3, -, s5, s6⟩ := h2
 obtain ⟨-, c2, c3, -, c5, c6⟩ := h3
 refine zad Tryz.call30 Tryz.func30 rfl (by simp [Tryz.f30]) ?_
 simp [s2, s3, s5, s6, c2, c3, c5, c6]
 refine zab (h4 _) ?_
 rintro r h ⟨rfl, rfl⟩
 simp [s2, s3, s5, s6, c2, c3, c5, c6]
 refine zab (h5 _) ?_
 rintro r h ⟨rfl, rfl⟩
 simp [s2, s3, s5, s6, c2, c3, c5, c6]
 refine zac (reset_does (if_pos rfl) (by simp)) ?_
 rintro r h ⟨rfl, rfl⟩ hw2 _
 simp
 refine ⟨by omega, H.next + 1 + 1 + 1, by omega, ⟨by simp, ?_, rfl, rfl, by omega, by decide, fun v hv => by simp at hv; subst hv; unfold i64; omega⟩, fun j x hj => ?_⟩
 · have : H.next + 1 + 1 + 1 ≠ H.next + 1 + 1 := by omega
   simp [this, ints]
 · have := zaa hw hj
   have p1 : j ≠ H.next := by omega
   have p2 : j ≠ H.next + 1 := by omega
   have p3 : j ≠ H.next + 1 + 1 := by omega
   have p4 : j ≠ H.next + 1 + 1 + 1 := by omega
   simp [p1, p2, p3, p4, hj]
structure RpAt (H : AHeap) (O : Nat -> Prop) (r ci k pI : Nat) (c : Co) (d : Dk) : Prop where
 cells : ∃ c2 c3 cap op c5 bytes c7 c9 c10 c11, H.get r = some (.cells [.ptr ci 0, .ptr k 0, c2, c3, .sl pI 0 1 1 cap op, c5, .int .i64 bytes, c7, .int .i64 c.agreed, c9, c10, c11, .int .i64 d.lives, .bool false]) /\ bytes <= 100000
 ins : H.get pI = some (.cells [.int .i64 2])
 core : CoAt H O ci c
 disk : DkAt H k d
 ro : ¬ O r
 ko : ¬ O k
 po : ¬ O pI
 rk : r ≠ k
 rp : r ≠ pI
 kp : k ≠ pI
 on : d.off = false
 agreed : c.agreed <= c.list.length
 list : c.list.length <= 200
 rows : ∀ e ∈ c.list, e.l.length <= 1000000
theorem take_text (b : Bs) : (Rp.take b).2.1.length <= (Rp.take b).2.2 /\ (Rp.take b).2.1.length <= b.length := by
 unfold Rp.take
 split
 · simp
 · rename_i h
   simp only
   split
   · simp
   · split
     · simp
     · simp only [List.length_take, List.length_drop]; omega
theorem all_lens : ∀ (k next : Nat) (b : Bs), lens (all k next b).1 <= (all k next b).2 /\ (all k next b).1.length <= (all k next b).2
 | 0, _, _ => by simp [all, lens]
 | k + 1, next, b => by
   have h1 := take_text b
   have h0 := take_size b
   have h2 := all_lens k (next + 1) (b.drop (Rp.take b).2.2)
   unfold all
   simp only
   split
   · simp [lens]
   · rename_i hz
     have hz' : (Rp.take b).2.2 ≠ 0 := fun e => hz (.inl e)
     have h17 := h0.2 hz'
     split
     · simp only [lens, List.map_cons, List.map_nil, List.sum_cons, List.sum_nil, List.length_cons, List.length_nil]; omega
     · simp only [lens, List.map_cons, List.sum_cons, List.length_cons] at h2 ⊢
       omega
theorem all_log (b : Bs) : lens (all (b.length + 1) 0 b).1 <= b.length /\ (all (b.length + 1) 0 b).1.length <= b.length := by
 have h1 := all_lens (b.length + 1) 0 b
 have h2 := all_size (b.length + 1) 0 b
 omega
theorem mem_lens {l : List Bs} {b : Bs} (h : b ∈ l) : b.length <= lens l := by
 induction l with
 | nil => simp at h
 | cons a l ih =>
   simp only [lens, List.map_cons, List.sum_cons]
   rcases List.mem_cons.1 h with rfl | h
   · omega
   · have := ih h
     simp only [lens] at this
     omega
theorem packRead_at {bv : AV} {bs : Bs} (hb : BtA bv bs) (hl : bs.length <= 1000000000) (H : AHeap) :
  ∃ k nx, Does Tryz.prog G 61 [bv] H fun r h => ∃ i cap op, r = .ptr k 0 /\ h.next = nx /\ H.next <= k /\ H.next <= i /\ k ≠ i /\ h.get i = some (.cells (strCs bs)) /\ h.get k = some (.cells [.sl i 0 1 bs.length cap op, .bool false]) /\ ∀ j x, H.get j = some x -> h.get j = some x := by
 have hal : (strCs bs).all AV.scalar = true := by simp [strCs]
 have c1 : bs.length <= 140737488355328 := by omega
 have c2 : bs.length <= 4611686018427387904 := by omega
 refine ⟨if bs.length = 0 then H.next + 1 else H.next + 1 + 1, if bs.length = 0 then H.next + 1 + 1 else H.next + 1 + 1 + 1, ?_⟩
 refine Does.wf Tryz.call61 fun hw _ => ?_
 refine zad Tryz.call61 Tryz.func61 rfl (by simp [Tryz.f61]) ?_
 rcases hb with ⟨rfl, rfl⟩ | ⟨ts, rfl⟩
 · simp
   refine ⟨H.next, by omega, by omega, by simp [strCs], rfl, fun j x hj => ?_⟩
   have l := zaa hw hj
   have e0 : ¬ j = H.next := by omega
   have e1 : ¬ j = H.next + 1 := by omega
   simp [e0, e1, hj]
 · by_cases h0 : bs.length = 0
   · have hb0 : bs = [] := List.length_eq_zero_iff.1 h0
     subst hb0
     simp [strCs]
     refine ⟨H.next, by omega, by omega, by simp, rfl, fun j x hj => ?_⟩
     have l := zaa hw hj
     have e0 : ¬ j = H.next := by omega
     have e1 : ¬ j = H.next + 1 := by omega
     simp [e0, e1, hj]
   · have tk : List.take bs.length (strCs bs ++ ts) = strCs bs := List.take_left' (zae bs)
     simp [h0, c1, c2, hal, tk, zae, za4]
     refine ⟨by omega, H.next + 1, by omega, by omega, by simp, rfl, fun j x hj => ?_⟩
     have l := zaa hw hj
     have e0 : ¬ j = H.next := by omega
     have e1 : ¬ j = H.next + 1 := by omega
     have e2 : ¬ j = H.next + 1 + 1 := by omega
     simp [e0, e1, e2, hj]
theorem packRead_x {bv : AV} {bs : Bs} (hb : BtA bv bs) (hl : bs.length <= 1000000000) (H : AHeap) :
  ∃ k nx, H.next <= k /\ k < nx /\ Does Tryz.prog G 61 [bv] H fun r h => r = .ptr k 0 /\ h.next = nx /\ RdAt h k ⟨bs, false⟩ /\ ∀ j x, H.get j = some x -> h.get j = some x := by
 obtain ⟨k, nx, hd⟩ := packRead_at (G := G) hb hl H
 by_cases hkn : H.next <= k /\ k < nx
 · refine ⟨k, nx, hkn.1, hkn.2, Does.frz1 hd ?_⟩
   rintro hw _ r H1 ⟨i, cap, op, rfl, hn, hk, hi, hki, hgi, hgk, hs⟩
   refine ⟨i, strCs bs, hi, hgi, frz_ptr hki _, by simpa [AHeap.frz] using hn, ⟨bV bs, .bV bs, ?_⟩, AHeap.frz_old hw hi hs⟩
   rw [zaH hgk hki]
   have e : (strCs bs).take bs.length = strCs bs := by rw [<- zae, List.take_length]
   simp [AV.frzs, AV.frz, e, bV]
 · refine ⟨H.next, H.next + 1, Nat.le_refl _, Nat.lt_succ_self _, ⟨fun E w vs hR hG hv => ?_⟩⟩
   refine (hd.run E w vs hR hG hv).mono ?_
   rintro v w' ⟨r, h, E', ⟨i, cap, op, rfl, hn, hk, hi, hki, hgi, hgk, hs⟩, g2, g3, g4⟩
   exact absurd ⟨hk, by rw [<- hn]; exact zaa g4.wf hgk⟩ hkn
def loadI (b : Bs) : Option (List Int × Nat) :=
 let r1 := (Rd.mk b false).U
 let r2 := r1.2.U
 if r2.2.bad = true \/ 4611686018427387904 < r1.1 \/ r2.1 ≠ 4 then none
 else
  let x := rdIs 4 r2.2
  if x.2.bad = true \/ 0 < x.2.b.length \/ fitI [2, 1, 2, 1] x.1 = false then none else some (x.1, r1.1)
theorem unzig_i64 {u : Nat} (h : u < 2 ^ 64) : i64 (unzig u) := by
 unfold unzig i64
 split <;> omega
theorem rdIs_i64 : ∀ (k : Nat) (r : Rd), ∀ v ∈ (rdIs k r).1, i64 v
 | 0, _, v, h => by simp [rdIs] at h
 | k + 1, r, v, h => by
   simp only [rdIs, List.mem_cons] at h
   rcases h with rfl | h
   · exact unzig_i64 (rdU_lt r).1
   · exact rdIs_i64 k _ v h
theorem rdIs_len : ∀ (k : Nat) (r : Rd), (rdIs k r).1.length = k
 | 0, _ => rfl
 | k + 1, r => by simp [rdIs, rdIs_len k]
theorem loadI_ok {b : Bs} {mv : List Int} {t : Nat} (h : loadI b = some (mv, t)) : mv.length = 4 /\ t <= 4611686018427387904 /\ (∀ v ∈ mv, i64 v) /\ fitI [2, 1, 2, 1] mv = true := by
 unfold loadI at h
 simp only at h
 split at h
 · cases h
 · rename_i h1
   split at h
   · cases h
   · rename_i h2
     simp only [Option.some.injEq, Prod.mk.injEq] at h
     obtain ⟨rfl, rfl⟩ := h
     refine ⟨rdIs_len _ _, by omega, rdIs_i64 _ _, ?_⟩
     simp only [not_or, Bool.not_eq_false] at h2
     exact h2.2.2
theorem fit_live {H : AHeap} {q : Nat} {mv ks : List Int} {op : Bool} (hq : H.get q = some (.cells (ints mv))) (hm : mv.length = 4) (hk : ks.length <= 1000000) :
  Does Tryz.prog G 71 [.vsl (ints ks) ks.length, .sl q 0 1 4 4 op] H fun r h => r = .bool (fitI ks mv) /\ h = H := by
 have hres : AV.res H.get 2 (.sl q 0 1 4 4 op) = some (.vsl (ints mv) 4) := by
  have tk : List.take (4 * 1) (ints mv) = ints mv := by
   have := za6 mv
   rw [hm] at this
   rw [show 4 * 1 = (ints mv).length by omega, List.take_length]
  rw [res_sl _ _ _ _ _ _ _ _ hq, List.drop_zero, tk, res_ints]
  rfl
 refine (Does.borrow (.keep _ (.res hres .nil)) (fit_does (ts := []) (.inr (by rw [List.append_nil, hm])) hk (by omega) _) (fun r H1 h => by rw [h.1]; rfl)).mono ?_
 rintro r h ⟨⟨H1, h3, _⟩, h4⟩
 exact ⟨h3, h4⟩
def kindsV : AV := .vsl [.int .i64 2, .int .i64 1, .int .i64 2, .int .i64 1] 4
theorem load_run {H : AHeap} (hw : H.Wf) {m q : Nat} {p : List AV} {mv : List Int} {t : Nat} {op : Bool} (hm : MacAt H m q p mv t op) (hp3 : p[3]? = some kindsV) {bv : AV} {b : Bs} (hb : BtA bv b) (hl : b.length <= 1000000) :
  ∃ q' nx, H.next <= q' /\ q' < nx /\ Does Tryz.prog G 36 [.ptr m 0, bv] H fun r h => match loadI b with
    | none => r = .int .i64 3 /\ ∀ j y, H.get j = some y -> h.get j = some y
    | some (mv', t') => r = .int .i64 0 /\ h.next <= nx /\ h.get m = some (.cells (p ++ [.sl q' 0 1 4 4 true, .int .i64 t'])) /\ h.get q' = some (.cells (ints mv')) /\ ∀ j y, j ≠ m -> H.get j = some y -> h.get j = some y := by
 obtain ⟨h1, h2, h3, h4, h5, h6, h7⟩ := hm
 obtain ⟨p0, p1, p2, p3, p4, p5, rfl⟩ := list6 h3
 simp only [List.getElem?_cons_succ, List.getElem?_cons_zero, Option.some.injEq] at hp3
 subst hp3
 simp only [List.cons_append, List.nil_append, kindsV] at h1
 obtain ⟨k, nx, hkn, hkx, hrd⟩ := packRead_x (G := G) hb (by omega) H
 refine ⟨nx + 7, nx + 8, by omega, by omega, ?_⟩
 have hmn := zaa hw h1
 refine zad Tryz.call36 Tryz.func36 rfl (by simp [Tryz.f36]) ?_
 obtain ⟨O, hO⟩ : ∃ O, O = loadI b := ⟨_, rfl⟩
 rw [<- hO]
 unfold loadI at hO
 obtain ⟨u1, R1, e1⟩ : ∃ u R, (Rd.mk b false).U = (u, R) := ⟨_, _, rfl⟩
 obtain ⟨u2, R2, e2⟩ : ∃ u R, R1.U = (u, R) := ⟨_, _, rfl⟩
 have f1 := rdU_b e1 (by simpa using hl)
 have f2 := rdU_b e2 f1.2
 simp only [e1, e2] at hO
 simp
 refine zac hrd ?_
 rintro r H1 ⟨rfl, hn1, hr, hs1⟩ hw1 _
 simp
 refine zac (rdU_e e1 hr (by simpa using hl)) ?_
 rintro r H2 ⟨rfl, ht⟩ hw2 _
 have hr := ht.at
 have hn2 : H2.next = nx := by rw [ht.next, hn1]
 have hs2 : ∀ j x, H.get j = some x -> H2.get j = some x := fun j x hj => by
  have := zaa hw hj
  rw [ht.off (by omega)]; exact hs1 j x hj
 simp
 refine zac (rdU_e e2 hr f1.2) ?_
 rintro r H3 ⟨rfl, ht⟩ hw3 _
 have hr := ht.at
 have hn3 : H3.next = nx := by rw [ht.next, hn2]
 have hs3 : ∀ j x, H.get j = some x -> H3.get j = some x := fun j x hj => by
  have := zaa hw hj
  rw [ht.off (by omega)]; exact hs2 j x hj
 simp
 refine zab (zaF hr) ?_
 rintro r h ⟨rfl, rfl⟩
 have gm := hs3 _ _ h1
 have w4 : IntKind.u64.wrap (4 : Int) = 4 := rfl
 obtain ⟨b2, d2⟩ := R2
 cases d2 with
 | true =>
   simp at hO
   simp [hO]
   exact hs3
 | false =>
   by_cases ht2 : 4611686018427387904 < u1
   · have ht2' : (4611686018427387904 : Int) < u1 := by omega
     simp [ht2] at hO
     simp [hO, ht2, ht2']
     exact hs3
   have ht2' : ¬ (4611686018427387904 : Int) < u1 := by omega
   by_cases hu2 : u2 = 4
   case neg =>
    have c1 : ((u2 : Int) != 4) = true := by rw [bne_iff_ne]; omega
    simp [ht2, hu2] at hO
    simp [hO, ht2, ht2', gm, c1, w4]
    exact hs3
   subst hu2
   simp [ht2] at hO
   simp [ht2, ht2', gm, w4]
   obtain ⟨X, hX⟩ : ∃ X, X = rdIs 4 ⟨b2, false⟩ := ⟨_, rfl⟩
   rw [<- hX] at hO
   refine zam (fun n T' H' => ∃ i done b' d', i + n = 4 /\ done.length = i /\ X = (done ++ (rdIs n ⟨b', d'⟩).1, (rdIs n ⟨b', d'⟩).2) /\ b'.length <= 1000000 /\ RdAt H' k ⟨b', d'⟩ /\ H'.next = nx + 2 * i /\ (∀ j x, H.get j = some x -> H'.get j = some x) /\ (0 < i -> H'.get (nx + (2 * i - 1)) = some (.cells (ints done))) /\
    T' 0 = .ptr m 0 /\ T' 5 = .ptr k 0 /\ T' 6 = .int .u64 u1 /\ T' 8 = (if i = 0 then .nilsl else .sl (nx + (2 * i - 1)) 0 1 i i true) /\ T' 32 = .int .u64 4 /\ T' 33 = .int .u64 i) 4 ?_ ?_
   · refine ⟨0, [], b2, false, rfl, rfl, by simpa using hX, f2.2, hr, by simpa using hn3, hs3, fun h => by omega, ?_, ?_, ?_, ?_, ?_, ?_⟩ <;> simp
   clear hr hn3 hs3 hw3 gm hX
   rintro n T H1 ⟨i, done, b', d', hin, hdl, hX, hbl, hr, hnx, hs, hg, t0, t5, t6, t8, t32, t33⟩ hw1 _
   cases n with
   | zero =>
     obtain rfl : i = 4 := by omega
     have hg := hg (by omega)
     have l1 := za6 done
     rw [hdl] at l1
     simp only [rdIs, List.append_nil] at hX
     rw [hX] at hO
     simp only at hO
     simp at t8
     simp [t0, t5, t6, t32, t33]
     refine zab (zaF hr) ?_
     rintro r h ⟨rfl, rfl⟩
     cases d' with
     | true =>
       simp at hO
       simp [hO]
       exact hs
     | false =>
       simp [t5]
       refine zab (zaC hr) ?_
       rintro r h ⟨rfl, rfl⟩
       by_cases h0 : b' = []
       case neg =>
        have c2 := List.length_pos_iff.2 h0
        have c1 : (0 : Int) < b'.length := by omega
        simp [h0] at hO
        simp [c1, c2, h0, hO]
        exact hs
       subst h0
       have gm := hs _ _ h1
       simp [t0, t8, gm]
       refine zab (fit_live (ks := [2, 1, 2, 1]) hg hdl (by simp)) ?_
       rintro r h ⟨rfl, rfl⟩
       cases hf : fitI [2, 1, 2, 1] done with
       | false =>
         simp [hf] at hO
         simp [hO]
         exact hs
       | true =>
         simp [hf] at hO
         simp [hO, t0, t6, t8, gm]
         have wu : IntKind.i64.wrap (u1 : Int) = u1 := IntWalk.i64_in _ (by omega)
         have q7 : nx + 7 ≠ m := by omega
         refine ⟨by omega, ⟨rfl, wu⟩, ?_, fun j y hj hy => ?_⟩
         · rw [if_neg q7]; exact hg
         · rw [if_neg hj]; exact hs j y hy
   | succ n =>
     have hi4 : i < 4 := by omega
     have hi4' : (i : Int) < 4 := by omega
     simp [t0, t5, t6, t32, t33, hi4, hi4']
     refine zac (rdI_does hr (by simp only; omega)) ?_
     rintro r h ⟨rfl, ht⟩ hw2 _
     have hr := ht.at
     have hnx2 : h.next = nx + 2 * i := by rw [ht.next, hnx]
     have hs2 : ∀ j x, H.get j = some x -> h.get j = some x := fun j x hj => by
      have := zaa hw hj
      rw [ht.off (by omega)]; exact hs j x hj
     have hg2 : 0 < i -> h.get (nx + (2 * i - 1)) = some (.cells (ints done)) := fun h0 => by rw [ht.off (by omega)]; exact hg h0
     have hX2 : X = ((done ++ [(Rd.I ⟨b', d'⟩).1]) ++ (rdIs n (Rd.I ⟨b', d'⟩).2).1, (rdIs n (Rd.I ⟨b', d'⟩).2).2) := by rw [hX]; simp [rdIs]
     have hbl2 : (Rd.I ⟨b', d'⟩).2.b.length <= 1000000 := by
      have := (rdU_lt ⟨b', d'⟩).2
      simp only [Rd.I] at this ⊢
      omega
     generalize (Rd.I ⟨b', d'⟩).1 = v at *
     generalize (Rd.I ⟨b', d'⟩).2 = R at *
     obtain ⟨b3, d3⟩ := R
     have kn2 : k < h.next := by obtain ⟨_, _, hc⟩ := hr; exact zaa hw2 hc
     have wr : IntKind.u64.wrap ((i : Int) + 1) = ((i + 1 : Nat) : Int) := by rw [IntWalk.u64_in _ (by omega)]; omega
     by_cases h0 : i = 0
     · subst h0
       obtain rfl := List.length_eq_zero_iff.1 hdl
       simp at t8
       simp [t0, t5, t6, t8, t32, t33, -Bool.exists_bool]
       have k1 : k ≠ h.next := by omega
       have k2 : k ≠ h.next + 1 := by omega
       refine ⟨n, by omega, 1, by omega, [v], rfl, b3, d3, by simpa using hX2, hbl2, ?_, by omega, fun j x hj => ?_, fun _ => ?_, ?_, by simpa using wr⟩
       · obtain ⟨w, a1, a2⟩ := hr
         exact ⟨w, a1, by simp [k1, k2, a2]⟩
       · have := zaa hw hj
         have p1 : j ≠ h.next := by omega
         have p2 : j ≠ h.next + 1 := by omega
         simp [p1, p2, hs2 j x hj]
       · have e : nx = h.next := by rw [hnx2]; rfl
         simp [e, ints]
       · rw [if_neg (by omega)]
         congr 1
         omega
     · rw [if_neg h0] at t8
       have hg2 := hg2 (by omega)
       have l1 := za6 done
       rw [hdl] at l1
       have q1 : nx + (2 * i - 1) ≠ h.next := by omega
       have c1 : ¬ i + 1 <= i := by omega
       have tk : List.take i (ints done) = ints done := by rw [<- l1, List.take_length]
       have c2 : (i + 1) * 8 <= 140737488355328 := by omega
       have c3 : i <= 4611686018427387903 := by omega
       simp [t0, t5, t6, t8, t32, t33, hg2, q1, c1, c2, c3, l1, tk, -Bool.exists_bool]
       have k1 : k ≠ h.next := by omega
       have k2 : k ≠ h.next + 1 := by omega
       have k3 : k ≠ nx + (2 * i - 1) := by omega
       refine ⟨n, by omega, i + 1, by omega, done ++ [v], by simp [hdl], b3, d3, hX2, hbl2, ?_, by omega, fun j x hj => ?_, fun _ => ?_, ?_, wr⟩
       · obtain ⟨w, a1, a2⟩ := hr
         exact ⟨w, a1, by simp [k1, k2, k3, a2]⟩
       · have := zaa hw hj
         have p1 : j ≠ h.next := by omega
         have p2 : j ≠ h.next + 1 := by omega
         have p3 : j ≠ nx + (2 * i - 1) := by omega
         simp [p1, p2, p3, hs2 j x hj]
       · rw [if_pos (by omega)]; simp [ints]
       · rw [if_neg (by omega)]
         congr 1
         omega
theorem load_does {H : AHeap} (hw : H.Wf) {m q : Nat} {p : List AV} {mv : List Int} {t : Nat} {op : Bool} (hm : MacAt H m q p mv t op) (hp3 : p[3]? = some kindsV) {bv : AV} {b : Bs} (hb : BtA bv b) (hl : b.length <= 1000000) :
  match loadI b with
  | none => Does Tryz.prog G 36 [.ptr m 0, bv] H fun r h => r = .int .i64 3 /\ h = H
  | some (mv', t') => ∃ q' h', Does Tryz.prog G 36 [.ptr m 0, bv] H (fun r h => r = .int .i64 0 /\ h = h') /\ MacAt h' m q' p mv' t' true /\ H.next <= q' /\ H.next <= h'.next /\ ∀ j y, j ≠ m -> H.get j = some y -> h'.get j = some y := by
 obtain ⟨q', nx, h1, h2, h3⟩ := load_run (G := G) hw hm hp3 hb hl
 cases hL : loadI b with
 | none =>
   rw [hL] at h3
   exact Does.forgot h3 (fun hw ha r H1 ⟨g1, g2⟩ => ⟨g2, by rw [g1]; rfl, g1, rfl⟩)
 | some x =>
   obtain ⟨mv', t'⟩ := x
   rw [hL] at h3
   obtain ⟨k1, k2, k3, k4⟩ := loadI_ok hL
   have hmn := zaa hw hm.1
   have qm : q' ≠ m := by omega
   refine ⟨q', { next := nx, get := fun j => if j = m then some (.cells (p ++ [.sl q' 0 1 4 4 true, .int .i64 t'])) else if j = q' then some (.cells (ints mv')) else H.get j }, ?_, ⟨by simp, by simp [qm], hm.2.2.1, k1, qm.symm, k2, k3⟩, h1, by simp only; omega, fun j y hj hy => ?_⟩
   · refine h3.ghost ?_
     rintro r H1 ⟨rfl, g1, g2, g3, g4⟩
     refine ⟨_, _, Ghost.sub g1 ?_, rfl, rfl⟩
     intro j x hj
     simp only at hj
     split at hj
     · rename_i e
       rw [e, g2]; exact hj
     · split at hj
       · rename_i e
         rw [e, g3]; exact hj
       · exact g4 j x (by assumption) hj
   · have := zaa hw hy
     have e : j ≠ q' := by omega
     simp [hj, e, hy]
def pgL : List AV := [.vsl [.int .i64 2] 1,.vsl [.int .i64 2,.int .i64 2] 2,.vsl [.int .i64 2,.int .i64 2,.int .i64 2,.int .i64 2,.int .i64 2,.int .i64 1,.int .i64 2,.int .i64 2,.int .i64 2,.int .i64 2,.int .i64 2,.int .i64 1,.int .i64 2,.int .i64 2,.int .i64 1] 15,.vsl [.int .i64 2,.int .i64 1,.int .i64 2,.int .i64 1] 4,.vsl [.int .i64 0,.int .i64 1] 2,.vsl [.int .i64 2,.int .i64 4,.int .i64 0,.int .i64 0,.int .i64 2,.int .i64 5,.int .i64 1,.int .i64 0,.int .i64 2,.int .i64 10,.int .i64 2,.int .i64 0,.int .i64 2,.int .i64 11,.int .i64 3,.int .i64 0,.int .i64 4,.int .i64 0,.int .i64 0,.int .i64 0,.int .i64 0,.int .i64 3,.int .i64 0,.int .i64 0,.int .i64 19,.int .i64 9,.int .i64 5,.int .i64 0,.int .i64 1,.int .i64 6,.int .i64 4,.int .i64 0,.int .i64 20,.int .i64 10,.int .i64 0,.int .i64 0,.int .i64 1,.int .i64 6,.int .i64 3,.int .i64 0,.int .i64 8,.int .i64 7,.int .i64 0,.int .i64 6,.int .i64 1,.int .i64 1,.int .i64 7,.int .i64 0,.int .i64 0,.int .i64 8,.int .i64 1,.int .i64 0,.int .i64 0,.int .i64 9,.int .i64 0,.int .i64 0,.int .i64 19,.int .i64 17,.int .i64 11,.int .i64 0,.int .i64 1,.int .i64 12,.int .i64 10,.int .i64 0,.int .i64 20,.int .i64 18,.int .i64 0,.int .i64 0,.int .i64 1,.int .i64 12,.int .i64 9,.int .i64 0,.int .i64 8,.int .i64 13,.int .i64 8,.int .i64 12,.int .i64 1,.int .i64 2,.int .i64 13,.int .i64 0,.int .i64 3,.int .i64 0,.int .i64 1,.int .i64 0,.int .i64 3,.int .i64 2,.int .i64 2,.int .i64 0,.int .i64 0,.int .i64 14,.int .i64 1,.int .i64 0,.int .i64 3,.int .i64 1,.int .i64 14,.int .i64 0,.int .i64 3,.int .i64 3,.int .i64 14,.int .i64 0,.int .i64 5,.int .i64 0,.int .i64 1,.int .i64 0,.int .i64 5,.int .i64 1,.int .i64 2,.int .i64 0] 27]
noncomputable def addS (x a : Int) (b : Bool) : Int := fwrap .i64 (iadd x (bif b then a else 0))
def memI (a c : Int) (b1 b2 : Bool) : List Int := [a, bif b1 then 1 else 0, c, bif b2 then 1 else 0]
theorem mixedM : Tryz.prog.follows .mixedOrders = true := by kernel_rfl
theorem plainM : plainFn Tryz.prog = true := by kernel_rfl
theorem step_raw (op b1 b2 : Bool) (t a c x : Int) :
  Does Tryz.prog G 75 [.ptr 0 0, .vsl [.int .i64 x] 1] (AHeap.ofList [.cells (pgL ++ [.sl 1 0 1 4 4 op, .int .i64 t]), .cells (ints (memI a c b1 b2))]) fun r H =>
   r = .tuple [.vsl [.int .i64 (addS x a b1), .int .i64 (addS 1 c b2)] 2, .int .i64 0] /\ H = AHeap.ofList [.cells (pgL ++ [.sl 1 0 1 4 4 op, .int .i64 (fwrap .i64 (iadd t 1))]), .cells (ints (memI (addS x a b1) (addS 1 c b2) true true))] := by
 cases op <;> cases b1 <;> cases b2 <;> exact tick_does (ov := noOv) (fuel := 100000) (n := 300) mixedM plainM (noOv_good _ _) rfl (by kernel_rfl) (fun Q => by kernel_rfl)
theorem addS_i64 (x a : Int) (b : Bool) : i64 (addS x a b) := by
 unfold addS i64
 rw [fwrap_eq, iadd_eq, IntKind.wrap_i64]
 omega
theorem mstep_does (hG : ∀ g a, G g = some a -> a.idLt 0 = true) {H : AHeap} {m q : Nat} {a c : Int} {b1 b2 : Bool} {t : Nat} {op : Bool} (hm : MacAt H m q pgL (memI a c b1 b2) t op) (x : Int) (ht : t < 4611686018427387904) :
  ∃ h', Does Tryz.prog G 75 [.ptr m 0, .vsl [.int .i64 x] 1] H (fun r h => r = .tuple [.vsl [.int .i64 (addS x a b1), .int .i64 (addS 1 c b2)] 2, .int .i64 0] /\ h = h') /\
    MacAt h' m q pgL (memI (addS x a b1) (addS 1 c b2) true true) (t + 1) op /\ h'.next = H.next /\ ∀ j, j ≠ m -> j ≠ q -> h'.get j = H.get j := by
 obtain ⟨h1, h2, h3, h4, h5, h6, h7⟩ := hm
 obtain ⟨ρ, hρ⟩ : ∃ ρ : Nat -> Nat, ρ = fun i => match i with | 0 => m | _ => q := ⟨_, rfl⟩
 have e0 : ρ 0 = m := by subst hρ; rfl
 have e1 : ρ 1 = q := by subst hρ; rfl
 have hinj : ∀ i j, i < 2 -> j < 2 -> ρ i = ρ j -> i = j := by
  intro i j hi hj e
  have ci : i = 0 \/ i = 1 := by omega
  have cj : j = 0 \/ j = 1 := by omega
  rcases ci with rfl | rfl <;> rcases cj with rfl | rfl
  · rfl
  · rw [e0, e1] at e; exact absurd e h5
  · rw [e0, e1] at e; exact absurd e.symm h5
  · rfl
 have r0 : ∀ op t, AObj.ren ρ (.cells (pgL ++ [.sl 1 0 1 4 4 op, .int .i64 t])) = .cells (pgL ++ [.sl q 0 1 4 4 op, .int .i64 t]) := fun op t => by rw [<- e1]; rfl
 have r1 : ∀ a c b1 b2, AObj.ren ρ (.cells (ints (memI a c b1 b2))) = .cells (ints (memI a c b1 b2)) := fun a c b1 b2 => rfl
 have hp : IsPart (AHeap.ofList [.cells (pgL ++ [.sl 1 0 1 4 4 op, .int .i64 t]), .cells (ints (memI a c b1 b2))]) ρ H := by
  refine ⟨fun i hi => ?_, fun i j hi hj => hinj i j hi hj⟩
  have hi : i < 2 := hi
  have ci : i = 0 \/ i = 1 := by omega
  rcases ci with rfl | rfl
  · exact ⟨_, rfl, by rw [e0, r0]; exact h1⟩
  · exact ⟨_, rfl, by rw [e1, r1]; exact h2⟩
 have hd := tick_part (step_raw (G := G) op b1 b2 t a c x) (Nat.zero_lt_succ 1) rfl (by kernel_rfl) (fun n => rfl) (fun n => rfl) hG hp
 rw [e0] at hd
 have hw : fwrap .i64 (iadd (t : Int) 1) = ((t + 1 : Nat) : Int) := by rw [fwrap_eq, iadd_eq, IntWalk.i64_in _ (by omega)]; omega
 refine ⟨_, hd, ⟨?_, ?_, rfl, rfl, h5, by omega, ?_⟩, rfl, fun j hj hj2 => ?_⟩
 · have := patch_on (H := H) (H1 := AHeap.ofList [.cells (pgL ++ [.sl 1 0 1 4 4 op, .int .i64 (fwrap .i64 (iadd t 1))]), .cells (ints (memI (addS x a b1) (addS 1 c b2) true true))]) (m := 2) hinj (i := 0) (by omega)
   rw [e0] at this
   refine this.trans ?_
   rw [<- hw, <- r0]; rfl
 · have := patch_on (H := H) (H1 := AHeap.ofList [.cells (pgL ++ [.sl 1 0 1 4 4 op, .int .i64 (fwrap .i64 (iadd t 1))]), .cells (ints (memI (addS x a b1) (addS 1 c b2) true true))]) (m := 2) hinj (i := 1) (by omega)
   rw [e1] at this
   refine this.trans ?_
   rw [<- r1]; rfl
 · intro v hv
   simp only [memI, List.mem_cons, List.not_mem_nil, or_false] at hv
   rcases hv with rfl | rfl | rfl | rfl
   · exact addS_i64 _ _ _
   · simp only [cond_true]; unfold i64; omega
   · exact addS_i64 _ _ _
   · simp only [cond_true]; unfold i64; omega
 · refine patch_off fun i hi => ?_
   have hi : i < 2 := hi
   have ci : i = 0 \/ i = 1 := by omega
   rcases ci with rfl | rfl
   · rw [e0]; exact Ne.symm hj
   · rw [e1]; exact Ne.symm hj2
theorem elemOut : ElemOk Tryz.prog 52 52 59 3 40 := ⟨by simp, ⟨.slice 59, by simp, rfl⟩, by simp⟩
theorem elemDig : ElemOk Tryz.prog 84 84 55 32 32 := ⟨by simp, ⟨.slice 55, by simp, rfl⟩, by simp⟩
theorem mstep_zero (hG : ∀ g a, G g = some a -> a.idLt 0 = true) {H : AHeap} (hw : H.Wf) {m q : Nat} {a c : Int} {b1 b2 : Bool} {t : Nat} {op : Bool} (hm : MacAt H m q pgL (memI a c b1 b2) t op) (ht : t < 4611686018427387904) (o : Bool) :
  ∃ h', Does Tryz.prog G 75 [.ptr m 0, .sl H.next 0 1 1 1 o] (H.push (.cells [.int .i64 0])) (fun r h => r = .tuple [.vsl [.int .i64 (addS 0 a b1), .int .i64 (addS 1 c b2)] 2, .int .i64 0] /\ h = h') /\
    MacAt h' m q pgL (memI (addS 0 a b1) (addS 1 c b2) true true) (t + 1) op /\ H.next <= h'.next /\ ∀ j y, j ≠ m -> j ≠ q -> H.get j = some y -> h'.get j = some y := by
 have hmn := zaa hw hm.1
 have hqn := zaa hw hm.2.1
 have k : ∀ j y, H.get j = some y -> ((H.push (.cells [.int .i64 0])).frz H.next [.int .i64 0]).get j = some y := fun j y hj => frz_old1 hw (Nat.le_refl _) hj (by
  have := zaa hw hj
  have : j ≠ H.next := by omega
  simp [this, hj])
 have hm2 : MacAt ((H.push (.cells [.int .i64 0])).frz H.next [.int .i64 0]) m q pgL (memI a c b1 b2) t op := ⟨k _ _ hm.1, k _ _ hm.2.1, hm.2.2⟩
 obtain ⟨h', h1, h2, h3, h4⟩ := mstep_does hG hm2 0 ht
 refine ⟨h', Does.lend (i := H.next) (cs := [.int .i64 0]) (by simp) ?_, h2, ?_, fun j y hj hj2 hy => by rw [h4 j hj hj2]; exact k j y hy⟩
 · have e : List.map (AV.frz H.next [.int .i64 0]) [.ptr m 0, .sl H.next 0 1 1 1 o] = [.ptr m 0, .vsl [.int .i64 0] 1] := by
    have : m ≠ H.next := by omega
    simp [AV.frz, this]
   rw [e]; exact h1
 · rw [h3]; simp [AHeap.frz]
def rpV (ci : Nat) (c1 c2 : AV) (m pI cap : Nat) (op : Bool) (c5 c6 c7 : AV) (s : Nat) (ag ov dv lv dn : AV) : List AV :=
 [.ptr ci 0, c1, c2, .ptr m 0, .sl pI 0 1 1 cap op, c5, c6, c7, .int .i64 s, ag, ov, dv, lv, dn]
def StAt (H : AHeap) (m q : Nat) (op : Bool) (s no nd : Nat) (B : Nat -> Prop) (ov dv : AV) : Prop :=
 ∃ a c b1 b2 os ds bo bd, MacAt H m q pgL (memI a c b1 b2) s op /\ Gr H 3 no os ov bo /\ Gr H 32 nd ds dv bd /\ (∀ x, bo x -> B x) /\ (∀ x, bd x -> B x) /\ (∀ x, bo x -> ¬ bd x) /\ ¬ B m /\ ¬ B q
theorem StAt.keep {H H' : AHeap} {m q : Nat} {op : Bool} {s no nd : Nat} {B : Nat -> Prop} {ov dv : AV} (h : StAt H m q op s no nd B ov dv) (hk : ∀ j y, (j = m \/ j = q \/ B j) -> H.get j = some y -> H'.get j = some y) : StAt H' m q op s no nd B ov dv := by
 obtain ⟨a, c, b1, b2, os, ds, bo, bd, hM, gO, gD, bO, bD, bX, nm, nq⟩ := h
 exact ⟨a, c, b1, b2, os, ds, bo, bd, ⟨hk _ _ (.inl rfl) hM.1, hk _ _ (.inr (.inl rfl)) hM.2.1, hM.2.2⟩, gO.keep fun j x hj hx => hk j x (.inr (.inr (bO j hj))) hx, gD.keep fun j x hj hx => hk j x (.inr (.inr (bD j hj))) hx, bO, bD, bX, nm, nq⟩
theorem StAt.mono {H : AHeap} {m q : Nat} {op : Bool} {s no nd : Nat} {B B' : Nat -> Prop} {ov dv : AV} (h : StAt H m q op s no nd B ov dv) (hB : ∀ x, B x -> B' x) (hm : ¬ B' m) (hq : ¬ B' q) : StAt H m q op s no nd B' ov dv := by
 obtain ⟨a, c, b1, b2, os, ds, bo, bd, hM, gO, gD, bO, bD, bX, nm, nq⟩ := h
 exact ⟨a, c, b1, b2, os, ds, bo, bd, hM, gO, gD, fun x hx => hB x (bO x hx), fun x hx => hB x (bD x hx), bX, hm, hq⟩
def StR (H : AHeap) (r ci : Nat) (c1 c2 : AV) (m q pI cap : Nat) (opI : Bool) (c5 c6 c7 : AV) (op : Bool) (n no nd : Nat) (V lv dn : AV) (B : Nat -> Prop) (h : AHeap) : Prop :=
 ∃ ov dv, h.get r = some (.cells (rpV ci c1 c2 m pI cap opI c5 c6 c7 n V ov dv lv dn)) /\ StAt h m q op n no nd (fun x => B x \/ H.next <= x) ov dv /\ ∀ j y, j ≠ r -> j ≠ m -> j ≠ q -> ¬ B j -> H.get j = some y -> h.get j = some y
theorem step_run (hG : ∀ g a, G g = some a -> a.idLt 0 = true) {H : AHeap} {r ci m q pI cap : Nat} {opI op : Bool} {c1 c2 c5 c6 c7 ag ov dv lvs dn : AV} {a0 a1 a2 a3 a6 a7 a8 a9 a10 lv : AV} {l : List En} {s n no nd : Nat} {B : Nat -> Prop}
  (hr : H.get r = some (.cells (rpV ci c1 c2 m pI cap opI c5 c6 c7 s ag ov dv lvs dn))) (hi : H.get ci = some (.cells [a0, a1, a2, a3, lv, .int .i64 n, a6, a7, a8, a9, a10])) (hlv : EnF lv l) (hn : n <= l.length) (hl : l.length <= 200) (hrw : ∀ e ∈ l, e.l.length <= 1000000)
  (hp : H.get pI = some (.cells [.int .i64 2])) (hS : StAt H m q op s no nd B ov dv) (hs : s <= n) (hno : no <= 1000) (hnd : nd <= 1000) (hBr : ¬ B r) (hBp : ¬ B pI) (hrm : r ≠ m) (hrq : r ≠ q) (hpr : pI ≠ r) (hpm : pI ≠ m) (hpq : pI ≠ q) :
  Does Tryz.prog G 40 [.ptr r 0] H fun x h => x = .tuple [] /\ StR H r ci c1 c2 m q pI cap opI c5 c6 c7 op n (no + (n - s)) (nd + (n - s)) (entsV (l.take n)) lvs dn B h := by
 refine Does.wf Tryz.call40 fun hw _ => ?_
 have hv := EnF.entsV (l.take n)
 have vs := hv.sc
 have vc := hv.cells
 have hln : (l.take n).length = n := by rw [List.length_take, Nat.min_eq_left hn]
 have vl : alen Tryz.prog 48 (entsV (l.take n)) = some (.int .i64 n) := by
  rw [hv.alen (e := 62) (by simp), hln]
 have hcs := fun h0 => hv.cs (h0 : 0 < (l.take n).length)
 rw [hln] at hcs
 have hrn := zaa hw hr
 have hpn := zaa hw hp
 have hmn : m < H.next := by obtain ⟨a, c, b1, b2, os, ds, bo, bd, hM, _⟩ := hS; exact zaa hw hM.1
 have hqn : q < H.next := by obtain ⟨a, c, b1, b2, os, ds, bo, bd, hM, _⟩ := hS; exact zaa hw hM.2.1
 refine zad Tryz.call40 Tryz.func40 rfl (by simp [Tryz.f40]) ?_
 have hr' := hr
 simp only [rpV] at hr'
 simp [hr']
 refine zab (committed_does hi hlv hn (by omega) hrw) ?_
 rintro x h ⟨rfl, rfl⟩
 simp [hr', vs, vc]
 have hre : ∀ e ∈ l.take n, e.l.length <= 1000000 := fun e he => hrw e (List.mem_of_mem_take he)
 obtain ⟨V, hV⟩ : ∃ V, V = entsV (l.take n) := ⟨_, rfl⟩
 rw [<- hV] at vs vc vl hcs ⊢
 generalize l.take n = L at *
 have hn2 : n <= 200 := by omega
 clear hv hV hi hlv hn hl hrw hr'
 refine zam (fun k T' H' => ∃ j ov dv, j + k = n /\ s <= j /\ H'.get r = some (.cells (rpV ci c1 c2 m pI cap opI c5 c6 c7 j V ov dv lvs dn)) /\ StAt H' m q op j (no + (j - s)) (nd + (j - s)) (fun x => B x \/ h.next <= x) ov dv /\
  (∀ j y, j ≠ r -> j ≠ m -> j ≠ q -> ¬ B j -> h.get j = some y -> H'.get j = some y) /\ h.next <= H'.next /\ T' 0 = .ptr r 0) (n - s) ?_ ?_
 · refine ⟨s, ov, dv, by omega, by omega, by simp [rpV], ?_, fun j y hj _ _ _ hy => by simp [hj, hy], by simp, by simp⟩
   simp only [Nat.sub_self, Nat.add_zero]
   refine (hS.mono (fun x hx => .inl hx) (fun hx => ?_) (fun hx => ?_)).keep fun j y hj hy => ?_
   · obtain ⟨a, c, b1, b2, os, ds, bo, bd, hM, gO, gD, bO, bD, bX, nm, nq⟩ := hS
     rcases hx with hx | hx
     · exact nm hx
     · omega
   · obtain ⟨a, c, b1, b2, os, ds, bo, bd, hM, gO, gD, bO, bD, bX, nm, nq⟩ := hS
     rcases hx with hx | hx
     · exact nq hx
     · omega
   · have : j ≠ r := by
      rintro rfl
      rcases hj with hj | hj | hj | hj
      · exact hrm hj
      · exact hrq hj
      · exact hBr hj
      · omega
     simp [this, hy]
 clear hS hr vc
 rintro k T H1 ⟨j, ov, dv, hjk, hsj, hr1, hSt, hk, hHn, t0⟩ hw1 _
 obtain ⟨a, c, b1, b2, os, ds, bo, bd', hM, gO, gD, bO, bD, bX, nm, nq⟩ := hSt
 obtain ⟨bd, hbd⟩ : ∃ bd : Nat -> Prop, bd = fun x => bd' x /\ x < H1.next := ⟨_, rfl⟩
 have gD : Gr H1 32 (nd + (j - s)) ds dv bd := (Gr_lt gD fun j x => zaa hw1).mono fun j hj => by rw [hbd]; exact ⟨hj.1, hj.2.1⟩
 have bD : ∀ x, bd x -> B x \/ h.next <= x := fun x hx => bD x (by rw [hbd] at hx; exact hx.1)
 have bX : ∀ x, bo x -> ¬ bd x := fun x hx hy => bX x hx (by rw [hbd] at hy; exact hy.1)
 have hbN : ∀ x, bd x -> x < H1.next := fun x hx => by rw [hbd] at hx; exact hx.2
 clear hbd
 have ovs := gO.sc
 have ovc := gO.cells
 have dvs := gD.sc
 have dvc := gD.cells
 have hr1' := hr1
 simp only [rpV] at hr1
 simp
 refine zaj [(3, 0), (7, 0)] zah (by kernel_rfl) ?_
 intro es hes
 by_cases hj : j < n
 case neg =>
  obtain rfl : j = n := by omega
  simp [t0, hr1, vl, vs, -alen]
  refine ⟨by subst hes; exact ⟨by kernel_rfl, by kernel_rfl⟩, by simp [rds, heapF, hr1], ?_⟩
  exact ⟨ov, dv, hr1', ⟨a, c, b1, b2, os, ds, bo, bd, hM, gO, gD, bO, bD, bX, nm, nq⟩, hk⟩
 have hjj : (j : Int) < n := by omega
 simp [t0, hr1, vl, hjj, hj, -alen]
 refine ⟨by subst hes; exact ⟨by kernel_rfl, by kernel_rfl⟩, by simp [rds, heapF, hr1], ?_⟩
 obtain ⟨C, hVC, hCl, hat⟩ := hcs (by omega)
 obtain ⟨e, he⟩ : ∃ e, L[j]? = some e := ⟨_, List.getElem?_eq_getElem (by omega)⟩
 have hat := hat j e he
 have hee := hre e (List.mem_of_getElem? he)
 have rx := RowA.rowV e.row
 have rxs := rx.sc
 have rxc := rx.cells
 have h3 : 3 <= C.length - j * 3 := by omega
 have hr1n := zaa hw1 hr1
 have q1 : r ≠ H1.next := by omega
 have t0' := t0
 rw [hVC] at hr1
 refine zaj [(3, 0), (7, 0), (9, 0)] zah (by kernel_rfl) ?_
 intro es hes
 simp [t0, hr1, hj, hat, h3, rxs, rxc]
 refine ⟨by subst hes; exact ⟨by kernel_rfl, by kernel_rfl⟩, by simp [rds, heapF, hr1], ?_⟩
 clear hes es
 obtain ⟨H2, hH2⟩ : ∃ H2, H2 = H1.push (.cells [.int .u64 e.id, .int .u64 e.view, rowV e.row]) := ⟨_, rfl⟩
 rw [<- hH2]
 have k2 : ∀ x y, H1.get x = some y -> H2.get x = some y := fun x y hx => by
  have := zaa hw1 hx
  have : x ≠ H1.next := by omega
  rw [hH2]; simp [this, hx]
 have n2 : H2.next = H1.next + 1 := by rw [hH2]; rfl
 have he2 : H2.get H1.next = some (.cells [.int .u64 e.id, .int .u64 e.view, rowV e.row]) := by rw [hH2]; simp
 have hp2 := k2 _ _ (hk pI _ hpr hpm hpq hBp hp)
 have hr2 := k2 _ _ hr1
 have hM2 : MacAt H2 m q pgL (memI a c b1 b2) j op := ⟨k2 _ _ hM.1, k2 _ _ hM.2.1, hM.2.2⟩
 have gO2 := gO.keep (H' := H2) fun x y _ hy => k2 x y hy
 have gD2 := gD.keep (H' := H2) fun x y _ hy => k2 x y hy
 clear hH2
 have hrow : rowV e.row = .nilsl /\ e.l = [] \/ rowV e.row = .vsl (ints e.l ++ []) e.l.length := by
  unfold En.l
  cases e.row with
  | none => exact .inl ⟨rfl, rfl⟩
  | some l => exact .inr (by simp [rowV])
 refine zac (fits_does hr2 hp2 hrow hee) ?_
 rintro x h2 ⟨rfl, rfl⟩ hw2 _
 rcases Decidable.em (e.l.length = 1) with h1l | h1l
 case' inl =>
  obtain ⟨x, hx⟩ : ∃ x, e.l = [x] := List.length_eq_one_iff.1 h1l
  have hrv : rowV e.row = .vsl [.int .i64 x] 1 := by
   rcases hrow with ⟨_, hh⟩ | hh
   · rw [hx] at hh; simp at hh
   · rw [hh, hx]; rfl
  obtain ⟨h', d1, hM3, n3a, k3a⟩ := mstep_does hG hM2 x (by omega)
  simp [t0, h1l, hr2, hrv]
  refine zac d1 ?_
  have n3 : h2.next <= h'.next := by omega
  have k3 : ∀ j y, j ≠ m -> j ≠ q -> h2.get j = some y -> h'.get j = some y := fun j y a b hy => by rw [k3a j a b]; exact hy
  clear d1 n3a k3a
  rintro y h3 ⟨rfl, rfl⟩ hw3 _
  obtain ⟨w, hw0, ws, wc⟩ : ∃ w, w = AV.vsl [AV.int .i64 (addS x a b1), AV.int .i64 (addS 1 c b2)] 2 /\ w.scalar = true /\ w.cells = [w] := ⟨_, rfl, rfl, rfl⟩
  rw [<- hw0]
  obtain ⟨a', c', hM4⟩ : ∃ a' c', MacAt h3 m q pgL (memI a' c' true true) (j + 1) op := ⟨_, _, hM3⟩
 case' inr =>
  obtain ⟨h', d1, hM3, n3, k3⟩ := mstep_zero hG hw2 hM2 (by omega) false
  have q2 : r ≠ h2.next := by omega
  simp [t0, h1l, hr2, q2]
  refine zac d1 ?_
  rintro y h3 ⟨rfl, rfl⟩ hw3 _
  obtain ⟨w, hw0, ws, wc⟩ : ∃ w, w = AV.vsl [AV.int .i64 (addS 0 a b1), AV.int .i64 (addS 1 c b2)] 2 /\ w.scalar = true /\ w.cells = [w] := ⟨_, rfl, rfl, rfl⟩
  rw [<- hw0]
  obtain ⟨a', c', hM4⟩ : ∃ a' c', MacAt h3 m q pgL (memI a' c' true true) (j + 1) op := ⟨_, _, hM3⟩
 all_goals
  clear hM3 hw0
  have hm1 : m < H1.next := by omega
  have hq1 : q < H1.next := by omega
  have hr3 := k3 _ _ hrm hrq hr2
  have he3 := k3 _ _ (by omega) (by omega) he2
  have bm : ∀ x, bo x -> x ≠ m /\ x ≠ q /\ x ≠ r := fun x hx => ⟨fun e => nm (e ▸ bO x hx), fun e => nq (e ▸ bO x hx), fun e => by
   rcases bO x hx with h' | h'
   · exact hBr (e ▸ h')
   · omega⟩
  have dm : ∀ x, bd x -> x ≠ m /\ x ≠ q /\ x ≠ r := fun x hx => ⟨fun e => nm (e ▸ bD x hx), fun e => nq (e ▸ bD x hx), fun e => by
   rcases bD x hx with h' | h'
   · exact hBr (e ▸ h')
   · omega⟩
  have gO3 : Gr h3 3 (no + (j - s)) os ov (fun x => bo x /\ x < H1.next) := ((Gr_lt gO fun j x => zaa hw1).mono (b' := fun x => bo x /\ x < H1.next) fun j hj => ⟨hj.1, hj.2.1⟩).keep fun x y hx hy => k3 x y (bm x hx.1).1 (bm x hx.1).2.1 (k2 x y hy)
  have gD3 : Gr h3 32 (nd + (j - s)) ds dv (fun x => bd x /\ x < H1.next) := ((Gr_lt gD fun j x => zaa hw1).mono (b' := fun x => bd x /\ x < H1.next) fun j hj => ⟨hj.1, hj.2.1⟩).keep fun x y hx hy => k3 x y (dm x hx.1).1 (dm x hx.1).2.1 (k2 x y hy)
  have q3 : r ≠ h3.next := by omega
  have q4 : H1.next ≠ h3.next := by omega
  obtain ⟨ov', eff, f1, f2, f3, f4⟩ := (gO3.keep (H' := h3.push (.cells [.int .i64 j, .int .u64 e.id, w])) fun x y hx hy => by
   have : x ≠ h3.next := by omega
   simp [this, hy]).app elemOut (m := 1) (x := .sl h3.next 0 3 1 1 false) (news := [.int .i64 j, .int .u64 e.id, w]) (fun _ _ e => by cases e) rfl (by simp [zal]) (by simp [ws]) rfl (by omega) (by omega) (by omega) (by omega) (nx := h3.next + 1) rfl
  simp only [AHeap.next_push] at f2 f3 f4
  have ovs' := f2.sc
  have ovc' := f2.cells
  have ltE := eff_lt (push_lt (fun j x => zaa hw3) (.cells [.int .i64 j, .int .u64 e.id, w])) fun i y e => aappend_put (fun k i e => by cases e) f1 e
  simp
  refine zaj [(4, 0), (8, 0), (10, 0)] zah (by kernel_rfl) ?_
  intro es hes
  simp [t0, hr3, he3, ovs, ovc, ws, wc, q3, q4, -zan]
  rw [f1]
  generalize hH4 : h3.push (.cells [.int .i64 j, .int .u64 e.id, w]) = H4 at *
  have hr4 : (H4.eff eff).get r = some (.cells [AV.ptr ci 0, c1, c2, AV.ptr m 0, AV.sl pI 0 1 1 cap opI, c5, c6, c7, AV.int IntKind.i64 ↑j, AV.vsl C n, ov, dv, lvs, dn]) := by
   rw [f3 r (fun h => (bm r h.1).2.2 rfl) (by omega), <- hH4]
   simp [q3, hr3]
  simp [hr4, ovs', ovc']
  refine ⟨by subst hes; exact ⟨by kernel_rfl, by kernel_rfl⟩, by simp [rds, heapF, hr3, he3, ovs, ovc, ws, wc], ?_⟩
  clear hes es
  obtain ⟨H5, hH5⟩ : ∃ H5, H5 = (H4.eff eff).set r (.cells [AV.ptr ci 0, c1, c2, AV.ptr m 0, AV.sl pI 0 1 1 cap opI, c5, c6, c7, AV.int IntKind.i64 ↑j, AV.vsl C n, ov', dv, lvs, dn]) := ⟨_, rfl⟩
  rw [<- hH5]
  have n5 : h3.next < H5.next := by
   rw [hH5]; simp only [AHeap.next_set]; omega
  have k5 : ∀ x y, x ≠ r -> ¬ bo x -> h3.get x = some y -> H5.get x = some y := fun x y hx hb hy => by
   have x1 := zaa hw3 hy
   have x2 : x ≠ h3.next := by omega
   rw [hH5]
   simp only [AHeap.get_set, if_neg hx]
   rw [f3 x (fun h => hb h.1) (by omega), <- hH4]
   simp [x2, hy]
  have hr5 : H5.get r = some (.cells [AV.ptr ci 0, c1, c2, AV.ptr m 0, AV.sl pI 0 1 1 cap opI, c5, c6, c7, AV.int IntKind.i64 ↑j, AV.vsl C n, ov', dv, lvs, dn]) := by rw [hH5]; simp
  have hM5 : MacAt H5 m q pgL (memI a' c' true true) (j + 1) op := ⟨k5 _ _ hrm.symm (fun hx => (bm m hx).1 rfl) hM4.1, k5 _ _ hrq.symm (fun hx => (bm q hx).2.1 rfl) hM4.2.1, hM4.2.2⟩
  have gO5 : Gr H5 3 (no + (j - s) + 1) (os ++ [.int .i64 j, .int .u64 e.id, w]) ov' (fun x => (bo x /\ x < H1.next) \/ x = h3.next + 1) := f2.keep fun x y hx hy => by
   have : x ≠ r := by
    rcases hx with hx | hx
    · exact (bm x hx.1).2.2
    · omega
   rw [hH5]; simp [this, hy]
  have gD5 : Gr H5 32 (nd + (j - s)) ds dv (fun x => bd x /\ x < H1.next) := gD3.keep fun x y hx hy => k5 x y (dm x hx.1).2.2 (fun hb => bX x hb hx.1) hy
  have kk5 : ∀ x y, x ≠ r -> x ≠ m -> x ≠ q -> ¬ bo x -> H1.get x = some y -> H5.get x = some y := fun x y a b c d hy => k5 x y a d (k3 x y b c (k2 x y hy))
  have lt5 : ∀ j x, H5.get j = some x -> j < H5.next := fun j x hx => by
   have hrE := ltE _ _ hr4
   rw [hH5] at hx ⊢
   simp only [AHeap.get_set, AHeap.next_set] at hx ⊢
   split at hx
   · rename_i e; rw [e]; exact hrE
   · exact ltE _ _ hx
  clear hH5 f1 f2 f3 f4 hH4 ltE hr4 k5 gO3 gD3 hr3 he3 hM4 k3 k2
  obtain ⟨D, hD, hDl, hDs⟩ : ∃ D, digestV (memI a' c' true true) (j + 1) = .agg D /\ D.length = 32 /\ D.all AV.scalar = true := ⟨u8s (shaOf (stateB (memI a' c' true true) (j + 1))), rfl, by simp [u8s, shaOf_len], by simp [u8s]⟩
  have hdg := digest_does (G := G) hM5
  rw [hD] at hdg
  have q5 : r ≠ H5.next := by omega
  have tkD : D.take 32 = D := List.take_of_length_le (by omega)
  obtain ⟨dv', eff, f1, f2, f3, f4⟩ := (gD5.keep (H' := H5.push (.cells D)) fun x y hx hy => by
   have : x ≠ H5.next := by omega
   simp [this, hy]).app elemDig (m := 1) (x := .sl H5.next 0 32 1 1 false) (news := D) (fun _ _ e => by cases e) rfl (by simp [zal, hDl, tkD]) hDs (by omega) (by omega) (by omega) (by omega) (by omega) (nx := H5.next + 1) rfl
  simp only [AHeap.next_push] at f2 f3 f4
  have dvs' := f2.sc
  have dvc' := f2.cells
  refine zaj [(4, 0), (4, 10), (8, 0)] zah (by kernel_rfl) ?_
  intro es hes
  simp [zaf, -zag, t0, hr5, dvs, dvc]
  refine ⟨_, _, hdg, Nat.le_refl _, ?_⟩
  refine ad_go (fun T' => T' 79 = .ptr r 0 /\ T' 83 = dv /\ T' 88 = .agg D /\ T' 0 = .ptr r 0) (by simp [t0]) ?_
  rintro T1 ⟨b79, b83, b88, b0⟩
  simp [zaf, -zag, b79, b83, b88, b0, hDl, hDs, hr5, -zan]
  rw [f1]
  generalize hH6 : H5.push (.cells D) = H6 at *
  have hr6 : (H6.eff eff).get r = some (.cells [AV.ptr ci 0, c1, c2, AV.ptr m 0, AV.sl pI 0 1 1 cap opI, c5, c6, c7, AV.int IntKind.i64 ↑j, AV.vsl C n, ov', dv, lvs, dn]) := by
   rw [f3 r (fun h => (dm r h.1).2.2 rfl) (by omega), <- hH6]
   simp [q5, hr5]
  have wr : IntKind.i64.wrap ((j : Int) + 1) = ((j + 1 : Nat) : Int) := by rw [IntWalk.i64_in _ (by omega)]; omega
  simp [zaf, -zag, b79, b83, b88, b0, hr6, dvs', dvc']
  refine ⟨by subst hes; exact ⟨by kernel_rfl, by kernel_rfl⟩, by simp [rds, heapF, hr5, dvs, dvc], ?_⟩
  simp [b0, wr]
  have k6 : ∀ x y, ¬ bd x -> H5.get x = some y -> (H6.eff eff).get x = some y := fun x y hb hy => by
   have x1 : x < H5.next \/ H5.next <= x := by omega
   have x0 : (H5.push (.cells D)).get x = some y -> (H6.eff eff).get x = some y \/ x = H5.next + 1 := fun hh => by
    by_cases e : x = H5.next + 1
    · exact .inr e
    · left
      rw [f3 x (fun h => hb h.1) e, <- hH6]; exact hh
   have := lt5 _ _ hy
   have x2 : x ≠ H5.next := by omega
   rcases x0 (by simp [x2, hy]) with h' | h'
   · exact h'
   · omega
  have eO : no + (j + 1 - s) = no + (j - s) + 1 := by omega
  have eD : nd + (j + 1 - s) = nd + (j - s) + 1 := by omega
  refine ⟨k - 1, by omega, j + 1, by omega, by omega, ov', dv', by rw [hVC]; simp [rpV], ?_, fun x y x1 x2 x3 x4 hx => ?_, by omega⟩
  · rw [eO, eD]
    refine ⟨a', c', true, true, _, _, fun x => (bo x /\ x < H1.next) \/ x = h3.next + 1, fun x => (bd x /\ x < H1.next) \/ x = H5.next + 1, ⟨?_, ?_, hM5.2.2⟩, gO5.keep fun x y hx hy => ?_, f2.keep fun x y hx hy => ?_, fun x hx => ?_, fun x hx => ?_, fun x hx hy => ?_, nm, nq⟩
    · simp [hrm.symm, k6 _ _ (fun hx => (dm m hx).1 rfl) hM5.1]
    · simp [hrq.symm, k6 _ _ (fun hx => (dm q hx).2.1 rfl) hM5.2.1]
    · have x1 : x ≠ r := by
       rcases hx with hx | hx
       · exact (bm x hx.1).2.2
       · omega
      have x2 : ¬ bd x := fun hb => by
       rcases hx with hx | hx
       · exact bX x hx.1 hb
       · rw [hx] at hb
         have := hbN _ hb; omega
      simp [x1, k6 x y x2 hy]
    · have x1 : x ≠ r := by
       rcases hx with hx | hx
       · exact (dm x hx.1).2.2
       · omega
      simp [x1, hy]
    · rcases hx with hx | hx
      · exact bO x hx.1
      · exact .inr (by omega)
    · rcases hx with hx | hx
      · exact bD x hx.1
      · exact .inr (by omega)
    · rcases hx with hx | hx <;> rcases hy with hy | hy
      · exact bX x hx.1 hy.1
      · omega
      · omega
      · omega
  · have x0 := zaa hw hx
    rw [if_neg x1]
    refine k6 x y (fun hb => ?_) (kk5 x y x1 x2 x3 (fun hb => ?_) (hk x y x1 x2 x3 x4 hx))
    · rcases bD x hb with hb | hb
      · exact x4 hb
      · omega
    · rcases bO x hb with hb | hb
      · exact x4 hb
      · omega
theorem ckRead_le (b : Bs) : (za8 b).2.length <= b.length := by
 unfold za8
 split
 · simp
 · exact (take_text b).2
theorem ckLast_le {b1 b2 : Bs} {N : Nat} (h1 : b1.length <= N) (h2 : b2.length <= N) : (ckLast b1 b2).2.2.length <= N := by
 unfold ckLast
 split
 · simp
 · split
   · exact Nat.le_trans (ckRead_le b2) h2
   · exact Nat.le_trans (ckRead_le b1) h1
theorem slots_le {x : Nat × Nat × Bs} {k : KpRec} {N : Nat} (h : slots x = some (some k)) (hl : x.2.2.length <= N) : k.last < 2 ^ 64 /\ k.whole.length <= N /\ k.stepped < 2 ^ 64 /\ k.state.length <= N := by
 unfold slots at h
 split at h
 · simp at h
 · simp only at h
   split at h
   · simp at h
   · simp only [Option.some.injEq] at h
     subst h
     have h1 := rdU_lt ⟨x.2.2, false⟩
     have h2 := rdS_len (Rd.mk x.2.2 false).U.2
     have h3 := rdU_lt (Rd.mk x.2.2 false).U.2.S.2
     have h4 := rdS_len (Rd.mk x.2.2 false).U.2.S.2.U.2
     simp only at h1
     refine ⟨h1.1, ?_, h3.1, ?_⟩ <;> simp only <;> omega
theorem recs_le : ∀ (l : List Bs) (last : Nat) {s : List Bs} {x : Nat}, recs last l = some (s, x) -> s.length <= l.length /\ ∀ b ∈ s, ∃ c ∈ l, b.length <= c.length
 | [], last, s, x, h => by
   simp only [recs, Option.some.injEq, Prod.mk.injEq] at h
   rw [<- h.1]
   exact ⟨Nat.le_refl _, fun b hb => by simp at hb⟩
 | a :: l, last, s, x, h => by
   unfold recs at h
   simp only at h
   split at h
   · simp at h
   · split at h
     · rw [Option.map_eq_some_iff] at h
       obtain ⟨⟨s', x'⟩, h1, h2⟩ := h
       simp only [Prod.mk.injEq] at h2
       obtain ⟨rfl, rfl⟩ := h2
       obtain ⟨k1, k2⟩ := recs_le l _ h1
       have e1 := rdU_lt ⟨a, false⟩
       have e2 := rdS_len (Rd.mk a false).U.2
       simp only at e1
       refine ⟨by simp; omega, fun b hb => ?_⟩
       rcases List.mem_cons.1 hb with rfl | hb
       · exact ⟨a, by simp, by omega⟩
       · obtain ⟨c, h3, h4⟩ := k2 b hb
         exact ⟨c, by simp [h3], h4⟩
     · obtain ⟨k1, k2⟩ := recs_le l _ h
       refine ⟨by simp; omega, fun b hb => ?_⟩
       obtain ⟨c, h3, h4⟩ := k2 b hb
       exact ⟨c, by simp [h3], h4⟩
theorem rrecs_le {ko : Option KpRec} {l s : List Bs} {x N M : Nat} (h : rrecs ko l = some (s, x)) (hk : ∀ k, ko = some k -> k.whole.length <= N) (hl : ∀ b ∈ l, b.length <= N) (hM : l.length <= M) : s.length <= M + 1 /\ ∀ b ∈ s, b.length <= N := by
 unfold rrecs at h
 rw [Option.map_eq_some_iff] at h
 obtain ⟨⟨s', x'⟩, h1, h2⟩ := h
 simp only [Prod.mk.injEq] at h2
 obtain ⟨rfl, rfl⟩ := h2
 obtain ⟨k1, k2⟩ := recs_le l _ h1
 have k3 : ∀ b ∈ s', b.length <= N := fun b hb => by
  obtain ⟨c, h3, h4⟩ := k2 b hb
  exact Nat.le_trans h4 (hl c h3)
 rcases ko with _ | k
 · simp only [List.nil_append]
   exact ⟨by omega, k3⟩
 · refine ⟨by simp; omega, fun b hb => ?_⟩
   simp only [List.cons_append, List.nil_append, List.mem_cons] at hb
   rcases hb with rfl | hb
   · exact hk k rfl
   · exact k3 b hb
def rpo (me n : Nat) (d : Dk) : Option (Cs × Nat × Nat) :=
 match slots (ckLast d.f1.now d.f2.now) with
 | none => none
 | some ko => match rrecs ko (all (d.f0.now.length + 1) 0 d.f0.now).1 with
   | none => none
   | some (saved, last) => match zaA me n ⟨0, 0, [], 0⟩ saved with
     | none => none
     | some c0 => match ko with
       | none => some (if n = 1 then { c0 with agreed := c0.list.length } else c0, last, 0)
       | some k => match loadI k.state with
         | none => none
         | some (mv, t) => if t ≠ k.stepped \/ (if n = 1 then { c0 with agreed := c0.list.length } else c0).agreed < k.stepped then none else some (if n = 1 then { c0 with agreed := c0.list.length } else c0, last, k.stepped)
def lgD (d : Dk) : Dk := if (all (d.f0.now.length + 1) 0 d.f0.now).2 < d.f0.now.length then ((d.cut 0 (all (d.f0.now.length + 1) 0 d.f0.now).2).2.sync 0).2 else (d.sync 0).2
theorem lgD_ok {d : Dk} (hok : dkOk d) (ho : d.off = false) (hf : d.fuse = 0) : (lgD d).f1 = d.f1 /\ (lgD d).f2 = d.f2 /\ (lgD d).off = false /\ (lgD d).fuse = 0 /\ (lgD d).lives = d.lives /\ dkOk (lgD d) := by
 have hz : (all (d.f0.now.length + 1) 0 d.f0.now).2 <= (d.file 0).now.length := all_size _ _ _
 have hl := za7 hok 0
 unfold lgD
 split
 · rw [cut_zero ho hf hok hz]
   have hok2 : dkOk (d.setF 0 { d.file 0 with now := (d.file 0).now.take (all (d.f0.now.length + 1) 0 d.f0.now).2, other := true }) := dkOk_setF hok 0 (by simp; omega) (synced_len hok 0)
   simp only
   rw [sync_zero (by simp [Dk.setF, ho]) (by simp [Dk.setF, hf])]
   refine ⟨by simp [Dk.setF], by simp [Dk.setF], by simp [Dk.setF, ho], by simp [Dk.setF, hf], by simp [Dk.setF], dkOk_setF hok2 0 (za7 hok2 0) (za7 hok2 0)⟩
 · rw [sync_zero ho hf]
   exact ⟨by simp [Dk.setF], by simp [Dk.setF], by simp [Dk.setF, ho], by simp [Dk.setF, hf], by simp [Dk.setF], dkOk_setF hok 0 hl hl⟩
theorem memI_of {mv : List Int} (h : fitI [2, 1, 2, 1] mv = true) : ∃ a c b1 b2, mv = memI a c b1 b2 := by
 have hl := fitI_len h
 match mv, hl with
 | [x, y, z, w], _ =>
   have h2 : (y = 0 \/ y = 1) /\ (w = 0 \/ w = 1) := by
    simp [fitI] at h
    omega
   obtain ⟨hy, hw⟩ := h2
   rcases hy with rfl | rfl <;> rcases hw with rfl | rfl
   · exact ⟨x, z, false, false, rfl⟩
   · exact ⟨x, z, false, true, rfl⟩
   · exact ⟨x, z, true, false, rfl⟩
   · exact ⟨x, z, true, true, rfl⟩
def OpenR (me n k : Nat) (d : Dk) (x : AV) (h : AHeap) : Prop := match rpo me n d with
 | none => x = .tuple [.nilptr, .int .i64 3]
 | some (c, last, base) => ∃ r ci g m q pI cap opI op ov dv gl lvl N,
   x = .tuple [.ptr r 0, .int .i64 0] /\
   h.get r = some (.cells (rpV ci (.ptr k 0) (.ptr gl 0) m pI cap opI (.int .u64 last) (.int .i64 (lens (all (d.f0.now.length + 1) 0 d.f0.now).1)) (.int .i64 base) c.agreed (entsV (c.list.take c.agreed)) ov dv (.int .i64 d.lives) (.bool false))) /\
   CoR h ci g me n c /\ DkAt h k (lgD d) /\ LgAt h gl k lvl ⟨(all (d.f0.now.length + 1) 0 d.f0.now).1, (all (d.f0.now.length + 1) 0 d.f0.now).1.length, d.lives, false⟩ /\
   h.get pI = some (.cells [.int .i64 2]) /\ StAt h m q op c.agreed (c.agreed - base) (1 + (c.agreed - base)) (fun x => N <= x) ov dv /\
   r < N /\ ci < N /\ g + 1 < N /\ pI < N /\ gl < N /\ k < N /\ ∀ i op, lvl = .sl i 0 1 (all (d.f0.now.length + 1) 0 d.f0.now).1.length (all (d.f0.now.length + 1) 0 d.f0.now).1.length op -> i < N
theorem rpo_some {me n : Nat} {d : Dk} {k' : KpRec} {saved : List Bs} {last : Nat} {c0 : Cs} (hO : slots (ckLast d.f1.now d.f2.now) = some (some k')) (hS : rrecs (some k') (all (d.f0.now.length + 1) 0 d.f0.now).1 = some (saved, last)) (hC : zaA me n ⟨0, 0, [], 0⟩ saved = some c0) :
  rpo me n d = (loadI k'.state).bind fun x => if x.2 ≠ k'.stepped \/ (if n = 1 then { c0 with agreed := c0.list.length } else c0).agreed < k'.stepped then none else some (if n = 1 then { c0 with agreed := c0.list.length } else c0, last, k'.stepped) := by
 unfold rpo
 rw [hO]; simp only
 rw [hS]; simp only
 rw [hC]; simp only
 cases loadI k'.state <;> rfl
theorem aws_wf {X : Ctx} {c : Code} {Q : Post} {T : Nat -> AV} {H : AHeap} (h : H.Wf -> @AWs ⟨X⟩ ⟨c⟩ ⟨Q⟩ ⟨T⟩ H) : @AWs ⟨X⟩ ⟨c⟩ ⟨Q⟩ ⟨T⟩ H := aw_wf fun hw _ => h hw
theorem kpv_form (ko : Option KpRec) : ∃ (u0 u2 : Nat) (v1 v3 : AV), kpv ko = .agg [.int .u64 u0, v1, .int .u64 u2, v3] /\ v1.scalar = true /\ v1.cells = [v1] /\ v3.scalar = true /\ v3.cells = [v3] /\ ∀ k, ko = some k -> u2 = k.stepped /\ v3 = bV k.state := by
 rcases ko with _ | k
 · exact ⟨0, 0, .nilsl, .nilsl, rfl, rfl, rfl, rfl, rfl, fun k h => by cases h⟩
 · exact ⟨k.last, k.stepped, bV k.whole, bV k.state, rfl, bV_sc _, bV_cells _, bV_sc _, bV_cells _, fun k' h => by cases h; exact ⟨rfl, rfl⟩⟩
theorem rpOpen_does (hG : ∀ g a, G g = some a -> a.idLt 0 = true) {H : AHeap} {k me n : Nat} {d : Dk} (h1 : me < n) (h2 : n % 2 = 1) (h3 : n <= 7) (hk : DkAt H k d) (hok : dkOk d) (ho : d.off = false) (hf : d.fuse = 0) (hp : PgOk G pgL) :
  Does Tryz.prog G 10 [.int .i64 me, .int .i64 n, .agg pgL, .ptr k 0] H (OpenR me n k d) := by
 refine Does.wf Tryz.call10 fun hw _ => ?_
 have hp0 := hp
 obtain ⟨e1, e2, e3, e4, e5, e6, e7⟩ := hp
 obtain ⟨p0, p1, p2, p3, p4, p5, hpg⟩ := list6 e1
 have ep0 : p0 = .vsl [.int .i64 2] 1 := by rw [hpg] at e6; simpa using e6
 subst ep0
 have s1 : p1.scalar = true := e2 _ (by rw [hpg]; simp)
 have s2 : p2.scalar = true := e2 _ (by rw [hpg]; simp)
 have s3 : p3.scalar = true := e2 _ (by rw [hpg]; simp)
 have s4 : p4.scalar = true := e2 _ (by rw [hpg]; simp)
 have s5 : p5.scalar = true := e2 _ (by rw [hpg]; simp)
 have c1 : p1.cells = [p1] := e3 _ (by rw [hpg]; simp)
 have c2 : p2.cells = [p2] := e3 _ (by rw [hpg]; simp)
 have c3 : p3.cells = [p3] := e3 _ (by rw [hpg]; simp)
 have c4 : p4.cells = [p4] := e3 _ (by rw [hpg]; simp)
 have c5 : p5.cells = [p5] := e3 _ (by rw [hpg]; simp)
 have hkn : k < H.next := by obtain ⟨c, _, hc⟩ := hk; exact zaa hw hc
 obtain ⟨y1, y2, y3, y4, y5, y6⟩ := lgD_ok hok ho hf
 have hmac := fun H => machNew_does hp0 H
 rw [hpg] at hmac ⊢
 refine zad Tryz.call10 Tryz.func10 rfl (by simp [Tryz.f10]) ?_
 simp [s1, s2, s3, s4, s5, c1, c2, c3, c4, c5]
 refine zac (coNew_does h1 h2 h3 _) ?_
 rintro x g1 ⟨rfl, -, k1⟩ hw1 _
 have hb1 : g1.get H.next = some (.cells [.vsl [.int .i64 2] 1, p1, p2, p3, p4, p5]) := k1 _ _ (by simp)
 have hk1 : DkAt g1 k d := by
  obtain ⟨cs, z1, z2⟩ := hk
  exact ⟨cs, z1, k1 _ _ (by have : k ≠ H.next := by omega
                            simp [this, z2])⟩
 simp [hb1, s1, s2, s3, s4, s5, c1, c2, c3, c4, c5]
 refine zac (hmac _) ?_
 rintro x g2 ⟨m, q, rfl, hm, hq, hM, k2⟩ hw2 _
 have hb2 := k2 _ _ hb1
 have hk2 : DkAt g2 k d := by
  obtain ⟨cs, z1, z2⟩ := hk1
  exact ⟨cs, z1, k2 _ _ z2⟩
 have n1 := zaa hw1 hb1
 clear k1 hb1 hk1
 simp
 refine zac (lgOpen_does hk2 ho hok hf) ?_
 rintro x g3 hx hw3 _
 obtain ⟨gl, lvl, rfl, hL, hk3, hgl, hlvn, k3⟩ := hx
 have hk3 : DkAt g3 k (lgD d) := hk3
 have hL : LgAt g3 gl k lvl ⟨(all (d.f0.now.length + 1) 0 d.f0.now).1, (all (d.f0.now.length + 1) 0 d.f0.now).1.length, (lgD d).lives, false⟩ := hL
 rw [y5] at hL
 rw [<- hpg] at hM
 have hmn2 := zaa hw2 hM.1
 have hqn2 := zaa hw2 hM.2.1
 have mk : m ≠ k := by omega
 have qk : q ≠ k := by omega
 have hM3 : MacAt g3 m q pgL [0, 0, 0, 0] 0 false := ⟨k3 _ _ mk hM.1, k3 _ _ qk hM.2.1, hM.2.2⟩
 have hb3 := k3 _ _ (by omega) hb2
 obtain ⟨z1, z2⟩ := all_log d.f0.now
 have z3 : d.f0.now.length <= 262144 := za7 hok 0
 have z4 : d.f1.now.length <= 262144 := za7 hok 1
 have z5 : d.f2.now.length <= 262144 := za7 hok 2
 have hkl3 : k < g3.next := by obtain ⟨c, _, hc⟩ := hk3; exact zaa hw3 hc
 have glm := hgl _ _ hM.1
 have glq := hgl _ _ hM.2.1
 clear hM hb2 hk2 k2
 simp
 refine zac (slots_does hk3 y6 y3 (by rw [y1, y2]; exact Nat.le_trans (ckLast_le z4 z5) (by omega))) ?_
 rintro x g4 ⟨hg4, hx⟩ hw4 _
 subst hg4
 rw [y1, y2] at hx
 have hsl : ∀ k', slots (ckLast d.f1.now d.f2.now) = some (some k') -> _ := fun k' h => slots_le h (ckLast_le z4 z5)
 obtain ⟨O, hO⟩ : ∃ O, O = slots (ckLast d.f1.now d.f2.now) := ⟨_, rfl⟩
 rw [<- hO] at hx hsl
 rcases O with _ | ko
 · simp only at hx
   subst hx
   simp [kp0]
   have : rpo me n d = none := by unfold rpo; rw [<- hO]
   simp [OpenR, this]
 have hx : x = .tuple [kpv ko, .bool ko.isSome, .int .i64 0] := by
  rcases ko with _ | k' <;> exact hx
 obtain ⟨u0, u2, v1, v3, ek, w1, w2, w3, w4, w5⟩ := kpv_form ko
 rw [ek] at hx
 subst hx
 have b4 := zaa hw4 hb3
 have qa : H.next ≠ g4.next := by omega
 have qb : H.next ≠ g4.next + 1 := by omega
 simp [w1, w2, w3, w4, hb3, qa, qb]
 obtain ⟨g5, hg5⟩ : ∃ g5, g5 = ((g4.push (.cells [.int .u64 u0, v1, .int .u64 u2, v3])).push (.cells [])).push (.cells [.int .i64 2]) := ⟨_, rfl⟩
 rw [<- hg5]
 have n5 : g5.next = g4.next + 1 + 1 + 1 := by rw [hg5]; rfl
 have k5 : ∀ j y, g4.get j = some y -> g5.get j = some y := fun j y hj => by
  have := zaa hw4 hj
  have p1 : j ≠ g4.next := by omega
  have p2 : j ≠ g4.next + 1 := by omega
  have p3 : j ≠ g4.next + 1 + 1 := by omega
  rw [hg5]; simp [p1, p2, p3, hj]
 have hc5 : g5.get g4.next = some (.cells [.int .u64 u0, v1, .int .u64 u2, v3]) := by
  have p1 : g4.next ≠ g4.next + 1 + 1 := by omega
  rw [hg5]; simp [p1]
 have hp5 : g5.get (g4.next + 1 + 1) = some (.cells [.int .i64 2]) := by rw [hg5]; simp
 have hk5 : DkAt g5 k (lgD d) := by
  obtain ⟨cs, z1, z2⟩ := hk3
  exact ⟨cs, z1, k5 _ _ z2⟩
 have hM5 : MacAt g5 m q pgL [0, 0, 0, 0] 0 false := ⟨k5 _ _ hM3.1, k5 _ _ hM3.2.1, hM3.2.2⟩
 have hL5 : LgAt g5 gl k lvl ⟨(all (d.f0.now.length + 1) 0 d.f0.now).1, (all (d.f0.now.length + 1) 0 d.f0.now).1.length, d.lives, false⟩ := ⟨k5 _ _ hL.1, hL.2.keep fun i op e => by
  rcases hL.2 with ⟨h', _⟩ | ⟨i', op', vs, h', hg, _⟩
  · rw [h'] at e; cases e
  · rw [e] at h'; cases h'
    rw [hg, k5 _ _ hg]⟩
 have lv4 : ∀ i op, lvl = .sl i 0 1 (all (d.f0.now.length + 1) 0 d.f0.now).1.length (all (d.f0.now.length + 1) 0 d.f0.now).1.length op -> i < g4.next := fun i op e => by
  rcases hL.2 with ⟨h', _⟩ | ⟨i', op', vs, h', hg, _⟩
  · rw [h'] at e; cases e
  · rw [e] at h'; cases h'
    exact zaa hw4 hg
 have gl4 := zaa hw4 hL.1
 have m4 := zaa hw4 hM3.1
 have q4 := zaa hw4 hM3.2.1
 clear hg5 hL hM3 hk3 hb3
 refine zac (lives_does hk5) ?_
 rintro x g6 ⟨rfl, hg6⟩ hw5 _
 subst hg6
 rw [y5]
 have qc : g4.next ≠ g6.next := by omega
 simp [hc5, qc, w1, w2, w3, w4]
 obtain ⟨g7, hg7⟩ : ∃ g7, g7 = g6.push (.cells [.nilptr, .ptr k 0, .ptr gl 0, .ptr m 0, .sl (g4.next + 1 + 1) 0 1 1 1 true, .int .u64 0, .int .i64 0, .int .i64 0, .int .i64 0, .nilsl, .nilsl, .nilsl, .int .i64 d.lives, .bool false]) := ⟨_, rfl⟩
 rw [<- hg7]
 have k7 : ∀ j y, g6.get j = some y -> g7.get j = some y := fun j y hj => by
  have := zaa hw5 hj
  have p1 : j ≠ g6.next := by omega
  rw [hg7]; simp [p1, hj]
 have hr7 : g7.get g6.next = some (.cells (rpC [.nilptr, .ptr k 0, .ptr m 0, .sl (g4.next + 1 + 1) 0 1 1 1 true] gl 0 0 [.int .i64 0, .int .i64 0, .nilsl, .nilsl, .nilsl, .int .i64 d.lives, .bool false])) := by rw [hg7]; simp [rpC]
 have hc7 := k7 _ _ hc5
 have hp7 := k7 _ _ hp5
 have hk7 : DkAt g7 k (lgD d) := by
  obtain ⟨cs, z1, z2⟩ := hk5
  exact ⟨cs, z1, k7 _ _ z2⟩
 have hM7 : MacAt g7 m q pgL [0, 0, 0, 0] 0 false := ⟨k7 _ _ hM5.1, k7 _ _ hM5.2.1, hM5.2.2⟩
 have hL7 : LgAt g7 gl k lvl ⟨(all (d.f0.now.length + 1) 0 d.f0.now).1, (all (d.f0.now.length + 1) 0 d.f0.now).1.length, d.lives, false⟩ := ⟨k7 _ _ hL5.1, hL5.2.keep fun i op e => by
  rcases hL5.2 with ⟨h', _⟩ | ⟨i', op', vs, h', hg, _⟩
  · rw [h'] at e; cases e
  · rw [e] at h'; cases h'
    rw [hg, k7 _ _ hg]⟩
 have n7 : g7.next = g6.next + 1 := by rw [hg7]; rfl
 obtain ⟨r, hre⟩ : ∃ r, r = g6.next := ⟨_, rfl⟩
 rw [<- hre] at hr7 n7 ⊢
 have hlast : ∀ k', ko = some k' -> k'.last < 2 ^ 64 := fun k' e => (hsl k' (by rw [e])).1
 have hrec := records_does (G := G) (ko := ko) hr7 rfl hL7 (by omega) (fun i op e => by have := lv4 i op e; omega) (by simp only; omega) (fun b (hb : b ∈ (all (d.f0.now.length + 1) 0 d.f0.now).1) => by have := mem_lens hb; omega) (by simp only; omega) hlast
 rw [ek] at hrec
 clear hg7 hL5 hM5 hk5 hc5 hp5 k7
 refine zac hrec ?_
 rintro x g8 hx hw8 _
 simp only at hx
 obtain ⟨S, hS⟩ : ∃ S, S = rrecs ko (all (d.f0.now.length + 1) 0 d.f0.now).1 := ⟨_, rfl⟩
 rw [<- hS] at hx
 rcases S with _ | ⟨saved, last⟩
 · simp only [RcF] at hx
   subst hx
   simp
   have : rpo me n d = none := by unfold rpo; rw [<- hO]; simp only; rw [<- hS]
   simp [OpenR, this]
 obtain ⟨⟨sv, rfl, hsv⟩, hr8, k8⟩ := hx
 have svs : sv.scalar = true := by rcases hsv with ⟨rfl, _⟩ | ⟨vs, ts, rfl, _⟩ <;> rfl
 have svc : sv.cells = [sv] := by rcases hsv with ⟨rfl, _⟩ | ⟨vs, ts, rfl, _⟩ <;> rfl
 obtain ⟨sl1, sl2⟩ := rrecs_le (N := 262144) (M := 262144) hS.symm (fun k' e => (hsl k' (by rw [e])).2.1) (fun b hb => by have := mem_lens hb; omega) (by omega)
 have hc8 := k8 _ _ (by omega) hc7
 have hp8 := k8 _ _ (by omega) hp7
 have hk8 : DkAt g8 k (lgD d) := by
  obtain ⟨cs, z1, z2⟩ := hk7
  exact ⟨cs, z1, k8 _ _ (by omega) z2⟩
 have hM8 : MacAt g8 m q pgL [0, 0, 0, 0] 0 false := ⟨k8 _ _ (by omega) hM7.1, k8 _ _ (by omega) hM7.2.1, hM7.2.2⟩
 have hL8 : LgAt g8 gl k lvl ⟨(all (d.f0.now.length + 1) 0 d.f0.now).1, (all (d.f0.now.length + 1) 0 d.f0.now).1.length, d.lives, false⟩ := ⟨k8 _ _ (by omega) hL7.1, hL7.2.keep fun i op e => by
  rcases hL7.2 with ⟨h', _⟩ | ⟨i', op', vs, h', hg, _⟩
  · rw [h'] at e; cases e
  · have l4 := lv4 i op e
    rw [e] at h'; cases h'
    rw [hg, k8 _ _ (by omega) hg]⟩
 clear hc7 hp7 hk7 hM7 hL7 hr7 hrec
 simp [svs, svc]
 refine zac (coOpen_does h1 h2 h3 hsv (by omega) (fun b hb => by have := sl2 b hb; omega) _) ?_
 rintro x g9 hx hw9 _
 obtain ⟨C, hC⟩ : ∃ C, C = zaA me n ⟨0, 0, [], 0⟩ saved := ⟨_, rfl⟩
 rw [<- hC] at hx
 simp only [rpC] at hr8
 rcases C with _ | c0
 · obtain ⟨rfl, rfl⟩ := hx
   simp [hr8]
   have : rpo me n d = none := by unfold rpo; rw [<- hO]; simp only; rw [<- hS]; simp only; rw [<- hC]
   simp [OpenR, this]
 obtain ⟨ci, rfl, hci, ⟨cg, hcg, hCR⟩, k9⟩ := hx
 have hc9 := k9 _ _ hc8
 have hp9 := k9 _ _ hp8
 have hr9 := k9 _ _ hr8
 have hk9 : DkAt g9 k (lgD d) := by
  obtain ⟨cs, z1, z2⟩ := hk8
  exact ⟨cs, z1, k9 _ _ z2⟩
 have hM9 : MacAt g9 m q pgL [0, 0, 0, 0] 0 false := ⟨k9 _ _ hM8.1, k9 _ _ hM8.2.1, hM8.2.2⟩
 have hL9 : LgAt g9 gl k lvl ⟨(all (d.f0.now.length + 1) 0 d.f0.now).1, (all (d.f0.now.length + 1) 0 d.f0.now).1.length, d.lives, false⟩ := ⟨k9 _ _ hL8.1, hL8.2.keep fun i op e => by
  rcases hL8.2 with ⟨h', _⟩ | ⟨i', op', vs, h', hg, _⟩
  · rw [h'] at e; cases e
  · rw [e] at h'; cases h'
    rw [hg, k9 _ _ hg]⟩
 have n8 : r < g8.next := zaa hw8 hr8
 have o1 := zaa hw8 hp8
 have o2 := zaa hw8 hL8.1
 have o3 : k < g8.next := by obtain ⟨c, _, hc⟩ := hk8; exact zaa hw8 hc
 have o4 := zaa hw8 hM8.1
 have o5 := zaa hw8 hM8.2.1
 have o6 := zaa hw8 hc8
 clear hc8 hp8 hk8 hM8 hL8 hr8
 have hci9 : ci < g9.next := by obtain ⟨lv, hh, _⟩ := hCR; exact zaa hw9 hh
 have hcg9 : cg + 1 < g9.next := by obtain ⟨lv, _, _, _, hh, _⟩ := hCR; exact zaa hw9 hh
 have oki := opened_ok hC.symm (fun b hb => by have := sl2 b hb; omega) ⟨by simp [listed, fresh], by simp⟩
 obtain ⟨c, hc⟩ : ∃ c, c = (if n = 1 then { c0 with agreed := c0.list.length } else c0) := ⟨_, rfl⟩
 rw [<- hc] at hCR
 have okc : listed c.list = true /\ c.agreed <= c.list.length := by
  rw [hc]; split
  · exact ⟨oki.1, Nat.le_refl _⟩
  · exact oki
 have r4 : g4.next ≠ r := by omega
 have m9 : m ≠ r := by omega
 have q9 : q ≠ r := by omega
 have kr : k ≠ r := by omega
 have gr : gl ≠ r := by omega
 have pr : g4.next + 1 + 1 ≠ r := by omega
 have cir : ci ≠ r := by omega
 have set9 : ∀ (cs : List AV) j y, j ≠ r -> g9.get j = some y -> (g9.set r (.cells cs)).get j = some y := fun cs j y hj hy => by simp [hj, hy]
 rcases ko with _ | k'
 case' none =>
  have hrpo : rpo me n d = some (c, last, 0) := by unfold rpo; rw [<- hO]; simp only; rw [<- hS]; simp only; rw [<- hC]; simp only; rw [<- hc]
  simp [hr9]
  obtain ⟨g12, hg12⟩ : ∃ g12, g12 = g9.set r (.cells [.ptr ci 0, .ptr k 0, .ptr gl 0, .ptr m 0, .sl (g4.next + 1 + 1) 0 1 1 1 true, .int .u64 last, .int .i64 (lens (all (d.f0.now.length + 1) 0 d.f0.now).1), .int .i64 0, .int .i64 0, .nilsl, .nilsl, .nilsl, .int .i64 d.lives, .bool false]) := ⟨_, rfl⟩
  rw [<- hg12]
  obtain ⟨q', a', c', b1, b2, base, op, hM12, hbase, hr12, hq', k12, n12⟩ : ∃ (q' : Nat) (a' c' : Int) (b1 b2 : Bool) (base : Nat) (op : Bool), MacAt g12 m q' pgL (memI a' c' b1 b2) base op /\ (rpo me n d = some (c, last, base) /\ base <= c.agreed) /\
    g12.get r = some (.cells [.ptr ci 0, .ptr k 0, .ptr gl 0, .ptr m 0, .sl (g4.next + 1 + 1) 0 1 1 1 true, .int .u64 last, .int .i64 (lens (all (d.f0.now.length + 1) 0 d.f0.now).1), .int .i64 base, .int .i64 base, .nilsl, .nilsl, .nilsl, .int .i64 d.lives, .bool false]) /\ (q' = q \/ g9.next <= q') /\ (∀ j y, j ≠ r -> j ≠ m -> g9.get j = some y -> g12.get j = some y) /\ g9.next <= g12.next :=
   ⟨q, 0, 0, false, false, 0, false, by rw [hg12]; exact ⟨set9 _ _ _ m9 hM9.1, set9 _ _ _ q9 hM9.2.1, hM9.2.2⟩, ⟨hrpo, Nat.zero_le _⟩, by rw [hg12]; simp, .inl rfl, fun j y hj _ hy => by rw [hg12]; exact set9 _ _ _ hj hy, by rw [hg12]; simp⟩
 case' some =>
  have hs1 := (hsl k' rfl)
  obtain ⟨e2, e3⟩ := w5 k' rfl
  subst e2 e3
  simp [hr9]
  obtain ⟨g10, hg10⟩ : ∃ g10, g10 = g9.set r (.cells [.ptr ci 0, .ptr k 0, .ptr gl 0, .ptr m 0, .sl (g4.next + 1 + 1) 0 1 1 1 true, .int .u64 last, .int .i64 (lens (all (d.f0.now.length + 1) 0 d.f0.now).1), .int .i64 0, .int .i64 0, .nilsl, .nilsl, .nilsl, .int .i64 d.lives, .bool false]) := ⟨_, rfl⟩
  rw [<- hg10]
  refine aws_wf fun hw10 => ?_
  have hM10 : MacAt g10 m q pgL [0, 0, 0, 0] 0 false := by rw [hg10]; exact ⟨set9 _ _ _ m9 hM9.1, set9 _ _ _ q9 hM9.2.1, hM9.2.2⟩
  have hr10 : g10.get r = some (.cells [.ptr ci 0, .ptr k 0, .ptr gl 0, .ptr m 0, .sl (g4.next + 1 + 1) 0 1 1 1 true, .int .u64 last, .int .i64 (lens (all (d.f0.now.length + 1) 0 d.f0.now).1), .int .i64 0, .int .i64 0, .nilsl, .nilsl, .nilsl, .int .i64 d.lives, .bool false]) := by rw [hg10]; simp
  have hc10 : g10.get g4.next = some (.cells [.int .u64 u0, v1, .int .u64 k'.stepped, bV k'.state]) := by rw [hg10]; exact set9 _ _ _ r4 hc9
  have hld := load_does (G := G) hw10 hM10 e7 (BtA.bV k'.state) (by omega)
  obtain ⟨LL, hLL⟩ : ∃ LL, LL = loadI k'.state := ⟨_, rfl⟩
  rw [<- hLL] at hld
  have hrp1 := rpo_some hO.symm hS.symm hC.symm
  rw [<- hLL, <- hc] at hrp1
  rcases LL with _ | ⟨mv, t⟩
  · refine zaj [(2, 0)] zah (by kernel_rfl) ?_
    intro es hes
    simp [zaf, -zag, hc10]
    refine ⟨_, _, hld, Nat.le_refl _, ?_⟩
    refine ad_go (fun T' => T' 91 = .int .i64 3) (by simp) ?_
    rintro T1 t91
    simp [zaf, -zag, t91]
    refine ⟨by subst hes; exact ⟨by kernel_rfl, by kernel_rfl⟩, by simp [rds, heapF, hc10], ?_⟩
    have hrp1 : rpo me n d = none := hrp1
    simp [OpenR, hrp1]
  simp only at hld
  have hrp2 : rpo me n d = if t ≠ k'.stepped \/ c.agreed < k'.stepped then none else some (c, last, k'.stepped) := hrp1
  clear hrp1
  obtain ⟨q', g11, hld, hM11, hq', hn11, k11⟩ := hld
  obtain ⟨lk1, lk2, lk3, lk4⟩ := loadI_ok hLL.symm
  have hc11 := k11 _ _ (by omega) hc10
  have hr11 := k11 _ _ m9.symm hr10
  have hCR10 := hCR
  obtain ⟨lv, w11, w12, w13, w14, w15, w16⟩ := hCR10
  have w10 : g10.get ci = some (.cells (csC me n c lv [.bool false, .int .i64 0, .map cg, .map (cg + 1), .nilsl])) := by rw [hg10]; exact set9 _ _ _ cir w11
  have w11 := k11 ci _ (by omega) w10
  have wu : IntKind.u64.wrap (t : Int) = t := IntWalk.u64_in _ (by omega)
  by_cases ht : t = k'.stepped
  case neg =>
   have ht' : ¬ (t : Int) = k'.stepped := by omega
   have htb : ((t : Int) != (k'.stepped : Int)) = true := by rw [bne_iff_ne]; exact ht'
   refine zaj [(2, 0), (10, 4), (10, 8)] zah (by kernel_rfl) ?_
   intro es hes
   simp [zaf, -zag, hc10]
   refine ⟨_, _, hld, hn11, ?_⟩
   refine ad_go (fun T' => T' 91 = .int .i64 0 /\ T' 12 = .ptr m 0 /\ T' 15 = .ptr g4.next 0 /\ T' 17 = .ptr r 0) (by simp) ?_
   rintro T1 ⟨t91, t12, t15, t17⟩
   simp [zaf, -zag, t91, t12, t15, t17]
   refine ⟨_, _, ticks_does hM11, Nat.le_refl _, ?_⟩
   refine ad_go (fun T' => T' 93 = .bool false /\ T' 95 = .int .i64 t /\ T' 12 = .ptr m 0 /\ T' 15 = .ptr g4.next 0 /\ T' 17 = .ptr r 0) (by simp [t91, t12, t15, t17]) ?_
   rintro T2 ⟨t93, t95, t12, t15, t17⟩
   simp [zaf, -zag, t93, t95, t12, t15, t17, hc11, wu, htb]
   refine ⟨by subst hes; exact ⟨by kernel_rfl, by kernel_rfl⟩, by simp [rds, heapF, hc10, hc11], ?_⟩
   rw [if_pos (.inl ht)] at hrp2
   simp [OpenR, hrp2]
  subst ht
  have htb : ((k'.stepped : Int) != (k'.stepped : Int)) = false := by simp
  simp only [csC] at w11
  obtain ⟨li1, li2⟩ := listed_ok okc.1
  have vl : alen Tryz.prog 48 (entsV (c.list.take c.agreed)) = some (.int .i64 c.agreed) := by
   rw [(EnF.entsV _).alen (e := 62) (by simp), List.length_take, Nat.min_eq_left okc.2]
  have wa : IntKind.u64.wrap (c.agreed : Int) = c.agreed := IntWalk.u64_in _ (by omega)
  by_cases hgt : c.agreed < k'.stepped
  case' pos => have hgt' : (c.agreed : Int) < k'.stepped := by omega
  case' neg => have hgt' : ¬ (c.agreed : Int) < k'.stepped := by omega
  all_goals
   refine zaj [(2, 0), (10, 4), (10, 8), (15, 8), (15, 21), (19, 8)] zah (by kernel_rfl) ?_
   intro es hes
   simp [zaf, -zag, hc10]
   refine ⟨_, _, hld, hn11, ?_⟩
   refine ad_go (fun T' => T' 91 = .int .i64 0 /\ T' 12 = .ptr m 0 /\ T' 15 = .ptr g4.next 0 /\ T' 17 = .ptr r 0) (by simp) ?_
   rintro T1 ⟨t91, t12, t15, t17⟩
   simp [zaf, -zag, t91, t12, t15, t17]
   refine ⟨_, _, ticks_does hM11, Nat.le_refl _, ?_⟩
   refine ad_go (fun T' => T' 93 = .bool false /\ T' 95 = .int .i64 k'.stepped /\ T' 12 = .ptr m 0 /\ T' 15 = .ptr g4.next 0 /\ T' 17 = .ptr r 0) (by simp [t91, t12, t15, t17]) ?_
   rintro T2 ⟨t93, t95, t12, t15, t17⟩
   simp [zaf, -zag, t93, t95, t12, t15, t17, hc11, hr11, wu, htb]
   refine ⟨_, _, committed_does w11 w12 okc.2 (by omega) li2, Nat.le_refl _, ?_⟩
   refine ad_go (fun T' => T' 101 = .bool false /\ T' 103 = .int .u64 k'.stepped /\ T' 108 = entsV (c.list.take c.agreed) /\ T' 12 = .ptr m 0 /\ T' 15 = .ptr g4.next 0 /\ T' 17 = .ptr r 0) (by simp [t12, t15, t17]) ?_
   rintro T3 ⟨t101, t103, t108, t12, t15, t17⟩
   simp [zaf, -zag, t101, t103, t108, t12, t15, t17, vl, wa, hgt, hgt', -alen]
   refine ⟨by subst hes; exact ⟨by kernel_rfl, by kernel_rfl⟩, by simp [rds, heapF, hc10, hc11, hr11], ?_⟩
  rotate_left
  · rw [if_pos (.inr hgt)] at hrp2
    simp [OpenR, hrp2]
  rw [if_neg (by omega)] at hrp2
  have wi : IntKind.i64.wrap (k'.stepped : Int) = k'.stepped := IntWalk.i64_in _ (by omega)
  simp [hc11, hr11, wi, t12, t15, t17]
  obtain ⟨g12, hg12⟩ : ∃ g12, g12 = g11.set r (.cells [.ptr ci 0, .ptr k 0, .ptr gl 0, .ptr m 0, .sl (g4.next + 1 + 1) 0 1 1 1 true, .int .u64 last, .int .i64 (lens (all (d.f0.now.length + 1) 0 d.f0.now).1), .int .i64 k'.stepped, .int .i64 k'.stepped, .nilsl, .nilsl, .nilsl, .int .i64 d.lives, .bool false]) := ⟨_, rfl⟩
  rw [<- hg12]
  obtain ⟨a', c', b1, b2, rfl⟩ := memI_of lk4
  have n10 : g10.next = g9.next := by rw [hg10]; rfl
  have q11 : q' ≠ r := by omega
  obtain ⟨base, op, hM12, hbase, hr12, k12, n12⟩ : ∃ (base : Nat) (op : Bool), MacAt g12 m q' pgL (memI a' c' b1 b2) base op /\ (rpo me n d = some (c, last, base) /\ base <= c.agreed) /\
    g12.get r = some (.cells [.ptr ci 0, .ptr k 0, .ptr gl 0, .ptr m 0, .sl (g4.next + 1 + 1) 0 1 1 1 true, .int .u64 last, .int .i64 (lens (all (d.f0.now.length + 1) 0 d.f0.now).1), .int .i64 base, .int .i64 base, .nilsl, .nilsl, .nilsl, .int .i64 d.lives, .bool false]) /\ (∀ j y, j ≠ r -> j ≠ m -> g9.get j = some y -> g12.get j = some y) /\ g9.next <= g12.next :=
   ⟨k'.stepped, true, by rw [hg12]; exact ⟨by simp [m9, hM11.1], by simp [q11, hM11.2.1], hM11.2.2⟩, ⟨hrp2, by omega⟩, by rw [hg12]; simp, fun j y hj hj2 hy => by
    rw [hg12]
    simp only [AHeap.get_set, if_neg hj]
    exact k11 j y hj2 (by rw [hg10]; exact set9 _ _ _ hj hy), by rw [hg12]; simp only [AHeap.next_set]; omega⟩
  have hq' : q' = q \/ g9.next <= q' := .inr (by omega)
 all_goals
  refine zac (digest_does hM12) ?_
  rintro x g13 ⟨rfl, hg13⟩ hw13 _
  subst hg13
  obtain ⟨D, hD, hDl, hDs⟩ : ∃ D, digestV (memI a' c' b1 b2) base = .agg D /\ D.length = 32 /\ D.all AV.scalar = true := ⟨u8s (shaOf (stateB (memI a' c' b1 b2) base)), rfl, by simp [u8s, shaOf_len], by simp [u8s]⟩
  rw [hD]
  have rn : r ≠ g13.next := by omega
  simp [hDl, hDs, hr12, rn]
  try rw [t17]
  obtain ⟨g14, hg14⟩ : ∃ g14, g14 = (g13.push (.cells D)).set r (.cells [.ptr ci 0, .ptr k 0, .ptr gl 0, .ptr m 0, .sl (g4.next + 1 + 1) 0 1 1 1 true, .int .u64 last, .int .i64 (lens (all (d.f0.now.length + 1) 0 d.f0.now).1), .int .i64 base, .int .i64 base, .nilsl, .nilsl, .sl g13.next 0 32 1 1 false, .int .i64 d.lives, .bool false]) := ⟨_, rfl⟩
  rw [<- hg14]
  have k14 : ∀ j y, j ≠ r -> g13.get j = some y -> g14.get j = some y := fun j y hj hy => by
   have := zaa hw13 hy
   have p1 : j ≠ g13.next := by omega
   rw [hg14]; simp [hj, p1, hy]
  have hr14 : g14.get r = some (.cells (rpV ci (.ptr k 0) (.ptr gl 0) m (g4.next + 1 + 1) 1 true (.int .u64 last) (.int .i64 (lens (all (d.f0.now.length + 1) 0 d.f0.now).1)) (.int .i64 base) base .nilsl .nilsl (.sl g13.next 0 32 1 1 false) (.int .i64 d.lives) (.bool false))) := by rw [hg14]; simp [rpV]
  have hD14 : g14.get g13.next = some (.cells D) := by rw [hg14]; simp [rn.symm]
  have n14 : g14.next = g13.next + 1 := by rw [hg14]; rfl
  have qr' : q' ≠ r := by omega
  have hM14 : MacAt g14 m q' pgL (memI a' c' b1 b2) base op := ⟨k14 _ _ m9 hM12.1, k14 _ _ qr' hM12.2.1, hM12.2.2⟩
  have hm13 := zaa hw13 hM12.1
  have hq13 := zaa hw13 hM12.2.1
  have k94 : ∀ j y, j ≠ r -> j ≠ m -> g9.get j = some y -> g14.get j = some y := fun j y hj hj2 hy => k14 j y hj (k12 j y hj hj2 hy)
  have hSt : StAt g14 m q' op base 0 1 (fun x => g13.next <= x) .nilsl (.sl g13.next 0 32 1 1 false) :=
   ⟨a', c', b1, b2, [], D, fun _ => False, fun x => x = g13.next, hM14, .inl ⟨rfl, rfl, rfl⟩, .inr ⟨g13.next, 0, 1, false, [], [], rfl, rfl, by simpa using hD14, rfl, by rw [hDl], rfl, Nat.le_refl _⟩, fun x hx => hx.elim, fun x hx => by rw [hx]; exact Nat.le_refl _, fun x hx => hx.elim, by omega, by omega⟩
  obtain ⟨lv, v1, v2, v3, v4, v5, v6⟩ := hCR
  obtain ⟨li1, li2⟩ := listed_ok okc.1
  have hci14 := k94 ci _ cir (by omega) v1
  simp only [csC] at hci14
  refine zab (step_run hG hr14 hci14 v2 okc.2 li1 li2 (k94 _ _ pr (by omega) hp9) hSt hbase.2 (by omega) (by omega) (by omega) (by omega) (by omega) (by omega) pr (by omega) (by omega)) ?_
  rintro x h ⟨rfl, ov, dv, hrf, hSf, hkf⟩
  have kf : ∀ j y, j ≠ r -> j ≠ m -> j ≠ q' -> g9.get j = some y -> h.get j = some y := fun j y a b c' hy => by
   have := zaa hw9 hy
   exact hkf j y a b c' (by omega) (k94 j y a b hy)
  simp
  try rw [t17]
  unfold OpenR
  rw [hbase.1]
  simp only
  refine ⟨r, ci, cg, m, q', g4.next + 1 + 1, 1, true, op, ov, dv, gl, lvl, g13.next, rfl, hrf, ⟨lv, kf _ _ (by omega) (by omega) (by omega) v1, v2, kf _ _ (by omega) (by omega) (by omega) v3, kf _ _ (by omega) (by omega) (by omega) v4, v5, v6⟩, ?_, ⟨kf _ _ (by omega) (by omega) (by omega) hL9.1, hL9.2.keep fun i op e => ?_⟩, kf _ _ (by omega) (by omega) (by omega) hp9, ?_, by omega, by omega, by omega, by omega, by omega, by omega, fun i op e => ?_⟩
  · obtain ⟨cs, z1, z2⟩ := hk9
    exact ⟨cs, z1, kf _ _ (by omega) (by omega) (by omega) z2⟩
  · have l4 := lv4 i op e
    have l5 := hlvn i op e
    rcases hL9.2 with ⟨h', _⟩ | ⟨i', op', vs, h', hg, _⟩
    · rw [h'] at e; cases e
    · rw [e] at h'; cases h'
      rw [hg, kf _ _ (by omega) (by omega) (by omega) hg]
  · have e0 : 0 + (c.agreed - base) = c.agreed - base := by omega
    rw [e0] at hSf
    exact hSf.mono (fun x hx => by omega) (by omega) (by omega)
  · have l4 := lv4 i op e
    omega
theorem parse_view {me n : Nat} {b : Bs} {x : Rc} (h : parse me n b = some x) : x.view <= 1099511627776 := by
 unfold parse at h
 simp only at h
 split at h
 · cases h
 · split at h
   · cases h
   · split at h
     · rename_i hh
       cases h
       exact hh.2.2.1
     · cases h
theorem apply_view {c c' : Cs} {x : Rc} (h : apply c x = some c') (hc : c.view <= 1099511627776) (hx : x.view <= 1099511627776) : c'.view <= 1099511627776 := by
 unfold apply at h
 repeat' split at h
 all_goals first
  | (cases h; done)
  | (cases h; assumption)
theorem opened_view {me n : Nat} : ∀ {l : List Bs} {c c' : Cs}, zaA me n c l = some c' -> c.view <= 1099511627776 -> c'.view <= 1099511627776
 | [], c, c', h, hc => by simp only [zaA, Option.some.injEq] at h; subst h; exact hc
 | b :: l, c, c', h, hc => by
   simp only [zaA] at h
   split at h
   · cases h
   · rename_i x hx
     split at h
     · cases h
     · rename_i c1 h1
       exact opened_view h (apply_view h1 hc (parse_view hx))
theorem rpo_ok {me n : Nat} {d : Dk} {c : Cs} {last base : Nat} (h : rpo me n d = some (c, last, base)) (hok : dkOk d) : listed c.list = true /\ c.agreed <= c.list.length /\ c.view <= 1099511627776 := by
 unfold rpo at h
 split at h
 · cases h
 · rename_i ko hO
   split at h
   · cases h
   · rename_i saved last' hS
     split at h
     · cases h
     · rename_i c0 hC
       have z3 : d.f0.now.length <= 262144 := za7 hok 0
       have z4 : d.f1.now.length <= 262144 := za7 hok 1
       have z5 : d.f2.now.length <= 262144 := za7 hok 2
       obtain ⟨z1, z2⟩ := all_log d.f0.now
       obtain ⟨sl1, sl2⟩ := rrecs_le (N := 262144) (M := 262144) hS (fun k' e => (slots_le (by rw [hO, e]) (ckLast_le z4 z5)).2.1) (fun b hb => by have := mem_lens hb; omega) (by omega)
       have o1 := opened_ok hC (fun b hb => by have := sl2 b hb; omega) ⟨by simp [listed, fresh], by simp⟩
       have o2 := opened_view hC (by simp)
       have key : ∀ c' : Cs, c' = (if n = 1 then { c0 with agreed := c0.list.length } else c0) -> listed c'.list = true /\ c'.agreed <= c'.list.length /\ c'.view <= 1099511627776 := by
        intro c' e
        rw [e]; split
        · exact ⟨o1.1, Nat.le_refl _, o2⟩
        · exact ⟨o1.1, o1.2, o2⟩
       obtain ⟨cc, hcc⟩ : ∃ cc : Cs, cc = (if n = 1 then { c0 with agreed := c0.list.length } else c0) := ⟨_, rfl⟩
       have key := key cc hcc
       simp only [<- hcc] at h
       split at h
       · simp only [Option.some.injEq, Prod.mk.injEq] at h
         rw [<- h.1]; exact key
       · split at h
         · cases h
         · split at h
           · cases h
           · simp only [Option.some.injEq, Prod.mk.injEq] at h
             rw [<- h.1]; exact key
def StpAt (H : AHeap) (s : Nat) (l : List Bs) (b : Nat -> Prop) : Prop := ∃ vs sv, H.get s = some (.cells [sv, .nilsl]) /\ Gr H 1 l.length vs sv b /\ Bts vs l /\ ¬ b s
theorem StpAt.keep {H H' : AHeap} {s : Nat} {l : List Bs} {b : Nat -> Prop} (h : StpAt H s l b) (hk : ∀ j y, j = s \/ b j -> H.get j = some y -> H'.get j = some y) : StpAt H' s l b := by
 obtain ⟨vs, sv, h1, h2, h3, h4⟩ := h
 exact ⟨vs, sv, hk _ _ (.inl rfl) h1, h2.keep fun j x hj => hk j x (.inr hj), h3, h4⟩
theorem StpAt.mono {H : AHeap} {s : Nat} {l : List Bs} {b b' : Nat -> Prop} (h : StpAt H s l b) (hb : ∀ j, b j -> b' j) (hs : ¬ b' s) : StpAt H s l b' := by
 obtain ⟨vs, sv, h1, h2, h3, h4⟩ := h
 exact ⟨vs, sv, h1, h2.mono hb, h3, hs⟩
theorem save_does {H : AHeap} {i s me n : Nat} {cs : List AV} (hi : H.get i = some (.cells (.int .i64 me :: .int .i64 n :: cs))) (b1 : me < 2 ^ 62) (b2 : n < 2 ^ 62) {kind view : Nat} (b3 : kind < 2 ^ 64) (b4 : view < 2 ^ 64) {v : AV} {l : List En} (hv : EnF v l) (hl : l.length <= 1000) (he : ∀ e ∈ l, EnSm e)
  {L : List Bs} {b : Nat -> Prop} (hs : StpAt H s L b) (hL : L.length <= 1000) :
  Does Tryz.prog G 148 [.ptr i 0, .ptr s 0, .int .u64 kind, .int .u64 view, v] H fun r h => r = .tuple [] /\ StpAt h s (L ++ [zax me n kind view 0 0 l]) (fun x => b x \/ H.next <= x) /\ (∀ j y, j ≠ s -> ¬ b j -> H.get j = some y -> h.get j = some y) /\ H.next <= h.next := by
 refine Does.wf Tryz.call148 fun hw _ => ?_
 obtain ⟨vs, sv, h1, h2, h3, h4⟩ := hs
 have svs := h2.sc
 have svc := h2.cells
 have hsn := zaa hw h1
 have q1 : s ≠ H.next := by omega
 have hrec := record_does (G := G) hi b1 b2 b3 b4 (last := 0) (agreed := 0) (by decide) (by decide) hv hl he
 have evs := hv.sc
 have evc := hv.cells
 generalize zax me n kind view 0 0 l = R at *
 obtain ⟨v', eff, f1, f2, f3, f4⟩ := (h2.keep (H' := H.push (.cells [bV R])) fun x y hx hy => by
   have := zaa hw hy
   have : x ≠ H.next := by omega
   simp [this, hy]).app elemBs (m := 1) (x := .sl H.next 0 1 1 1 false) (news := [bV R]) (fun _ _ e => by cases e) rfl (by simp [zal]) (by simp) rfl (by omega) (by omega) (by omega) (by omega) (nx := H.next + 1) rfl
 simp only [AHeap.next_push] at f2 f3 f4
 have vs' := f2.sc
 have vc' := f2.cells
 refine zad Tryz.call148 Tryz.func148 rfl (by simp [Tryz.f148]) ?_
 simp
 refine zaj [(4, 0), (4, 10)] zah (by kernel_rfl) ?_
 intro es hes
 simp [zaf, -zag, h1, svs, svc, evs, evc]
 refine ⟨_, _, hrec, Nat.le_refl _, ?_⟩
 refine ad_go (fun T' => T' 10 = .ptr s 0 /\ T' 14 = sv /\ T' 19 = bV R) (by simp) ?_
 rintro T1 ⟨t10, t14, t19⟩
 simp [zaf, -zag, t10, t14, t19, h1, q1, -zan]
 rw [f1]
 generalize hH2 : H.push (.cells [bV R]) = H2 at *
 have hs2 : (H2.eff eff).get s = some (.cells [sv, .nilsl]) := by
  rw [f3 s h4 (by omega), <- hH2]
  simp [q1, h1]
 simp [zaf, -zag, t10, t14, t19, hs2, vs', vc']
 refine ⟨by subst hes; exact ⟨by kernel_rfl, by kernel_rfl⟩, by simp [rds, heapF, h1, svs, svc], ?_⟩
 refine ⟨⟨vs ++ [bV R], v', by simp, ?_, h3.snoc (BtA.bV R), fun hx => ?_⟩, fun j y hj hb hy => ?_, by omega⟩
 · rw [List.length_append]
   refine (f2.keep fun x y hx hy => ?_).mono fun x hx => ?_
   · have : x ≠ s := by
      rcases hx with hx | hx
      · exact fun e => h4 (e ▸ hx)
      · omega
     simp [this, hy]
   · rcases hx with hx | hx
     · exact .inl hx
     · exact .inr (by omega)
 · rcases hx with hx | hx
   · exact h4 hx
   · omega
 · have := zaa hw hy
   rw [if_neg hj, f3 j hb (by omega), <- hH2]
   have p1 : j ≠ H.next := by omega
   simp [p1, hy]
theorem take_more {H : AHeap} {i s me n view : Nat} {lv a5 a6 a7 a8 a9 a10 : AV} {l m : List En} (hi : H.get i = some (.cells [.int .i64 me, .int .i64 n, .int .u64 view, .int .u64 view, lv, a5, a6, a7, a8, a9, a10])) (b1 : me < 2 ^ 62) (b2 : n < 2 ^ 62) (hlv : EnF lv l)
  {w : AV} (hw' : EnF w (l ++ m)) (hl : (l ++ m).length <= 1000) (hm : 0 < m.length) (he : ∀ e ∈ l ++ m, EnSm e) (hbg : begins (l ++ m) l = true) {L : List Bs} {b : Nat -> Prop} (hs : StpAt H s L b) (hL : L.length <= 1000) (his : i ≠ s) (hib : ¬ b i) :
  Does Tryz.prog G 135 [.ptr i 0, .ptr s 0, .int .u64 view, w] H fun r h => r = .tuple [] /\ StpAt h s (L ++ [zax me n 3 0 0 0 m]) (fun x => b x \/ H.next <= x) /\ h.get i = some (.cells [.int .i64 me, .int .i64 n, .int .u64 view, .int .u64 view, w, a5, a6, a7, a8, a9, a10]) /\ (∀ j y, j ≠ i -> j ≠ s -> ¬ b j -> H.get j = some y -> h.get j = some y) /\ H.next <= h.next := by
 refine Does.wf Tryz.call135 fun hw _ => ?_
 have ls := hlv.sc
 have lc := hlv.cells
 have ws := hw'.sc
 have wc := hw'.cells
 have hll : l.length <= 1000 := by rw [List.length_append] at hl; omega
 have hml : m.length <= 1000 := by rw [List.length_append] at hl; omega
 have hal : alen Tryz.prog 48 lv = some (.int .i64 l.length) := hlv.alen (e := 62) (by simp)
 obtain ⟨ts, hwv⟩ := hw'.vsl (by rw [List.length_append]; omega)
 obtain ⟨u, hu, hsl⟩ : ∃ u, EnF u m /\ aslice Tryz.prog 48 w (some (.int .i64 l.length)) none none = some u := by
  refine ⟨.vsl (entsC m ++ ts) m.length, .inr ⟨ts, rfl⟩, ?_⟩
  rw [hwv]
  have e1 : (entsC (l ++ m) ++ ts).drop (l.length * 3) = entsC m ++ ts := by
   rw [zaM, List.append_assoc, List.drop_left' (zaV l)]
  have c1 : (l.length : Int) <= l.length + m.length := by omega
  simp [aslice, c1, hm, e1]
 have us := hu.sc
 have uc := hu.cells
 have ual : alen Tryz.prog 48 u = some (.int .i64 m.length) := hu.alen (e := 62) (by simp)
 have hm' : (0 : Int) < m.length := by omega
 refine zad Tryz.call135 Tryz.func135 rfl (by simp [Tryz.f135]) ?_
 simp [hi, ls, lc, ws, wc]
 refine zab (begins_does hw' hlv (by omega) (fun e h => by have := (he e h).2; omega) _) ?_
 rintro x h ⟨rfl, rfl⟩
 rw [hbg]
 simp [hi, ls, lc, ws, wc, hal, hsl, ual, hm', hm, us, uc, -alen, -aslice]
 refine zac (save_does hi b1 b2 (kind := 3) (view := 0) (by decide) (by decide) hu (by omega) (fun e h => he e (List.mem_append.2 (.inr h))) hs hL) ?_
 rintro x h2 ⟨rfl, g1, g2, g3⟩ hw2 _
 have hi2 := g2 _ _ his hib hi
 simp [hi2, ws, wc]
 refine ⟨?_, fun j y h1 h2' h3 hy => by rw [if_neg h1]; exact g2 _ _ h2' h3 hy, g3⟩
 refine g1.keep fun j y hj hy => ?_
 have : j ≠ i := by
  rcases hj with rfl | hj | hj
  · exact his.symm
  · exact fun e => hib (e ▸ hj)
  · have := zaa hw hi; omega
 simp [this, hy]
theorem sort1_raw (u : Int) : Does Tryz.prog G 150 [.sl 0 0 1 1 1 true] (AHeap.ofList [.cells [.int .u64 u]]) fun r H => r = .tuple [] /\ H = AHeap.ofList [.cells [.int .u64 u]] :=
 tick_does (ov := noOv) (fuel := 100000) (n := 300) mixedM plainM (noOv_good _ _) rfl (by kernel_rfl) (fun Q => by kernel_rfl)
theorem sort1_does (hG : ∀ g a, G g = some a -> a.idLt 0 = true) {H : AHeap} {p : Nat} {u : Int} (hp : H.get p = some (.cells [.int .u64 u])) : Does Tryz.prog G 150 [.sl p 0 1 1 1 true] H fun r h => r = .tuple [] /\ h = H := by
 have hpt := part_one hp (by rfl)
 have h1 := (sort1_raw (G := G) u).part (heapOk_wf (l := [.cells [.int .u64 u]]) rfl) (by rfl) hpt hG fun r H1 ⟨e1, e2⟩ => ⟨by rw [e2], by rw [e1]; rfl⟩
 refine Does.mono h1 ?_
 rintro r h ⟨r0, H1, ⟨rfl, rfl⟩, rfl, rfl⟩
 exact ⟨rfl, patch_same hpt⟩
theorem quorum_one {H : AHeap} {i : Nat} {a0 : AV} {cs : List AV} (hi : H.get i = some (.cells (a0 :: .int .i64 1 :: cs))) : Does Tryz.prog G 149 [.ptr i 0] H fun r h => r = .int .i64 1 /\ h = H := by
 refine zad Tryz.call149 Tryz.func149 rfl (by simp [Tryz.f149]) ?_
 simp [hi]
 try decide
theorem settle_one (hG : ∀ g a, G g = some a -> a.idLt 0 = true) {H : AHeap} {i hh ag x : Nat} {a2 a3 lv a6 a7 a8 a10 : AV} {l : List En} (hi : H.get i = some (.cells [.int .i64 0, .int .i64 1, a2, a3, lv, .int .i64 ag, a6, a7, a8, .map hh, a10])) (hm : H.get hh = some (.map [(.int .i64 0, .int .u64 x)]))
  (hlv : EnF lv l) (hl : l.length <= 1000) (hag : ag <= l.length) :
  Does Tryz.prog G 101 [.ptr i 0] H fun r h => r = .tuple [] /\ h.get i = some (.cells [.int .i64 0, .int .i64 1, a2, a3, lv, .int .i64 l.length, a6, a7, a8, .map hh, a10]) /\ h.get hh = some (.map [(.int .i64 0, .int .u64 l.length)]) /\ (∀ j y, j ≠ i -> j ≠ hh -> H.get j = some y -> h.get j = some y) /\ H.next <= h.next := by
 refine Does.wf Tryz.call101 fun hw _ => ?_
 have ls := hlv.sc
 have lc := hlv.cells
 have hal : alen Tryz.prog 48 lv = some (.int .i64 l.length) := hlv.alen (e := 62) (by simp)
 have wl : IntKind.u64.wrap (l.length : Int) = l.length := IntWalk.u64_in _ (by omega)
 have wi : IntKind.i64.wrap (l.length : Int) = l.length := IntWalk.i64_in _ (by omega)
 have ih : i ≠ hh := fun e => by rw [e, hm] at hi; cases hi
 have hin := zaa hw hi
 have hhn := zaa hw hm
 refine zad Tryz.call101 Tryz.func101 rfl (by simp [Tryz.f101]) ?_
 simp
 refine zaj [(3, 0), (7, 0), (11, 0)] zah (by kernel_rfl) ?_
 intro es hes
 simp [hi, hm, ls, lc, hal, wl, ih, -alen]
 refine ⟨by subst hes; exact ⟨by kernel_rfl, by kernel_rfl⟩, by simp [rds, heapF, hi, ls, lc], ?_⟩
 clear hes es
 obtain ⟨H1, hH1⟩ : ∃ H1, H1 = H.set hh (.map [(.int .i64 0, .int .u64 l.length)]) := ⟨_, rfl⟩
 rw [<- hH1]
 have hi1 : H1.get i = some (.cells [.int .i64 0, .int .i64 1, a2, a3, lv, .int .i64 ag, a6, a7, a8, .map hh, a10]) := by rw [hH1]; simp [ih, hi]
 have hm1 : H1.get hh = some (.map [(.int .i64 0, .int .u64 l.length)]) := by rw [hH1]; simp
 have k1 : ∀ j y, j ≠ i -> j ≠ hh -> H.get j = some y -> H1.get j = some y := fun j y a b hy => by rw [hH1]; simp [b, hy]
 have n1 : H1.next = H.next := by rw [hH1]; rfl
 clear hH1 hi hm
 have q1 : i ≠ H1.next := by omega
 have q2 : i ≠ H1.next + 1 := by omega
 have q3 : hh ≠ H1.next := by omega
 have q4 : hh ≠ H1.next + 1 := by omega
 refine zam (fun m T' H' => (m = 1 /\ H' = H1 /\ T' 2 = .nilsl /\ T' 24 = .int .i64 0 \/ m = 0 /\ H'.get i = H1.get i /\ H'.get hh = H1.get hh /\ (∀ j y, H1.get j = some y -> H'.get j = some y) /\ H1.next <= H'.next /\ (∃ p, T' 2 = .sl p 0 1 1 1 true /\ p ≠ i /\ H'.get p = some (.cells [.int .u64 l.length])) /\ T' 24 = .int .i64 1) /\ T' 0 = .ptr i 0 /\ T' 23 = .int .i64 1) 1 ?_ ?_
 · refine ⟨.inl ⟨rfl, rfl, ?_, ?_⟩, ?_, ?_⟩ <;> simp
 rintro m T H2 ⟨h, t0, t23⟩ hw2 _
 rcases h with ⟨rfl, rfl, t2, t24⟩ | ⟨rfl, g1, g2, g3, g4, ⟨p, t2, hpi, g5⟩, t24⟩
 · have wr : IntKind.i64.wrap (0 + 1) = 1 := rfl
   simp [t0, t2, t23, t24, hi1, hm1, wr]
   refine ⟨by simp [q1, q2], by simp [q3, q4], fun j y hj => ?_, by omega, by omega, by decide⟩
   have := zaa hw2 hj
   have p1 : j ≠ H2.next := by omega
   have p2 : j ≠ H2.next + 1 := by omega
   simp [p1, p2, hj]
 · have g1 := g1.trans hi1
   have g2 := g2.trans hm1
   simp [t0, t2, t23, t24]
   refine zab (quorum_one g1) ?_
   rintro r h ⟨rfl, rfl⟩
   simp [t2]
   refine zab (sort1_does hG g5) ?_
   rintro r h3 ⟨rfl, rfl⟩
   simp
   refine zaj [(4, 0), (4, 10), (12, 10), (16, 0), (16, 10)] zah (by kernel_rfl) ?_
   intro es hes
   simp [zaf, -zag, t0, t2, g1, ls, lc]
   refine ⟨_, _, quorum_one g1, Nat.le_refl _, ?_⟩
   refine ad_go (fun T' => T' 0 = .ptr i 0 /\ T' 49 = .ptr i 0 /\ T' 53 = .int .i64 ag /\ T' 54 = .sl p 0 1 1 1 true /\ T' 56 = .int .i64 1 /\ T' 58 = .int .i64 1) (by simp [t0, t2]) ?_
   rintro T1 ⟨b0, b49, b53, b54, b56, b58⟩
   have w0 : IntKind.i64.wrap (1 - 1) = 0 := rfl
   have w00 : IntKind.i64.wrap 0 = 0 := rfl
   have ca : (ag : Int) <= l.length := by omega
   simp [zaf, -zag, b0, b49, b53, b54, b56, b58, g1, g5, ls, lc, hal, wl, wi, w0, w00, -alen]
   refine ⟨by subst hes; exact ⟨by kernel_rfl, by kernel_rfl⟩, by simp [rds, heapF, g1, g5, ls, lc], by omega, by rw [if_neg ih.symm]; exact g2, fun j y a b hy => by rw [if_neg a]; exact g3 _ _ (k1 j y a b hy), by omega⟩
theorem lay_one {H : AHeap} {i s hh ag view : Nat} {a3 lv a6 a7 a8 a10 : AV} {l : List En} (hi : H.get i = some (.cells [.int .i64 0, .int .i64 1, .int .u64 view, a3, lv, .int .i64 ag, a6, a7, a8, .map hh, a10])) (hm : H.get hh = some (.map [(.int .i64 0, .int .u64 l.length)]))
  (hlv : EnF lv l) (hl : l.length <= 1000) (hag : ag <= l.length) :
  Does Tryz.prog G 136 [.ptr i 0, .ptr s 0] H fun r h => r = .tuple [] /\ (∀ j y, H.get j = some y -> h.get j = some y) /\ H.next <= h.next := by
 refine Does.wf Tryz.call136 fun hw _ => ?_
 have ls := hlv.sc
 have lc := hlv.cells
 have hal : alen Tryz.prog 48 lv = some (.int .i64 l.length) := hlv.alen (e := 62) (by simp)
 have wl : IntKind.u64.wrap (l.length : Int) = l.length := IntWalk.u64_in _ (by omega)
 have wa : IntKind.u64.wrap (ag : Int) = ag := IntWalk.u64_in _ (by omega)
 have hin := zaa hw hi
 have hhn := zaa hw hm
 have q1 : i ≠ H.next := by omega
 have q2 : hh ≠ H.next := by omega
 refine zad Tryz.call136 Tryz.func136 rfl (by simp [Tryz.f136]) ?_
 simp [hi]
 refine zam (fun m T' H' => (m = 1 /\ H' = H /\ T' 12 = .int .i64 0 \/ m = 0 /\ (∀ j y, H.get j = some y -> H'.get j = some y) /\ H.next <= H'.next /\ T' 12 = .int .i64 1) /\ T' 0 = .ptr i 0 /\ T' 1 = .ptr s 0 /\ T' 11 = .int .i64 1) 1 ?_ ?_
 · refine ⟨.inl ⟨rfl, rfl, ?_⟩, ?_, ?_, ?_⟩ <;> simp
 rintro m T H2 ⟨h, t0, t1, t11⟩ hw2 _
 rcases h with ⟨rfl, rfl, t12⟩ | ⟨rfl, g1, g2, t12⟩
 · have wr : IntKind.i64.wrap (0 + 1) = 1 := rfl
   simp [t0, t1, t11, t12]
   refine zaj [(4, 0), (10, 0)] zah (by kernel_rfl) ?_
   intro es hes
   simp [t0, t1, t11, t12, hi, ls, lc, hal, wl, wa, q1, q2, hm, -alen]
   refine ⟨by subst hes; exact ⟨by kernel_rfl, by kernel_rfl⟩, by simp [rds, heapF, hi, ls, lc], ?_⟩
   obtain ⟨H3, hH3⟩ : ∃ H3, H3 = H2.push (.cells [.int .i64 6, .int .i64 0, .int .i64 0, .int .u64 0, .int .u64 0, .int .u64 l.length, .int .u64 ag, .nilsl, .nilsl]) := ⟨_, rfl⟩
   rw [<- hH3]
   have k3 : ∀ j y, H2.get j = some y -> H3.get j = some y := fun j y hy => by
    have := zaa hw2 hy
    have p1 : j ≠ H2.next := by omega
    rw [hH3]; simp [p1, hy]
   have n3 : H2.next <= H3.next := by rw [hH3]; simp
   refine zab (send_self (k3 _ _ hi) (kind := 6) (frm := 0) (view' := 0) (last := 0) (op := l.length) (commit := ag) (ev := .nilsl) (bv := .nilsl) rfl rfl rfl rfl) ?_
   rintro r h4 ⟨rfl, rfl⟩
   simp [t0, t1, t11, t12, wr]
   exact ⟨k3, n3, rfl⟩
 · simp [t0, t1, t11, t12]
   exact ⟨g1, g2⟩
theorem wanted_one {H : AHeap} {i : Nat} {a0 a1 a2 a3 lv a5 a7 a8 a9 : AV} {l : List En} (k1 : H.get i = some (.cells [a0, a1, a2, a3, lv, a5, .bool true, a7, a8, a9, .nilsl])) (k4 : EnF lv l) (h1 : l.length <= 1000000) {e : En} (hm : may e = true) (hl : hasId l e.id = false) (he : e.l.length <= 1000000) :
  Does Tryz.prog G 85 [.ptr i 0, enV e (rowV e.row)] H fun r h => r = .bool true /\ ∃ p, H.next <= p /\ h.get i = some (.cells [a0, a1, a2, a3, lv, a5, .bool true, a7, a8, a9, .sl p 0 3 1 1 true]) /\ h.get p = some (.cells (entsC [e])) /\ (∀ j x, j ≠ i -> H.get j = some x -> h.get j = some x) /\ H.next <= h.next := by
 refine Does.wf Tryz.call85 fun hw _ => ?_
 refine zad Tryz.call85 Tryz.func85 rfl (by simp [Tryz.f85]) ?_
 have hin := zaa hw k1
 have q1 : i ≠ H.next := by omega
 have q2 : i ≠ H.next + 1 := by omega
 have q3 : i ≠ H.next + 1 + 1 := by omega
 have ls := k4.sc
 have lc := k4.cells
 have hv := RowA.rowV e.row
 have vs := hv.sc
 have vc := hv.cells
 simp [enV, vs, vc]
 refine zaj [(0, 0), (7, 2), (9, 2), (16, 11), (18, 11)] zah (by kernel_rfl) ?_
 intro es hes
 simp [zaf, -zag, k1, q1, q1.symm, vs, vc]
 refine ⟨_, _, may_does' hv _, Nat.le_refl _, ?_⟩
 refine ad_go (fun T' => T' 0 = .ptr i 0 /\ T' 3 = .ptr H.next 0 /\ T' 6 = .bool true) (by simp [hm]) ?_
 rintro T1 ⟨a0', a3', a6⟩
 simp [zaf, -zag, a0', a3', a6, k1, q1, q1.symm, vs, vc, ls, lc]
 refine ⟨_, _, has_does k4 h1 e.id _, Nat.le_refl _, ?_⟩
 refine ad_go (fun T' => T' 0 = .ptr i 0 /\ T' 3 = .ptr H.next 0 /\ T' 8 = .bool false /\ T' 15 = .bool false) (by simp [hl, a0', a3']) ?_
 rintro T2 ⟨a0', a3', a8', a15⟩
 simp [zaf, -zag, a0', a3', a8', a15, k1, q1, q1.symm, vs, vc]
 refine ⟨_, _, has_does (l := []) (.inl ⟨rfl, rfl⟩) (by simp) e.id _, Nat.le_refl _, ?_⟩
 refine ad_go (fun T' => T' 0 = .ptr i 0 /\ T' 3 = .ptr H.next 0 /\ T' 17 = .bool false /\ T' 24 = .bool false) (by simp [hl, a0', a3', hasId]) ?_
 rintro T3 ⟨a0', a3', a17, a24⟩
 simp [zaf, -zag, a0', a3', a17, a24]
 refine ⟨by subst hes; exact ⟨by kernel_rfl, by kernel_rfl⟩, by simp [rds, heapF, vs, vc, k1, q1, ls, lc], ?_⟩
 simp [a0', a3', k1, q1]
 refine zaj [(4, 0), (4, 7), (5, 0)] zah (by kernel_rfl) ?_
 intro es hes
 simp [zaf, -zag, a0', a3', k1, q1, vs, vc]
 refine ⟨_, _, copyEn_does hv (by omega) _, Nat.le_refl _, ?_⟩
 refine ad_go (fun T' => T' 0 = .ptr i 0 /\ T' 3 = .ptr H.next 0 /\ T' 40 = .ptr i 0 /\ T' 44 = .nilsl /\ T' 46 = enV e (rowV e.row)) (by simp [a0', a3']) ?_
 rintro T4 ⟨b0, b3, a40, a44, a46⟩
 simp [zaf, -zag, b0, b3, a40, a44, a46, enV, vs, vc, k1, q1, q2, q3]
 refine ⟨by subst hes; exact ⟨by kernel_rfl, by kernel_rfl⟩, by simp [rds, heapF, vs, vc, k1, q1, a3'], ?_⟩
 refine ⟨H.next + 1 + 1, by omega, rfl, ?_, fun j x hj hx => ?_, by omega⟩
 · rw [if_neg q3.symm]
   simp [entsC]
 · have := zaa hw hx
   have p1 : j ≠ H.next := by omega
   have p2 : j ≠ H.next + 1 := by omega
   have p3 : j ≠ H.next + 1 + 1 := by omega
   simp [hj, p1, p2, p3, hx]
def clipV (l : List En) : AV := if l.length = 0 then .nilsl else .csl (entsC l) l.length
theorem entsV_cons {l : List En} (h : 0 < l.length) : entsV l = .vsl (entsC l) l.length := by
 cases l with
 | nil => simp at h
 | cons a l => rfl
theorem clip_ents {l : List En} (hl : l.length <= 1000000) (H : AHeap) : Does Tryz.prog G 134 [entsV l] H fun r h => r = clipV l /\ h = H := by
 by_cases h0 : l.length = 0
 · rw [List.length_eq_zero_iff.1 h0]
   refine zad Tryz.call134 Tryz.func134 rfl (by simp [Tryz.f134]) ?_
   simp [entsV, clipV]
 · refine (clip_does (EnF.entsV l) hl H).mono ?_
   rintro r h ⟨⟨h1, _⟩ | ⟨h1, C, rfl, h3⟩, rfl⟩
   · rw [h1] at h0; simp at h0
   · rw [entsV_cons h1] at h3
     cases h3
     exact ⟨by unfold clipV; rw [if_neg h0], rfl⟩
theorem has_clip {l : List En} (hl : l.length <= 1000000) (id : Nat) (H : AHeap) : Does Tryz.prog G 87 [clipV l, .int .u64 id] H fun r h => r = .bool (hasId l id) /\ h = H := by
 unfold clipV
 split
 · rename_i h0
   rw [List.length_eq_zero_iff.1 h0]
   exact has_does (.inl ⟨rfl, rfl⟩) (by simp) id H
 · exact Go.Rp.Does.weak (has_does (v := .vsl (entsC l) l.length) (.inr ⟨[], by simp⟩) hl id H) fun E vs h => by
    cases h with | cons h1 h2 => exact .cons (csl_vsl h1) h2
theorem clip_app {l : List En} {e : En} {get : Nat -> Option AObj} {nx q : Nat} (hl : l.length <= 1000) (hq : get q = some (.cells (entsC [e]))) :
  zan Tryz.prog 48 48 get nx (clipV l) (.sl q 0 3 1 1 false) = some (.sl nx 0 3 (l.length + 1) (l.length + 1) true, .new (.cells (entsC (l ++ [e])))) := by
 unfold clipV
 have rs := (RowA.rowV e.row).sc
 split
 · rename_i h0
   rw [List.length_eq_zero_iff.1 h0]
   simp [zan, zal, zaq, hq, entsC, rs]
 · have k1 : (l.length + 1) * 40 <= 140737488355328 := by omega
   have k2 : l.length <= 4611686018427387903 := by omega
   have k3 := zaV l
   have k4 : l.length * 3 <= (entsC l).length := by omega
   have tk : (entsC l).take (l.length * 3) = entsC l := List.take_of_length_le (by omega)
   have e1 : entsC (l ++ [e]) = entsC l ++ entsC [e] := zaM _ _
   have ec : entsC [e] = [.int .u64 e.id, .int .u64 e.view, rowV e.row] := by simp [entsC]
   rw [e1, ec]
   rw [ec] at hq
   generalize entsC l = C at *
   simp [zan, zal, zaq, hq, k1, k2, k4, tk, rs]
def cL (l w : List En) : Co := ⟨0, 1, 1, 1, l, l.length, true, 0, [], [(0, l.length)], w⟩
theorem grow_led (hG : ∀ g a, G g = some a -> a.idLt 0 = true) {H : AHeap} {i s p g hh : Nat} {l : List En} {e : En} (k1 : H.get i = some (.cells (coC (cL l [e]) (entsV l) g hh (.sl p 0 3 1 1 true)))) (hm : H.get hh = some (.map [(.int .i64 0, .int .u64 l.length)])) (hp : H.get p = some (.cells (entsC [e])))
  (hid : hasId l e.id = false) (hl : l.length < 200) (hsm : ∀ x ∈ l ++ [e], EnSm x) (hbg : begins (l ++ [e]) l = true) {L : List Bs} {b : Nat -> Prop} (hs : StpAt H s L b) (hL : L.length <= 900) (his : i ≠ s) (hib : ¬ b i) (hhs : hh ≠ s) (hhb : ¬ b hh) :
  Does Tryz.prog G 81 [.ptr i 0, .ptr s 0] H fun r h => r = .tuple [] /\ h.get i = some (.cells (coC (cL (l ++ [e]) []) (entsV (l ++ [e])) g hh .nilsl)) /\ h.get hh = some (.map [(.int .i64 0, .int .u64 (l ++ [e]).length)]) /\ StpAt h s (L ++ [zax 0 1 3 0 0 0 [e]]) (fun x => b x \/ H.next <= x) /\
   (∀ j y, j ≠ i -> j ≠ hh -> j ≠ s -> ¬ b j -> H.get j = some y -> h.get j = some y) /\ H.next <= h.next := by
 refine Does.wf Tryz.call81 fun hw _ => ?_
 have hv := EnF.entsV l
 have ls := hv.sc
 have lc := hv.cells
 have hin := zaa hw k1
 have hpn := zaa hw hp
 have hcv : (clipV l).scalar = true /\ (clipV l).cells = [clipV l] /\ alen Tryz.prog 48 (clipV l) = some (.int .i64 l.length) := by
  unfold clipV
  split
  · rename_i h0
    simp [alen, h0]
  · simp [alen]
 obtain ⟨cs, cc, ca⟩ := hcv
 have rx := RowA.rowV e.row
 have rs := rx.sc
 have rc := rx.cells
 have ec : entsC [e] = [.int .u64 e.id, .int .u64 e.view, rowV e.row] := by simp [entsC]
 have hl' : (l.length : Int) < 200 := by omega
 refine zad Tryz.call81 Tryz.func81 rfl (by simp [Tryz.f81]) ?_
 have k1' := k1
 simp only [coC, cL] at k1'
 simp [k1', ls, lc]
 refine zab (clip_ents (by omega) _) ?_
 rintro x h ⟨rfl, rfl⟩
 simp [k1', ls, lc, cs, cc]
 refine aws_loopz (fun m T' H' => (m = 1 /\ H' = h /\ T' 4 = clipV l /\ T' 17 = .int .i64 0 \/ m = 0 /\ T' 4 = entsV (l ++ [e]) /\ (∀ j y, h.get j = some y -> H'.get j = some y) /\ h.next <= H'.next /\ T' 17 = .int .i64 1) /\ T' 0 = .ptr i 0 /\ T' 1 = .ptr s 0 /\ T' 15 = .sl p 0 3 1 1 true /\ T' 16 = .int .i64 1) 1 ?_ ?_
 · refine ⟨.inl ⟨rfl, rfl, ?_, ?_⟩, ?_, ?_, ?_, ?_⟩ <;> simp
 rintro m T H1 ⟨hx, t0, t1, t15, t16⟩ hw1 _
 rcases hx with ⟨rfl, rfl, t4, t17⟩ | ⟨rfl, t4, g1, g2, t17⟩
 · rw [ec] at hp
   simp [t0, t1, t4, t15, t16, t17, hp, rs, rc, ca, hl', cs, cc, -alen]
   refine zab (has_clip (by omega) e.id _) ?_
   rintro x h ⟨rfl, rfl⟩
   rw [hid]
   have q1 : H1.next ≠ H1.next + 1 := by omega
   have ap := clip_app (l := l) (e := e) (get := ((H1.push (.cells [.int .u64 e.id, .int .u64 e.view, rowV e.row])).push (.cells [.int .u64 e.id, .int .u64 e.view, rowV e.row])).get) (nx := H1.next + 1 + 1) (q := H1.next + 1) (by omega) (by rw [ec]; simp)
   simp [t0, t1, t4, t15, t16, t17, rs, rc, cs, cc, q1, -zan]
   rw [ap]
   simp [t0, t1, t4, t15, t16, t17]
   have hsn : s < H1.next := by obtain ⟨vs, sv, h1, _⟩ := hs; exact zaa hw1 h1
   have p1 : i ≠ H1.next + 1 + 1 := by omega
   have p2 : s ≠ H1.next + 1 + 1 := by omega
   have p3 : p ≠ H1.next + 1 + 1 := by omega
   have wr : IntKind.i64.wrap 1 = 1 := rfl
   have ln : (entsC (l ++ [e])).length = (l.length + 1) * 3 := by rw [zaV]; simp
   refine .inr ⟨H1.next + 1 + 1, entsC (l ++ [e]), by simp, ⟨?_, fun j y hj => frz_old1 hw1 (by omega) hj ?_, ?_, by simp [AV.frz, wr]⟩, by simp [AV.frz, p1], by simp [AV.frz, p2], by simp [AV.frz, p3], by simp [AV.frz]⟩
   · rw [entsV_cons (by simp)]
     simp [AV.frz, <- ln]
   · have := zaa hw1 hj
     have q1 : j ≠ H1.next := by omega
     have q2 : j ≠ H1.next + 1 := by omega
     have q3 : j ≠ H1.next + 1 + 1 := by omega
     simp [q1, q2, q3, hj]
   · simp [AHeap.frz]; omega
 · have k2 := g1 _ _ k1'
   have hv2 := EnF.entsV (l ++ [e])
   have al2 : alen Tryz.prog 48 (entsV (l ++ [e])) = some (.int .i64 (l.length + 1 : Nat)) := by
    rw [hv2.alen (e := 62) (by simp)]; simp
   have al1 : alen Tryz.prog 48 (entsV l) = some (.int .i64 l.length) := hv.alen (e := 62) (by simp)
   have c1 : (l.length : Int) < (l.length : Int) + 1 := by omega
   have ls2 := hv2.sc
   have lc2 := hv2.cells
   simp [t0, t1, t4, t15, t16, t17, k2, ls, lc, al1, al2, ls2, lc2, c1, -alen]
   obtain ⟨H2, hH2⟩ : ∃ H2, H2 = H1.set i (.cells [.int .i64 0, .int .i64 1, .int .u64 1, .int .u64 1, entsV l, .int .i64 l.length, .bool true, .int .i64 0, .map g, .map hh, .nilsl]) := ⟨_, rfl⟩
   rw [<- hH2]
   have ih : i ≠ hh := fun e => by rw [e, hm] at k1; cases k1
   have hi2 : H2.get i = some (.cells [.int .i64 0, .int .i64 1, .int .u64 1, .int .u64 1, entsV l, .int .i64 l.length, .bool true, .int .i64 0, .map g, .map hh, .nilsl]) := by rw [hH2]; simp
   have kk2 : ∀ j y, j ≠ i -> h.get j = some y -> H2.get j = some y := fun j y hj hy => by rw [hH2]; simp [hj, g1 j y hy]
   have n2 : h.next <= H2.next := by rw [hH2]; simp only [AHeap.next_set]; exact g2
   have hs2 : StpAt H2 s L b := hs.keep fun j y hj hy => kk2 j y (by
    rcases hj with rfl | hj
    · exact his.symm
    · exact fun e => hib (e ▸ hj)) hy
   refine zac (take_more (me := 0) (n := 1) (view := 1) (m := [e]) hi2 (by decide) (by decide) hv hv2 (by simp; omega) (by simp) hsm hbg hs2 (by omega) his hib) ?_
   rintro x H3 ⟨rfl, hs3, hi3, k3, n3⟩ hw3 _
   have hm3 := k3 _ _ ih.symm hhs hhb (kk2 _ _ ih.symm hm)
   simp [t0, t1]
   refine zac (settle_one hG hi3 hm3 hv2 (by simp; omega) (by simp)) ?_
   rintro x H4 ⟨rfl, hi4, hm4, k4, n4⟩ hw4 _
   simp [t0, t1]
   refine zac (lay_one (view := 1) hi4 hm4 hv2 (by simp; omega) (by simp)) ?_
   rintro x H5 ⟨rfl, k5, n5⟩ hw5 _
   simp
   refine ⟨by simpa [coC, cL] using k5 _ _ hi4, by simpa using k5 _ _ hm4, ?_, fun j y a1 a2 a3 a4 hy => k5 _ _ (k4 _ _ a1 a2 (k3 _ _ a1 a3 a4 (kk2 _ _ a1 hy))), by omega⟩
   have hin2 := zaa hw k1
   have hhn2 := zaa hw hm
   refine (hs3.keep fun j y hj hy => k5 _ _ (k4 _ _ ?_ ?_ hy)).mono (fun j hj => ?_) ?_
   · rcases hj with rfl | hj | hj
     · exact his.symm
     · exact fun e => hib (e ▸ hj)
     · omega
   · rcases hj with rfl | hj | hj
     · exact hhs.symm
     · exact fun e => hhb (e ▸ hj)
     · omega
   · rcases hj with hj | hj
     · exact .inl hj
     · exact .inr (by omega)
   · obtain ⟨vs, sv, h1, _, _, h4⟩ := hs
     have := zaa hw h1
     rintro (hj | hj)
     · exact h4 hj
     · omega
def core0 (lv : AV) (g hh : Nat) : List AV := [.int .i64 0, .int .i64 1, .int .u64 0, .int .u64 0, lv, .int .i64 0, .bool false, .int .i64 0, .map g, .map hh, .nilsl]
def bsV (l : List Nat) : List AV := l.map fun (b : Nat) => AV.int .u8 (b : Int)
def junk9 : List AV := bsV [0, 0, 0, 0, 0, 0, 0, 0, 0]
def objs0 : List AObj := [.cells [.int .i64 0, .int .i64 1, .int .u64 1, .int .u64 1, .nilsl, .int .i64 0, .bool true, .int .i64 0, .map 46, .map 5, .nilsl], .cells [.sl 45 0 1 2 2 true, .nilsl], .map [], .map [(.int .i64 0, .int .u64 0)],
 .cells [.sl 19 0 1 7 16 false, .sl 42 0 1 7 16 false], .cells (bsV [0, 1, 1, 1, 0, 0, 0] ++ junk9), .cells (bsV [0, 1, 2, 1, 0, 0, 0] ++ junk9)]
theorem begin_raw1 (Q : AV -> List (Option AObj) -> Bool) : heapK [.cells (core0 .nilsl 1 2), .map [], .map [], .cells [.nilsl, .nilsl]] FH.empty (fun H => fcall noOv Tryz.prog G 100000 300 82 [.ptr 0 0, .ptr 3 0] H fun v H' => Q v ([0, 3, 46, 5, 45, 19, 42].map H'.abs.get)) = Q (.tuple []) (objs0.map some) := by kernel_rfl
theorem encU_sm {u : Nat} (h : u < 128) : encU u = [UInt8.ofNat u] := by rw [encU, if_pos h]
theorem rec1 : bV (zax 0 1 1 1 0 0 []) = .vsl (bsV [0, 1, 1, 1, 0, 0, 0]) 7 := by
 simp only [zax, encU_sm (show 0 < 128 by decide), encU_sm (show 1 < 128 by decide), List.length_nil]
 rfl
theorem rec2 : bV (zax 0 1 2 1 0 0 []) = .vsl (bsV [0, 1, 2, 1, 0, 0, 0]) 7 := by
 simp only [zax, encU_sm (show 0 < 128 by decide), encU_sm (show 1 < 128 by decide), encU_sm (show 2 < 128 by decide), List.length_nil]
 rfl
def BegR (H : AHeap) (i s g hh : Nat) (h : AHeap) : Prop := ∃ g' h' q, H.next <= g' /\ H.next <= h' /\ H.next <= q /\ q ≠ g' /\ q ≠ h' /\ h.get i = some (.cells (coC (cL [] []) .nilsl g' h' .nilsl)) /\ h.get g' = some (.map []) /\ h.get h' = some (.map [(.int .i64 0, .int .u64 0)]) /\
 StpAt h s [zax 0 1 1 1 0 0 [], zax 0 1 2 1 0 0 []] (fun x => x = q) /\ (∀ j y, j ≠ i -> j ≠ s -> j ≠ g -> j ≠ hh -> H.get j = some y -> h.get j = some y) /\ H.next <= h.next
theorem begin_does (hG : ∀ g a, G g = some a -> a.idLt 0 = true) {H : AHeap} {i s g hh : Nat} (hi : H.get i = some (.cells (core0 .nilsl g hh))) (hg : H.get g = some (.map [])) (hgg : H.get hh = some (.map [])) (hs : H.get s = some (.cells [.nilsl, .nilsl])) (gh : g ≠ hh) :
  Does Tryz.prog G 82 [.ptr i 0, .ptr s 0] H fun r h => r = .tuple [] /\ BegR H i s g hh h := by
 refine Does.wfs fun hw _ => ?_
 have hin := zaa hw hi
 have hsn := zaa hw hs
 have ig : i ≠ g := fun e => by rw [e, hg] at hi; cases hi
 have ihh : i ≠ hh := fun e => by rw [e, hgg] at hi; cases hi
 have is_ : i ≠ s := fun e => by rw [e, hs] at hi; simp [core0] at hi
 have sg : s ≠ g := fun e => by rw [e, hg] at hs; cases hs
 have sh : s ≠ hh := fun e => by rw [e, hgg] at hs; cases hs
 obtain ⟨ρ, hρ⟩ : ∃ ρ : Nat -> Nat, ρ = fun k => match k with | 0 => i | 1 => g | 2 => hh | _ => s := ⟨_, rfl⟩
 have e0 : ρ 0 = i := by subst hρ; rfl
 have e1 : ρ 1 = g := by subst hρ; rfl
 have e2 : ρ 2 = hh := by subst hρ; rfl
 have e3 : ρ 3 = s := by subst hρ; rfl
 have hinj : ∀ a b, a < 4 -> b < 4 -> ρ a = ρ b -> a = b := by
  intro a b ha hb e
  have ca : a = 0 \/ a = 1 \/ a = 2 \/ a = 3 := by omega
  have cb : b = 0 \/ b = 1 \/ b = 2 \/ b = 3 := by omega
  rcases ca with rfl | rfl | rfl | rfl <;> rcases cb with rfl | rfl | rfl | rfl <;> first | rfl | (simp only [e0, e1, e2, e3] at e; omega)
 have hpt : IsPart (AHeap.ofList [.cells (core0 .nilsl 1 2), .map [], .map [], .cells [.nilsl, .nilsl]]) ρ H := by
  refine ⟨fun k hk => ?_, fun a b ha hb => hinj a b ha hb⟩
  have hk : k < 4 := hk
  have ca : k = 0 \/ k = 1 \/ k = 2 \/ k = 3 := by omega
  rcases ca with rfl | rfl | rfl | rfl
  · refine ⟨_, rfl, ?_⟩
    rw [e0, hi]
    simp [core0, AObj.ren, AV.rens, AV.ren, e1, e2]
  · exact ⟨_, rfl, by rw [e1, hg]; rfl⟩
  · exact ⟨_, rfl, by rw [e2, hgg]; rfl⟩
  · exact ⟨_, rfl, by rw [e3, hs]; rfl⟩
 have hd := part_new (G := G) mixedM plainM (noOv_good _ _) hG (by kernel_rfl) (by kernel_rfl) (by rfl) (begin_raw1 (G := G)) hpt
 have ra : AV.rens ρ [.ptr 0 0, .ptr 3 0] = [.ptr i 0, .ptr s 0] := by simp [AV.rens, AV.ren, e0, e3]
 rw [ra] at hd
 have rn : ∀ k, 4 <= k -> zas ρ 4 H.next k = H.next + (k - 4) := fun k hk => by unfold zas; rw [if_neg (by omega)]
 have r0 : zas ρ 4 H.next 0 = i := by unfold zas; rw [if_pos (by omega), e0]
 have r3 : zas ρ 4 H.next 3 = s := by unfold zas; rw [if_pos (by omega), e3]
 -- as the call leaves it
 have hd1 : Does Tryz.prog G 82 [.ptr i 0, .ptr s 0] H fun r h => r = .tuple [] /\ h.get i = some (.cells (coC (cL [] []) .nilsl (H.next + 42) (H.next + 1) .nilsl)) /\ h.get s = some (.cells [.sl (H.next + 41) 0 1 2 2 true, .nilsl]) /\ h.get (H.next + 42) = some (.map []) /\ h.get (H.next + 1) = some (.map [(.int .i64 0, .int .u64 0)]) /\
   h.get (H.next + 41) = some (.cells [.sl (H.next + 15) 0 1 7 16 false, .sl (H.next + 38) 0 1 7 16 false]) /\ h.get (H.next + 15) = some (.cells (bsV [0, 1, 1, 1, 0, 0, 0] ++ junk9)) /\ h.get (H.next + 38) = some (.cells (bsV [0, 1, 2, 1, 0, 0, 0] ++ junk9)) /\ (∀ j y, j ≠ i -> j ≠ s -> j ≠ g -> j ≠ hh -> H.get j = some y -> h.get j = some y) /\ H.next <= h.next := by
  refine hd.mono ?_
  rintro x h ⟨rfl, f1, f2, f3⟩
  have l4 : ([.cells (core0 .nilsl 1 2), .map [], .map [], .cells [.nilsl, .nilsl]] : List AObj).length = 4 := rfl
  rw [l4] at f1
  have g0 := f1 0 (by decide)
  have g1 := f1 1 (by decide)
  have g2 : h.get (zas ρ 4 H.next 46) = some (.map []) := f1 2 (by decide)
  have g3 : h.get (zas ρ 4 H.next 5) = some (.map [(.int .i64 0, .int .u64 0)]) := f1 3 (by decide)
  have g4 := f1 4 (by decide)
  have g5 : h.get (zas ρ 4 H.next 19) = some (.cells (bsV [0, 1, 1, 1, 0, 0, 0] ++ junk9)) := f1 5 (by decide)
  have g6 : h.get (zas ρ 4 H.next 42) = some (.cells (bsV [0, 1, 2, 1, 0, 0, 0] ++ junk9)) := f1 6 (by decide)
  simp [objs0, AObj.ren, AV.rens, AV.ren, rn, r0, r3] at g0 g1 g4
  rw [rn _ (by omega)] at g2 g3 g5 g6
  refine ⟨rfl, by simpa [coC, cL] using g0, g1, g2, g3, g4, g5, g6, fun j y a1 a2 a3 a4 hy => f2 j y (fun k hk => ?_) hy, f3⟩
  have hk : k < 4 := hk
  have ca : k = 0 \/ k = 1 \/ k = 2 \/ k = 3 := by omega
  rcases ca with rfl | rfl | rfl | rfl
  · rw [e0]; exact a1.symm
  · rw [e1]; exact a3.symm
  · rw [e2]; exact a4.symm
  · rw [e3]; exact a2.symm
 clear hd
 -- both texts are taken as frozen
 refine Does.frz1 (Does.frz1 hd1 (R' := fun r h => r = .tuple [] /\ h.get i = some (.cells (coC (cL [] []) .nilsl (H.next + 42) (H.next + 1) .nilsl)) /\ h.get s = some (.cells [.sl (H.next + 41) 0 1 2 2 true, .nilsl]) /\ h.get (H.next + 42) = some (.map []) /\ h.get (H.next + 1) = some (.map [(.int .i64 0, .int .u64 0)]) /\
   h.get (H.next + 41) = some (.cells [bV (zax 0 1 1 1 0 0 []), .sl (H.next + 38) 0 1 7 16 false]) /\ h.get (H.next + 38) = some (.cells (bsV [0, 1, 2, 1, 0, 0, 0] ++ junk9)) /\ (∀ j y, j ≠ i -> j ≠ s -> j ≠ g -> j ≠ hh -> H.get j = some y -> h.get j = some y) /\ H.next <= h.next) ?_) ?_
 · rintro hw1 _ r h ⟨rfl, f0, f1, f2, f3, f4, f5, f6, f7, f8⟩
   refine ⟨H.next + 15, _, by omega, f5, rfl, ?_, ?_, ?_, ?_, ?_, ?_, fun j y a1 a2 a3 a4 hy => frz_old1 hw (by omega) hy (f7 j y a1 a2 a3 a4 hy), by simp only [AHeap.frz]; exact f8⟩
   · rw [zaH f0 (by omega)]; rfl
   · rw [zaH f1 (by omega)]
     have : H.next + 41 ≠ H.next + 15 := by omega
     simp [AV.frzs, AV.frz, this]
   · simp [AHeap.frz, f2]
   · simp [AHeap.frz, f3, AV.frz]
   · rw [zaH f4 (by omega)]
     have : H.next + 38 ≠ H.next + 15 := by omega
     rw [rec1]
     simp only [AV.frzs, AV.frz, if_true, if_neg this]
     rfl
   · rw [zaH f6 (by omega)]; rfl
 · rintro hw1 _ r h ⟨rfl, f0, f1, f2, f3, f4, f6, f7, f8⟩
   refine ⟨H.next + 38, _, by omega, f6, rfl, H.next + 42, H.next + 1, H.next + 41, by omega, by omega, by omega, by omega, by omega, ?_, ?_, ?_, ⟨[bV (zax 0 1 1 1 0 0 []), bV (zax 0 1 2 1 0 0 [])], .sl (H.next + 41) 0 1 2 2 true, ?_, .inr ⟨H.next + 41, 0, 2, true, [], [], rfl, rfl, ?_, rfl, rfl, rfl, Nat.le_refl _⟩, .cons (.bV _) (.cons (.bV _) .nil), by omega⟩, fun j y a1 a2 a3 a4 hy => frz_old1 hw (by omega) hy (f7 j y a1 a2 a3 a4 hy), by simp only [AHeap.frz]; exact f8⟩
   · rw [zaH f0 (by omega)]; rfl
   · simp [AHeap.frz, f2]
   · simp [AHeap.frz, f3, AV.frz]
   · rw [zaH f1 (by omega)]
     have : H.next + 41 ≠ H.next + 38 := by omega
     simp [AV.frzs, AV.frz, this]
   · rw [zaH f4 (by omega)]
     rw [rec1, rec2]
     simp only [AV.frzs, AV.frz, if_true]
     rfl
def Led (H : AHeap) (i g hh : Nat) (l : List En) : Prop := H.get i = some (.cells (coC (cL l []) (entsV l) g hh .nilsl)) /\ H.get g = some (.map []) /\ H.get hh = some (.map [(.int .i64 0, .int .u64 l.length)])
def Fre (H : AHeap) (i g hh : Nat) : Prop := H.get i = some (.cells (core0 .nilsl g hh)) /\ H.get g = some (.map []) /\ H.get hh = some (.map []) /\ g ≠ hh
def saves (fst : Bool) (e : En) : List Bs := (if fst = true then [zax 0 1 1 1 0 0 [], zax 0 1 2 1 0 0 []] else []) ++ [zax 0 1 3 0 0 0 [e]]
def SubR (H : AHeap) (i g hh : Nat) (fst : Bool) (l : List En) (e : En) (r : AV) (h : AHeap) : Prop := ∃ sv vs g' h', r = .agg [sv, .nilsl] /\ Gr h 1 (saves fst e).length vs sv (fun x => H.next <= x) /\ Bts vs (saves fst e) /\ Led h i g' h' (l ++ [e]) /\ (g' = g \/ H.next <= g') /\ (h' = hh \/ H.next <= h') /\
 (∀ j y, j ≠ i -> j ≠ g -> j ≠ hh -> H.get j = some y -> h.get j = some y) /\ H.next <= h.next
theorem coSubmit_one (hG : ∀ g a, G g = some a -> a.idLt 0 = true) {H : AHeap} {i g hh : Nat} {fst : Bool} {l : List En} (hc : if fst = true then Fre H i g hh /\ l = [] else Led H i g hh l) {id : Nat} {v : AV} {row : Option (List Int)} (hv : RowA v row) (hsm : ∀ x ∈ l ++ [⟨id, 0, row⟩], EnSm x) (hm : may ⟨id, 0, row⟩ = true)
  (hid : hasId l id = false) (hl : l.length < 200) (hbg : begins (l ++ [⟨id, 0, row⟩]) l = true) :
  Does Tryz.prog G 46 [.ptr i 0, .int .u64 id, v] H (SubR H i g hh fst l ⟨id, 0, row⟩) := by
 refine Does.wf Tryz.call46 fun hw _ => ?_
 have hre : (row.getD []).length <= 64 := (hsm ⟨id, 0, row⟩ (by simp)).2
 have rx := RowA.rowV row
 have rs := rx.sc
 have rc := rx.cells
 refine zad Tryz.call46 Tryz.func46 rfl (by simp [Tryz.f46]) ?_
 simp
 refine zab (cloneRow_does hv (by omega) _) ?_
 rintro r h0 ⟨rfl, hh0⟩
 subst hh0
 obtain ⟨H1, hH1⟩ : ∃ H1, H1 = (((H.push (.cells [.nilsl, .nilsl])).push (.cells [.nilsl, .nilsl])).push (.cells [.int .u64 0, .int .u64 0, .nilsl])).set (H.next + 1 + 1) (.cells [.int .u64 id, .int .u64 0, rowV row]) := ⟨_, rfl⟩
 have k1 : ∀ j y, H.get j = some y -> H1.get j = some y := fun j y hy => by
  have := zaa hw hy
  have p1 : j ≠ H.next := by omega
  have p2 : j ≠ H.next + 1 := by omega
  have p3 : j ≠ H.next + 1 + 1 := by omega
  rw [hH1]; simp [p1, p2, p3, hy]
 have n1 : H1.next = H.next + 1 + 1 + 1 := by rw [hH1]; rfl
 have s1 : H1.get (H.next + 1) = some (.cells [.nilsl, .nilsl]) := by
  have : H.next + 1 ≠ H.next + 1 + 1 := by omega
  rw [hH1]; simp [this]
 have r1 : H1.get H.next = some (.cells [.nilsl, .nilsl]) := by
  have p2 : H.next ≠ H.next + 1 := by omega
  have p3 : H.next ≠ H.next + 1 + 1 := by omega
  rw [hH1]; simp [p2, p3]
 have e1 : H1.get (H.next + 1 + 1) = some (.cells [.int .u64 id, .int .u64 0, rowV row]) := by rw [hH1]; simp
 have hin : i < H.next := by
  cases fst with
  | true => exact zaa hw hc.1.1
  | false => exact zaa hw hc.1
 have hgn : g < H.next /\ hh < H.next := by
  cases fst with
  | true => exact ⟨zaa hw hc.1.2.1, zaa hw hc.1.2.2.1⟩
  | false => exact ⟨zaa hw hc.2.1, zaa hw hc.2.2⟩
 obtain ⟨hgn, hhn⟩ := hgn
 have lt1 : ∀ j y, H1.get j = some y -> j < H1.next := fun j y hy => by
  by_cases e : j = H.next + 1 + 1
  · omega
  · rw [hH1] at hy
    simp only [AHeap.get_set, if_neg e] at hy
    have := push_lt (push_lt (push_lt (fun j x => zaa hw) _) _) _ _ _ hy
    simp only [AHeap.next_push] at this
    omega
 have qi0 : i ≠ H.next := by omega
 have qi : i ≠ H.next + 1 := by omega
 have qi2 : i ≠ H.next + 1 + 1 := by omega
 have ha : hasId [] id = false := rfl
 cases fst
 case' false =>
  obtain ⟨c1, c2, c3⟩ := hc
  have c1' := c1
  simp only [coC, cL] at c1'
  simp [rs, rc, c1', qi0, qi, qi2]
  rw [<- hH1]
  obtain ⟨H2, hH2⟩ : ∃ H2, H2 = H1 := ⟨_, rfl⟩
  rw [<- hH2]
  obtain ⟨g', h', S0, q, dq0, dq1, dq2, dq3, dS0, d1, d2, d3, d4, d5, d6, d7, d8, dS⟩ : ∃ g' h' S0 q, H1.next <= q /\ q ≠ i /\ q ≠ g' /\ q ≠ h' /\ S0.length <= 2 /\ H2.get i = some (.cells (coC (cL l []) (entsV l) g' h' .nilsl)) /\ H2.get g' = some (.map []) /\ H2.get h' = some (.map [(.int .i64 0, .int .u64 l.length)]) /\ StpAt H2 (H.next + 1) S0 (fun x => x = q) /\ (g' = g \/ H.next <= g') /\ (h' = hh \/ H.next <= h') /\
    (∀ j y, j ≠ i -> j ≠ g -> j ≠ hh -> j ≠ H.next + 1 -> H1.get j = some y -> H2.get j = some y) /\ H1.next <= H2.next /\ saves false ⟨id, 0, row⟩ = S0 ++ [zax 0 1 3 0 0 0 [⟨id, 0, row⟩]] /\ (g' ≠ H.next /\ g' ≠ H.next + 1) /\ (h' ≠ H.next /\ h' ≠ H.next + 1) := by
   have q1 := zaa hw c2
   have q2 := zaa hw c3
   rw [hH2]
   exact ⟨g, hh, [], H1.next, Nat.le_refl _, by omega, by omega, by omega, by simp, k1 _ _ c1, k1 _ _ c2, k1 _ _ c3, ⟨[], .nilsl, s1, .inl ⟨rfl, rfl, rfl⟩, .nil, by omega⟩, .inl rfl, .inl rfl, fun j y _ _ _ _ hy => hy, Nat.le_refl _, rfl, by omega, by omega⟩
 case' true =>
  obtain ⟨⟨c1, c2, c3, c4⟩, rfl⟩ := hc
  have c1' := c1
  simp only [core0] at c1'
  simp [rs, rc, c1', qi0, qi, qi2]
  rw [<- hH1]
  refine zac (begin_does hG (k1 _ _ c1) (k1 _ _ c2) (k1 _ _ c3) s1 c4) ?_
  rintro x H2 ⟨rfl, g', h', q, f1, f2, dq0, dq2, dq3, f3, f4, f5, f6, f7, f8⟩ hw2 _
  have e2 := f7 _ _ (by omega) (by omega) (by have := zaa hw c2; omega) (by have := zaa hw c3; omega) e1
  obtain ⟨S0, d1, d2, d3, d4, d5, d6, d7, d8, dS⟩ : ∃ S0, H2.get i = some (.cells (coC (cL [] []) (entsV []) g' h' .nilsl)) /\ H2.get g' = some (.map []) /\ H2.get h' = some (.map [(.int .i64 0, .int .u64 ([] : List En).length)]) /\ StpAt H2 (H.next + 1) S0 (fun x => x = q) /\ (g' = g \/ H.next <= g') /\ (h' = hh \/ H.next <= h') /\
    (∀ j y, j ≠ i -> j ≠ g -> j ≠ hh -> j ≠ H.next + 1 -> H1.get j = some y -> H2.get j = some y) /\ H1.next <= H2.next /\ saves true ⟨id, 0, row⟩ = S0 ++ [zax 0 1 3 0 0 0 [⟨id, 0, row⟩]] /\ (g' ≠ H.next /\ g' ≠ H.next + 1) /\ (h' ≠ H.next /\ h' ≠ H.next + 1) :=
   ⟨_, f3, f4, f5, f6, .inr (by omega), .inr (by omega), fun j y a1 a2 a3 a4 hy => f7 j y a1 a4 a2 a3 hy, f8, rfl, by omega, by omega⟩
  simp [e2, rs, rc]
  have dq1 : q ≠ i := by omega
  have dS0 : S0.length <= 2 := by
   have := congrArg List.length dS.1
   simp [saves] at this
   omega
 all_goals
  obtain ⟨dS, ⟨dg0, dg1⟩, dh0, dh1⟩ := dS
  have gi : g' ≠ i := fun e => by rw [e, d1] at d2; cases d2
  have hi : h' ≠ i := fun e => by rw [e, d1] at d3; cases d3
  refine zac (wanted_one (e := ⟨id, 0, row⟩) d1 (EnF.entsV _) (by first | omega | simp) hm hid (by show (row.getD []).length <= 1000000; omega)) ?_
  rintro x H3 ⟨rfl, p, hp, w1, w2, w3, w4⟩ hw3 _
  simp
  refine zac (grow_led hG w1 (w3 _ _ hi d3) w2 hid hl hsm hbg (d4.keep fun j y hj hy => w3 j y (by rcases hj with rfl | rfl <;> omega) hy) (by omega) qi (by omega) dh1 (by omega)) ?_
  rintro x H4 ⟨rfl, u1, u2, ⟨vs, sv, u3, u4, u5, u6⟩, u7, u8⟩ hw4 _
  have us := u4.sc
  have uc := u4.cells
  have lt0 : H.next < H4.next := by omega
  have keep : ∀ j y, j ≠ i -> j ≠ g -> j ≠ hh -> j ≠ H.next + 1 -> j ≠ h' -> H1.get j = some y -> H4.get j = some y := fun j y a1 a2 a3 a4 a5 hy => u7 j y a1 a5 a4 (fun e => by
   have := lt1 j y hy
   omega) (w3 _ _ a1 (d7 j y a1 a2 a3 a4 hy))
  have r4 := keep _ _ (by omega) (by omega) (by omega) (by omega) (by omega) r1
  have sn : H.next ≠ H.next + 1 := by omega
  simp [u3, us, uc, r4]
  have old : ∀ j y, j ≠ H.next -> H4.get j = some y -> (H4.set H.next (.cells [sv, .nilsl])).get j = some y := fun j y hj hy => by simp [hj, hy]
  refine ⟨sv, vs, g', h', rfl, ?_, by rw [dS]; exact u5, ⟨old _ _ (by omega) (by simpa using u1), old _ _ dg0 (by
   by_cases e : g' = h'
   · rw [e, d3] at d2; cases d2
   · exact u7 _ _ gi e dg1 dq2.symm (w3 _ _ gi d2)), old _ _ dh0 (by simpa using u2)⟩, d5, d6, fun j y a1 a2 a3 hy => ?_, by simp only [AHeap.next_set]; omega⟩
  · rw [dS]
    refine (u4.keep fun x y hx hy => old x y ?_ hy).mono fun x hx => ?_ <;> rcases hx with rfl | hx <;> omega
  · have := zaa hw hy
    refine old _ _ (by omega) (keep _ _ a1 a2 a3 (by omega) ?_ (k1 _ _ hy))
    rcases d6 with e | e
    · rw [e]; exact a3
    · omega
end Go.Proofs.YtekbjlihciedjaaGreatDoor
