import Derived.Test.YtcbiaeoladjecaaNkO
namespace Go.Proofs
open Go Go.Abs
set_option linter.unusedSimpArgs false
variable {G : Nat → Option AV}

/-- An act. -/
structure Ac where
  op : Int
  k : Int
  f : Int
  t : Int
  b : Option (List UInt8)
def Ac.cells (x : Ac) : List AV := [.int .i64 x.op, .int .i64 x.k, .int .i64 x.f, .int .i64 x.t, pkb x.b]
def acells (l : List Ac) : List AV := l.flatMap Ac.cells
theorem acells_drop : ∀ (l : List Ac) (i : Nat) (h : i < l.length), (acells l).drop (i * 5) = l[i].cells ++ acells (l.drop (i + 1))
  | [], i, h => by simp at h
  | x :: l, 0, _ => by simp [acells]
  | x :: l, i + 1, h => by
    have := acells_drop l i (by simpa using h)
    rw [Nat.succ_mul, Nat.add_comm (i * 5) 5, ← List.drop_drop]
    show List.drop (i * 5) (List.drop 5 (x.cells ++ acells l)) = _
    rw [List.drop_left' (by simp [Ac.cells]), this]
    simp
theorem acells_length : ∀ l : List Ac, (acells l).length = l.length * 5
  | [] => rfl
  | x :: l => by
    show (x.cells ++ acells l).length = _
    rw [List.length_append, acells_length l]; simp [Ac.cells]; omega

/-- Bytes of a kept packet. -/
def LB (H : AHeap) (a b c : Nat) (p : Wp) : Prop := ∃ i k op, p.v = .sl i 0 1 p.bs.length k op ∧ H.get i = some (.cells (b8 p.bs)) ∧ i ≠ a ∧ i ≠ b ∧ i ≠ c
def WAt (H : AHeap) (a b c : Nat) (w : AV) (ws : List Wp) : Prop := (∀ p ∈ ws, LB H a b c p) ∧
  ((w = .nilsl ∧ ws = [] ∧ c = a) ∨ ∃ cap op junk, w = .sl c 0 3 ws.length cap op ∧ c ≠ a ∧ c ≠ b ∧ H.get c = some (.cells (wcells ws ++ junk)) ∧ ws.length * 3 + junk.length = 3 * cap ∧ cap < 1000000)
def Pk.key (p : Pk) : Int × Int × List UInt8 := (p.f, p.t, p.b.getD [])
def Wp.key (p : Wp) : Int × Int × List UInt8 := (p.f, p.t, p.bs)

/-- Where the law stands. -/
def PlayI (a : Nat) (H : AHeap) (i : Nat) (w : AV) : Prop := ∃ b c ps ws, NetAt H a b ps ∧ WAt H a b c w ws ∧ ps.map Pk.key = ws.map Wp.key ∧ ps.length ≤ i ∧ ∀ p ∈ ws, p.bs.length ≤ 200

theorem LB.step {H H' : AHeap} {a b c b' c' : Nat} {ws : List Wp} (h : ∀ p ∈ ws, LB H a b c p) (hw : H.Wf) (hb : b' = b ∨ H.next ≤ b') (hc : c' = c ∨ H.next ≤ c') (hk : ∀ j, j < H.next → j ≠ a → j ≠ b → j ≠ c → H'.get j = H.get j) : ∀ p ∈ ws, LB H' a b' c' p := fun p hp => by
  obtain ⟨i, k, op, h1, h2, h3, h4, h5⟩ := h p hp
  have := next_lt hw h2
  exact ⟨i, k, op, h1, by rw [hk i this h3 h4 h5]; exact h2, h3, by omega, by omega⟩
theorem LB.scalar {H : AHeap} {a b c : Nat} {ws : List Wp} (h : ∀ p ∈ ws, LB H a b c p) : ∀ p ∈ ws, p.v.scalar = true := fun p hp => by
  obtain ⟨i, k, op, h1, _⟩ := h p hp
  rw [h1]; rfl
theorem LB.bts {H : AHeap} {a b c : Nat} {p : Wp} (h : LB H a b c p) : Bts H p.v (b8 p.bs) := by
  obtain ⟨i, k, op, h1, h2, _⟩ := h
  exact .inr (.inr ⟨i, k, op, by simpa using h1, h2⟩)

theorem NetAt.keep {H H' : AHeap} {a b : Nat} {ps : List Pk} (h : NetAt H a b ps) (ha : H'.get a = H.get a) (hb : H'.get b = H.get b) : NetAt H' a b ps := by
  obtain ⟨l, hl, h⟩ := h
  refine ⟨l, by rw [ha]; exact hl, ?_⟩
  rcases h with h | ⟨c, op, junk, rfl, hne, hb', hc⟩
  · exact .inl h
  · exact .inr ⟨c, op, junk, rfl, hne, by rw [hb]; exact hb', hc⟩
theorem len_keep {H H' : AHeap} {a b : Nat} {ps : List Pk} (h : NetAt H a b ps) (ha : H'.get a = H.get a) (hb : H'.get b = H.get b) : Does Try.prog G 17 [.ptr a 0] H' fun r H2 => r = .int .i64 ps.length ∧ H2 = H' := len_spec' H' a b ps (h.keep ha hb)

theorem play_sent {H Hf : AHeap} {a b b' c c' i : Nat} {ps : List Pk} {ws : List Wp} {w' : AV} (hw : H.Wf) (hws : ∀ p ∈ ws, LB H a b c p) (hkey : ps.map Pk.key = ws.map Wp.key) (hle : ps.length ≤ i) (hbs : ∀ p ∈ ws, p.bs.length ≤ 200)
    (p : Pk) (q : Wp) (hkq : p.key = q.key) (hq : q.bs.length ≤ 200) (hn : NetAt Hf a b' (ps ++ [p])) (hb : b' = b ∨ H.next ≤ b') (hc : c' = c ∨ H.next ≤ c')
    (hk : ∀ j, j < H.next → j ≠ a → j ≠ b → j ≠ c → Hf.get j = H.get j) (hqL : LB Hf a b' c' q)
    (hW : ∃ cap op junk, w' = .sl c' 0 3 (ws.length + 1) cap op ∧ c' ≠ a ∧ c' ≠ b' ∧ Hf.get c' = some (.cells (wcells ws ++ (q.cells ++ junk))) ∧ (ws.length + 1) * 3 + junk.length = 3 * cap ∧ cap < 1000000) : PlayI a Hf (i + 1) w' := by
  obtain ⟨cap, op, junk, h1, h2, h3, h4, h5, h6⟩ := hW
  refine ⟨b', c', ps ++ [p], ws ++ [q], hn, ⟨fun r hr => ?_, .inr ⟨cap, op, junk, by simpa using h1, h2, h3, by simpa using h4, by simpa using h5, h6⟩⟩, by simp [hkey, hkq], by simp; omega, fun r hr => ?_⟩
  · simp only [List.mem_append, List.mem_singleton] at hr
    rcases hr with hr | rfl
    · exact LB.step hws hw hb hc hk r hr
    · exact hqL
  · simp only [List.mem_append, List.mem_singleton] at hr
    rcases hr with hr | rfl
    · exact hbs r hr
    · exact hq

theorem split_at : ∀ {ps : List Pk} {ws : List Wp} (_ : ps.map Pk.key = ws.map Wp.key) (k : Nat) (_ : k < ws.length), ∃ A p B A' q B', ps = A ++ p :: B ∧ ws = A' ++ q :: B' ∧ A.length = k ∧ A'.length = k ∧ p.key = q.key ∧ A.map Pk.key = A'.map Wp.key ∧ B.map Pk.key = B'.map Wp.key
  | [], [], _, k, hk => by simp at hk
  | p :: ps, [], h, _, _ => by simp at h
  | [], q :: ws, h, _, _ => by simp at h
  | p :: ps, q :: ws, h, 0, _ => by
    simp only [List.map_cons, List.cons.injEq] at h
    exact ⟨[], p, ps, [], q, ws, rfl, rfl, rfl, rfl, h.1, rfl, h.2⟩
  | p :: ps, q :: ws, h, k + 1, hk => by
    simp only [List.map_cons, List.cons.injEq] at h
    obtain ⟨A, p', B, A', q', B', rfl, rfl, h1, h2, h3, h4, h5⟩ := split_at h.2 k (by simpa using hk)
    exact ⟨p :: A, p', B, q :: A', q', B', rfl, rfl, by simp [h1], by simp [h2], h3, by simp [h.1, h4], h5⟩
theorem play_same {H Hf : AHeap} {a b c i : Nat} {ps : List Pk} {ws : List Wp} {w : AV} (hw : H.Wf) (hws : WAt H a b c w ws) (hkey : ps.map Pk.key = ws.map Wp.key) (hle : ps.length ≤ i) (hbs : ∀ p ∈ ws, p.bs.length ≤ 200)
    (hn : NetAt Hf a b ps) (hk : ∀ j, j < H.next → j ≠ a → j ≠ b → Hf.get j = H.get j) : PlayI a Hf (i + 1) w := by
  refine ⟨b, c, ps, ws, hn, ⟨LB.step hws.1 hw (.inl rfl) (.inl rfl) fun j h1 h2 h3 _ => hk j h1 h2 h3, ?_⟩, hkey, by omega, hbs⟩
  rcases hws.2 with h | ⟨cap, op, junk, h1, h2, h3, h4, h5⟩
  · exact .inl h
  · exact .inr ⟨cap, op, junk, h1, h2, h3, by rw [hk c (next_lt hw h4) h2 h3]; exact h4, h5⟩
theorem play_cut {H Hf : AHeap} {a b c c' i : Nat} {A B : List Pk} {A' B' : List Wp} {p : Pk} {q : Wp} {w' : AV} (hw : H.Wf) (hws : ∀ p ∈ A' ++ q :: B', LB H a b c p) (hA : A.map Pk.key = A'.map Wp.key) (hB : B.map Pk.key = B'.map Wp.key) (hle : (A ++ p :: B).length ≤ i)
    (hbs : ∀ p ∈ A' ++ q :: B', p.bs.length ≤ 200) (hn : NetAt Hf a b (A ++ B)) (hk : ∀ j, j < H.next → j ≠ a → j ≠ b → Hf.get j = H.get j) (hc : H.next ≤ c') (hca : c' ≠ a) (hcb : c' ≠ b) {op : Bool} (hW : w' = .sl c' 0 3 (A' ++ B').length (A' ++ B').length op) (hg : Hf.get c' = some (.cells (wcells (A' ++ B')))) (hl : (A' ++ B').length < 1000000) : PlayI a Hf (i + 1) w' := by
  have hin : ∀ r ∈ A' ++ B', r ∈ A' ++ q :: B' := fun r hr => by
    simp only [List.mem_append, List.mem_cons] at hr ⊢
    rcases hr with h | h
    · exact .inl h
    · exact .inr (.inr h)
  refine ⟨b, c', A ++ B, A' ++ B', hn, ⟨fun r hr => LB.step hws hw (.inl rfl) (.inr hc) (fun j h1 h2 h3 _ => hk j h1 h2 h3) r (hin r hr), .inr ⟨_, op, [], hW, hca, hcb, by simpa using hg, by simp; omega, hl⟩⟩, by simp [hA, hB], by simp at hle ⊢; omega, fun r hr => hbs r (hin r hr)⟩

theorem without_use (H : AHeap) (c cap : Nat) (op : Bool) (A B : List Wp) (p : Wp) (junk : List AV) (hc : H.get c = some (.cells (wcells (A ++ p :: B) ++ junk))) (hl : (A ++ p :: B).length * 3 + junk.length = 3 * cap) (hcap : cap < 1000000)
    (hs : ∀ q ∈ A ++ p :: B, q.v.scalar = true) :
    Does Try.prog G 19 [.sl c 0 3 (A.length + (B.length + 1)) cap op, .int .i64 A.length] H fun r H' => ∃ c' op', r = .sl c' 0 3 (A.length + B.length) (A.length + B.length) op' ∧ H.next ≤ c' ∧ H'.get c' = some (.cells (wcells (A ++ B))) ∧ Grows H H' := by
  have h := without_spec (G := G) H c cap op A B p junk hc hl hcap hs
  simpa only [List.length_append, List.length_cons] using h

@[simp high] theorem alen_pkb (b : Option (List UInt8)) : alen Try.prog 25 (pkb b) = some (.int .i64 (b.getD []).length) := by
  have h : Try.prog.underlying 25 = some (.slice 5) := by kernel_rfl
  cases b <;> simp [alen, h, pkb]

theorem alen_acts (cs : List AV) (n : Nat) : alen Try.prog 35 (.vsl cs n) = some (.int .i64 n) := by
  have h : Try.prog.underlying 35 = some (.slice 38) := by kernel_rfl
  simp [alen, h]

set_option maxHeartbeats 8000000 in
theorem plays_vsl (H : AHeap) (l : List Ac) : Does Try.prog (fun _ => none) 4 [.vsl (acells l) l.length] H fun r _ => r = .bool true := by
  refine does_f Try.call4 Try.func4 rfl (by simp [Try.f4]) ?_
  simp
  refine does_use (awake_any _) ?_
  rintro _ H0 ⟨rfl, rfl⟩
  simp
  refine condV_dec (fun c1 => ?_) (fun c1 => ?_)
  · simp
  have c1 : l.length ≤ 120 := by omega
  simp
  refine does_usew (new_spec _) ?_
  rintro _ _ ⟨rfl, rfl⟩ hw0 _
  generalize ha : H0.next = a
  generalize hN : l.length = N
  have hd : ∀ i (h : i < N), (acells l).drop (i * 5) = (l[i]'(by omega)).cells ++ acells (l.drop (i + 1)) := fun i h => acells_drop l i (by omega)
  have hlen : (acells l).length = N * 5 := by rw [acells_length, hN]
  simp
  refine aws_loopw (fun m T' H' => ∃ i : Nat, i + m = N ∧ T' 0 = .vsl (acells l) N ∧ T' 3 = .ptr a 0 ∧ T' 5 = .int .i64 i ∧ PlayI a H' i (T' 4)) N
    ⟨0, by simp, by simp, by simp [ha], by simp, a, a, [], [], ⟨.nilsl, by simp [ha], .inl ⟨rfl, rfl, rfl⟩⟩, ⟨fun p hp => by simp at hp, .inl ⟨by simp, rfl, rfl⟩⟩, rfl, by simp, fun p hp => by simp at hp⟩ ?_
  rintro m T H ⟨i, hi, h0, h3, h5, b, c, ps, ws, hnet, hws, hkey, hle, hbs⟩ hw _
  have w1 : IntKind.i64.wrap ((i : Int) + 1) = i + 1 := IntWalk.i64_in _ (by omega)
  by_cases hlt : i < N
  · have hdi := hd i hlt
    obtain ⟨x, hx⟩ : ∃ x, x = l[i]'(by omega) := ⟨_, rfl⟩
    rw [← hx] at hdi
    obtain ⟨xop, xk, xf, xt, xb⟩ := x
    have hlt' : (i : Int) < N := by omega
    have old : ∀ j y, H.get j = some y → j < H.next := fun j y hj => next_lt hw hj
    simp [-alen, alen_pkb, alen_acts, h0, h3, h5, hlt, hlt', hdi, Ac.cells]
    refine condV_dec (p := (200 : Int) < _) (fun c2 => ?_) (fun c2 => ?_)
    · simp
    have hxb : (xb.getD []).length ≤ 200 := by omega
    simp
    have hlw : alen Try.prog 36 (T 4) = some (.int .i64 ws.length) := by
      have h : Try.prog.underlying 36 = some (.slice 27) := by kernel_rfl
      rcases hws.2 with ⟨e, rfl, _⟩ | ⟨cap, op, junk, e, _⟩ <;> simp [alen, h, e]
    have hpl : ps.length = ws.length := by have := congrArg List.length hkey; simpa using this
    have hnet1 := hnet.push hw (.cells [.int .i64 xop, .int .i64 xk, .int .i64 xf, .int .i64 xt, pkb xb])
    have hcl : c < H.next := by
      rcases hws.2 with ⟨_, _, rfl⟩ | ⟨cap, op, junk, e, _, _, h, _⟩
      · exact (hnet.lt hw).1
      · exact next_lt hw h
    have hal := (hnet.lt hw).1
    have hbl := (hnet.lt hw).2
    have al36 : ∀ n c cap op, alen Try.prog 36 (.sl c 0 3 n cap op) = some (.int .i64 n) := fun n c cap op => by
      have h : Try.prog.underlying 36 = some (.slice 27) := by kernel_rfl
      simp [alen, h]
    have cases3 : xk < 0 ∨ (0 ≤ xk ∧ (ws.length : Int) ≤ xk) ∨ (0 ≤ xk ∧ xk < ws.length) := by omega
    by_cases o0 : xop = 0
    · subst o0
      rcases cases3 with hk | hk | hk
      · have hk1 : ¬ 0 ≤ xk := by omega
        have hin : xk < 0 ∨ (ps.length : Int) ≤ xk := by omega
        simp [hk1, h0, h3, h5, hlw, -alen]
        refine does_usew (send_small _ a b ps xf xt (pkb xb) (xb.getD []) ⟨xf, xt, xb⟩ hnet1 (by omega) (pkb_bts _ _) (by omega) (by simp [Pk.cells])) ?_
        rintro _ H2 ⟨rfl, b', hn2, k2⟩ hw2 _
        have g2 : H2.get H.next = some (.cells [.int .i64 0, .int .i64 xk, .int .i64 xf, .int .i64 xt, pkb xb]) := by
          rw [k2.2.2 H.next (by simp) (by omega) (by omega)]; simp
        have hn2' := k2.1
        simp at hn2'
        have n2 : H.next ≠ H2.next := by omega
        have n3 : H.next ≠ H2.next + 1 := by omega
        have n4 : H.next ≠ H2.next + 1 + 1 := by omega
        simp [-alen, h0, h3, h5]
        refine aw_drawn [(3, 0), (3, 12), (6, 0), (6, 12), (10, 0)] Try.mixed (by kernel_rfl) ?_
        intro es hes
        have hxc : (xb = none ∨ xb = some []) ∨ ∃ y ys, xb = some (y :: ys) := by
          rcases xb with _ | _ | ⟨y, ys⟩
          · exact .inl (.inl rfl)
          · exact .inl (.inr rfl)
          · exact .inr ⟨y, ys, rfl⟩
        have hkk : ∀ j, j < H.next → j ≠ a → j ≠ b → H2.get j = H.get j := fun j hj h1 h2 => by
          rw [k2.2.2 j (by simp; omega) h1 h2]
          have : j ≠ H.next := by omega
          simp [this]
        have hbb : b' = b ∨ H.next ≤ b' := by
          rcases k2.2.1 with h | h
          · exact .inl h
          · simp at h; right; omega
        have hab := hn2.lt hw2
        have q1 : a ≠ H2.next := by omega
        have q2 : a ≠ H2.next + 1 := by omega
        have q3 : a ≠ H2.next + 1 + 1 := by omega
        have r1 : b' ≠ H2.next := by omega
        have r2 : b' ≠ H2.next + 1 := by omega
        have r3 : b' ≠ H2.next + 1 + 1 := by omega
        have q4 : a ≠ H2.next + 1 + 1 + 1 := by omega
        have r4 : b' ≠ H2.next + 1 + 1 + 1 := by omega
        have x2 : H2.next ≠ H2.next + 1 + 1 := by omega
        have x3 : H2.next ≠ H2.next + 1 + 1 + 1 := by omega
        have s1 : c ≠ H2.next := by omega
        have n5 : H.next ≠ H2.next + 1 + 1 + 1 := by omega
        rcases hxc with hxc | ⟨y, ys, rfl⟩
        · rcases hxc with rfl | rfl
          all_goals
            rcases hws.2 with ⟨e4, hwn, hca⟩ | ⟨cap, opn, junk, e4, hca, hcb, hgc, hjl, hcap⟩
            · have hac : True := trivial
              have hbc : True := trivial
              simp [g2, n2, n3, n4, n5, h0, h3, h5, e4, pkb, -alen, rds, heapF]
              refine ⟨by subst hes; exact ⟨by kernel_rfl, by kernel_rfl⟩, ?_⟩
              refine does_use (len_keep hn2 (by simp [q1, q2, q3, q4, hac]) (by simp [r1, r2, r3, r4, hbc])) ?_
              rintro _ _ ⟨rfl, rfl⟩
              simp [h0, h3, h5, w1, al36, hpl, -alen, hwn]
              refine ⟨m - 1, by omega, i + 1, by omega, by simp, play_sent (c' := H2.next + 1 + 1) hw hws.1 hkey hle hbs ⟨xf, xt, _⟩ ⟨xf, xt, [], .sl H2.next 0 1 0 0 false⟩ rfl (by simp at hxb ⊢; try omega) (hn2.keep (by simp [q1, q2, q3, q4, hac]) (by simp [r1, r2, r3, r4, hbc])) hbb (.inr (by omega)) (fun j j1 j2 j3 j4 => ?_) ⟨H2.next, _, _, rfl, by simp [b8, x2, x3, s1], by omega, by omega, by omega⟩ ⟨1, true, [], by simp [hwn], by omega, by omega, by simp [hwn, Wp.cells], by simp [hwn], by omega⟩⟩
              · have e1 : j ≠ H2.next := by omega
                have e2 : j ≠ H2.next + 1 := by omega
                have e3 : j ≠ H2.next + 1 + 1 := by omega
                have e4 : j ≠ H2.next + 1 + 1 + 1 := by omega
                simp [e1, e2, e3, e4, j4, hkk j j1 j2 j3]
            · have hgc2 : H2.get c = some (.cells (wcells ws ++ junk)) := by rw [hkk c hcl hca hcb]; exact hgc
              have s1 : c ≠ H2.next := by omega
              have s2 : c ≠ H2.next + 1 := by omega
              have s3 : c ≠ H2.next + 1 + 1 := by omega
              have s4 : c ≠ H2.next + 1 + 1 + 1 := by omega
              have hac : a ≠ c := Ne.symm hca
              have hbc : b' ≠ c := by omega
              have d1 : List.drop (ws.length * 3 + 3) (wcells ws ++ junk) = junk.drop 3 := by rw [← List.drop_drop, List.drop_left' (by simp)]
              by_cases fit : ws.length + 1 ≤ cap
              · have f2 : (ws.length + 1) * 3 ≤ ws.length * 3 + junk.length := by omega
                simp [g2, n2, n3, n4, n5, h0, h3, h5, e4, pkb, -alen, rds, heapF, hgc2, s1, s2, s3, s4, d1, fit, f2]
                refine ⟨by subst hes; exact ⟨by kernel_rfl, by kernel_rfl⟩, ?_⟩
                refine does_use (len_keep hn2 (by simp [q1, q2, q3, q4, hac]) (by simp [r1, r2, r3, r4, hbc])) ?_
                rintro _ _ ⟨rfl, rfl⟩
                simp [h0, h3, h5, w1, al36, hpl, -alen]
                refine ⟨m - 1, by omega, i + 1, by omega, by simp, play_sent (c' := c) hw hws.1 hkey hle hbs ⟨xf, xt, _⟩ ⟨xf, xt, [], .sl H2.next 0 1 0 0 false⟩ rfl (by simp at hxb ⊢; try omega) (hn2.keep (by simp [q1, q2, q3, q4, hac]) (by simp [r1, r2, r3, r4, hbc])) hbb (.inl rfl) (fun j j1 j2 j3 j4 => ?_) ⟨H2.next, _, _, rfl, by simp [b8, x2, x3, s1, s2, s3, s4, Ne.symm s1, Ne.symm s2, Ne.symm s3, Ne.symm s4], by omega, by omega, by omega⟩ ⟨cap, opn, junk.drop 3, by simp, by omega, by omega, by simp [Wp.cells], by simp; omega, by omega⟩⟩
                · have e1 : j ≠ H2.next := by omega
                  have e2 : j ≠ H2.next + 1 := by omega
                  have e3 : j ≠ H2.next + 1 + 1 := by omega
                  have e4 : j ≠ H2.next + 1 + 1 + 1 := by omega
                  simp [e1, e2, e3, e4, j4, hkk j j1 j2 j3]
              · have f2 : (ws.length + 1) * 40 ≤ 140737488355328 := by omega
                have f3 : ws.length ≤ 4611686018427387903 := by omega
                cases opn
                all_goals
                  simp [g2, n2, n3, n4, n5, h0, h3, h5, e4, pkb, -alen, rds, heapF, hgc2, s1, s2, s3, s4, d1, fit, f2, f3]
                  refine ⟨by subst hes; exact ⟨by kernel_rfl, by kernel_rfl⟩, ?_⟩
                  refine does_use (len_keep hn2 (by simp [q1, q2, q3, q4, hac]) (by simp [r1, r2, r3, r4, hbc])) ?_
                  rintro _ _ ⟨rfl, rfl⟩
                  simp [h0, h3, h5, w1, al36, hpl, -alen]
                  refine ⟨m - 1, by omega, i + 1, by omega, by simp, play_sent (c' := H2.next + 1 + 1) hw hws.1 hkey hle hbs ⟨xf, xt, _⟩ ⟨xf, xt, [], .sl H2.next 0 1 0 0 false⟩ rfl (by simp at hxb ⊢; try omega) (hn2.keep (by simp [q1, q2, q3, q4, hac]) (by simp [r1, r2, r3, r4, hbc])) hbb (.inr (by omega)) (fun j j1 j2 j3 j4 => ?_) ⟨H2.next, _, _, rfl, by simp [b8, x2, x3, s1, s2, s3, s4, Ne.symm s1, Ne.symm s2, Ne.symm s3, Ne.symm s4], by omega, by omega, by omega⟩ ⟨ws.length + 1, true, [], by simp, by omega, by omega, by simp [Wp.cells], by simp; omega, by omega⟩⟩
                  · have e1 : j ≠ H2.next := by omega
                    have e2 : j ≠ H2.next + 1 := by omega
                    have e3 : j ≠ H2.next + 1 + 1 := by omega
                    have e4 : j ≠ H2.next + 1 + 1 + 1 := by omega
                    simp [e1, e2, e3, e4, j4, hkk j j1 j2 j3]
        · have tk : List.take (ys.length + 1) (b8 (y :: ys)) = b8 (y :: ys) := List.take_of_length_le (by simp)
          have sc : (∀ x : AV, x ∈ b8 (y :: ys) → x.scalar = true) = True := eq_true (b8_scalar _)
          have l1 : ys.length ≤ 140737488355327 := by simp at hxb; omega
          have l2 : ys.length ≤ 4611686018427387903 := by omega
          rcases hws.2 with ⟨e4, hwn, hca⟩ | ⟨cap, opn, junk, e4, hca, hcb, hgc, hjl, hcap⟩
          · have hac : True := trivial
            have hbc : True := trivial
            simp [g2, n2, n3, n4, n5, h0, h3, h5, e4, pkb, -alen, rds, heapF, tk, sc, l1, l2]
            refine ⟨by subst hes; exact ⟨by kernel_rfl, by kernel_rfl⟩, ?_⟩
            refine does_use (len_keep hn2 (by simp [q1, q2, q3, q4, hac]) (by simp [r1, r2, r3, r4, hbc])) ?_
            rintro _ _ ⟨rfl, rfl⟩
            simp [h0, h3, h5, w1, al36, hpl, -alen, hwn]
            refine ⟨m - 1, by omega, i + 1, by omega, by simp, play_sent (c' := H2.next + 1 + 1 + 1) hw hws.1 hkey hle hbs ⟨xf, xt, _⟩ ⟨xf, xt, (y :: ys), .sl (H2.next + 1) 0 1 (ys.length + 1) (ys.length + 1) true⟩ rfl (by simp at hxb ⊢; try omega) (hn2.keep (by simp [q1, q2, q3, q4, hac]) (by simp [r1, r2, r3, r4, hbc])) hbb (.inr (by omega)) (fun j j1 j2 j3 j4 => ?_) ⟨H2.next + 1, _, _, rfl, by simp [b8, x2, x3, s1], by omega, by omega, by omega⟩ ⟨1, true, [], by simp [hwn], by omega, by omega, by simp [hwn, Wp.cells], by simp [hwn], by omega⟩⟩
            · have e1 : j ≠ H2.next := by omega
              have e2 : j ≠ H2.next + 1 := by omega
              have e3 : j ≠ H2.next + 1 + 1 := by omega
              have e4 : j ≠ H2.next + 1 + 1 + 1 := by omega
              simp [e1, e2, e3, e4, j4, hkk j j1 j2 j3]
          · have hgc2 : H2.get c = some (.cells (wcells ws ++ junk)) := by rw [hkk c hcl hca hcb]; exact hgc
            have s1 : c ≠ H2.next := by omega
            have s2 : c ≠ H2.next + 1 := by omega
            have s3 : c ≠ H2.next + 1 + 1 := by omega
            have s4 : c ≠ H2.next + 1 + 1 + 1 := by omega
            have hac : a ≠ c := Ne.symm hca
            have hbc : b' ≠ c := by omega
            have d1 : List.drop (ws.length * 3 + 3) (wcells ws ++ junk) = junk.drop 3 := by rw [← List.drop_drop, List.drop_left' (by simp)]
            by_cases fit : ws.length + 1 ≤ cap
            · have f2 : (ws.length + 1) * 3 ≤ ws.length * 3 + junk.length := by omega
              simp [g2, n2, n3, n4, n5, h0, h3, h5, e4, pkb, -alen, rds, heapF, tk, sc, l1, l2, hgc2, s1, s2, s3, s4, d1, fit, f2]
              refine ⟨by subst hes; exact ⟨by kernel_rfl, by kernel_rfl⟩, ?_⟩
              refine does_use (len_keep hn2 (by simp [q1, q2, q3, q4, hac]) (by simp [r1, r2, r3, r4, hbc])) ?_
              rintro _ _ ⟨rfl, rfl⟩
              simp [h0, h3, h5, w1, al36, hpl, -alen]
              refine ⟨m - 1, by omega, i + 1, by omega, by simp, play_sent (c' := c) hw hws.1 hkey hle hbs ⟨xf, xt, _⟩ ⟨xf, xt, (y :: ys), .sl (H2.next + 1) 0 1 (ys.length + 1) (ys.length + 1) true⟩ rfl (by simp at hxb ⊢; try omega) (hn2.keep (by simp [q1, q2, q3, q4, hac]) (by simp [r1, r2, r3, r4, hbc])) hbb (.inl rfl) (fun j j1 j2 j3 j4 => ?_) ⟨H2.next + 1, _, _, rfl, by simp [b8, x2, x3, s1, s2, s3, s4, Ne.symm s1, Ne.symm s2, Ne.symm s3, Ne.symm s4], by omega, by omega, by omega⟩ ⟨cap, opn, junk.drop 3, by simp, by omega, by omega, by simp [Wp.cells], by simp; omega, by omega⟩⟩
              · have e1 : j ≠ H2.next := by omega
                have e2 : j ≠ H2.next + 1 := by omega
                have e3 : j ≠ H2.next + 1 + 1 := by omega
                have e4 : j ≠ H2.next + 1 + 1 + 1 := by omega
                simp [e1, e2, e3, e4, j4, hkk j j1 j2 j3]
            · have f2 : (ws.length + 1) * 40 ≤ 140737488355328 := by omega
              have f3 : ws.length ≤ 4611686018427387903 := by omega
              cases opn
              all_goals
                simp [g2, n2, n3, n4, n5, h0, h3, h5, e4, pkb, -alen, rds, heapF, tk, sc, l1, l2, hgc2, s1, s2, s3, s4, d1, fit, f2, f3]
                refine ⟨by subst hes; exact ⟨by kernel_rfl, by kernel_rfl⟩, ?_⟩
                refine does_use (len_keep hn2 (by simp [q1, q2, q3, q4, hac]) (by simp [r1, r2, r3, r4, hbc])) ?_
                rintro _ _ ⟨rfl, rfl⟩
                simp [h0, h3, h5, w1, al36, hpl, -alen]
                refine ⟨m - 1, by omega, i + 1, by omega, by simp, play_sent (c' := H2.next + 1 + 1 + 1) hw hws.1 hkey hle hbs ⟨xf, xt, _⟩ ⟨xf, xt, (y :: ys), .sl (H2.next + 1) 0 1 (ys.length + 1) (ys.length + 1) true⟩ rfl (by simp at hxb ⊢; try omega) (hn2.keep (by simp [q1, q2, q3, q4, hac]) (by simp [r1, r2, r3, r4, hbc])) hbb (.inr (by omega)) (fun j j1 j2 j3 j4 => ?_) ⟨H2.next + 1, _, _, rfl, by simp [b8, x2, x3, s1, s2, s3, s4, Ne.symm s1, Ne.symm s2, Ne.symm s3, Ne.symm s4], by omega, by omega, by omega⟩ ⟨ws.length + 1, true, [], by simp, by omega, by omega, by simp [Wp.cells], by simp; omega, by omega⟩⟩
                · have e1 : j ≠ H2.next := by omega
                  have e2 : j ≠ H2.next + 1 := by omega
                  have e3 : j ≠ H2.next + 1 + 1 := by omega
                  have e4 : j ≠ H2.next + 1 + 1 + 1 := by omega
                  simp [e1, e2, e3, e4, j4, hkk j j1 j2 j3]
      · have hk1 : 0 ≤ xk := hk.1
        have hk2 : ¬ xk < ws.length := by omega
        have hin : xk < 0 ∨ (ps.length : Int) ≤ xk := by omega
        simp [hk1, hk2, h0, h3, h5, hlw, -alen]
        refine does_usew (send_small _ a b ps xf xt (pkb xb) (xb.getD []) ⟨xf, xt, xb⟩ hnet1 (by omega) (pkb_bts _ _) (by omega) (by simp [Pk.cells])) ?_
        rintro _ H2 ⟨rfl, b', hn2, k2⟩ hw2 _
        have g2 : H2.get H.next = some (.cells [.int .i64 0, .int .i64 xk, .int .i64 xf, .int .i64 xt, pkb xb]) := by
          rw [k2.2.2 H.next (by simp) (by omega) (by omega)]; simp
        have hn2' := k2.1
        simp at hn2'
        have n2 : H.next ≠ H2.next := by omega
        have n3 : H.next ≠ H2.next + 1 := by omega
        have n4 : H.next ≠ H2.next + 1 + 1 := by omega
        simp [-alen, h0, h3, h5]
        refine aw_drawn [(3, 0), (3, 12), (6, 0), (6, 12), (10, 0)] Try.mixed (by kernel_rfl) ?_
        intro es hes
        have hxc : (xb = none ∨ xb = some []) ∨ ∃ y ys, xb = some (y :: ys) := by
          rcases xb with _ | _ | ⟨y, ys⟩
          · exact .inl (.inl rfl)
          · exact .inl (.inr rfl)
          · exact .inr ⟨y, ys, rfl⟩
        have hkk : ∀ j, j < H.next → j ≠ a → j ≠ b → H2.get j = H.get j := fun j hj h1 h2 => by
          rw [k2.2.2 j (by simp; omega) h1 h2]
          have : j ≠ H.next := by omega
          simp [this]
        have hbb : b' = b ∨ H.next ≤ b' := by
          rcases k2.2.1 with h | h
          · exact .inl h
          · simp at h; right; omega
        have hab := hn2.lt hw2
        have q1 : a ≠ H2.next := by omega
        have q2 : a ≠ H2.next + 1 := by omega
        have q3 : a ≠ H2.next + 1 + 1 := by omega
        have r1 : b' ≠ H2.next := by omega
        have r2 : b' ≠ H2.next + 1 := by omega
        have r3 : b' ≠ H2.next + 1 + 1 := by omega
        have q4 : a ≠ H2.next + 1 + 1 + 1 := by omega
        have r4 : b' ≠ H2.next + 1 + 1 + 1 := by omega
        have x2 : H2.next ≠ H2.next + 1 + 1 := by omega
        have x3 : H2.next ≠ H2.next + 1 + 1 + 1 := by omega
        have s1 : c ≠ H2.next := by omega
        have n5 : H.next ≠ H2.next + 1 + 1 + 1 := by omega
        rcases hxc with hxc | ⟨y, ys, rfl⟩
        · rcases hxc with rfl | rfl
          all_goals
            rcases hws.2 with ⟨e4, hwn, hca⟩ | ⟨cap, opn, junk, e4, hca, hcb, hgc, hjl, hcap⟩
            · have hac : True := trivial
              have hbc : True := trivial
              simp [g2, n2, n3, n4, n5, h0, h3, h5, e4, pkb, -alen, rds, heapF]
              refine ⟨by subst hes; exact ⟨by kernel_rfl, by kernel_rfl⟩, ?_⟩
              refine does_use (len_keep hn2 (by simp [q1, q2, q3, q4, hac]) (by simp [r1, r2, r3, r4, hbc])) ?_
              rintro _ _ ⟨rfl, rfl⟩
              simp [h0, h3, h5, w1, al36, hpl, -alen, hwn]
              refine ⟨m - 1, by omega, i + 1, by omega, by simp, play_sent (c' := H2.next + 1 + 1) hw hws.1 hkey hle hbs ⟨xf, xt, _⟩ ⟨xf, xt, [], .sl H2.next 0 1 0 0 false⟩ rfl (by simp at hxb ⊢; try omega) (hn2.keep (by simp [q1, q2, q3, q4, hac]) (by simp [r1, r2, r3, r4, hbc])) hbb (.inr (by omega)) (fun j j1 j2 j3 j4 => ?_) ⟨H2.next, _, _, rfl, by simp [b8, x2, x3, s1], by omega, by omega, by omega⟩ ⟨1, true, [], by simp [hwn], by omega, by omega, by simp [hwn, Wp.cells], by simp [hwn], by omega⟩⟩
              · have e1 : j ≠ H2.next := by omega
                have e2 : j ≠ H2.next + 1 := by omega
                have e3 : j ≠ H2.next + 1 + 1 := by omega
                have e4 : j ≠ H2.next + 1 + 1 + 1 := by omega
                simp [e1, e2, e3, e4, j4, hkk j j1 j2 j3]
            · have hgc2 : H2.get c = some (.cells (wcells ws ++ junk)) := by rw [hkk c hcl hca hcb]; exact hgc
              have s1 : c ≠ H2.next := by omega
              have s2 : c ≠ H2.next + 1 := by omega
              have s3 : c ≠ H2.next + 1 + 1 := by omega
              have s4 : c ≠ H2.next + 1 + 1 + 1 := by omega
              have hac : a ≠ c := Ne.symm hca
              have hbc : b' ≠ c := by omega
              have d1 : List.drop (ws.length * 3 + 3) (wcells ws ++ junk) = junk.drop 3 := by rw [← List.drop_drop, List.drop_left' (by simp)]
              by_cases fit : ws.length + 1 ≤ cap
              · have f2 : (ws.length + 1) * 3 ≤ ws.length * 3 + junk.length := by omega
                simp [g2, n2, n3, n4, n5, h0, h3, h5, e4, pkb, -alen, rds, heapF, hgc2, s1, s2, s3, s4, d1, fit, f2]
                refine ⟨by subst hes; exact ⟨by kernel_rfl, by kernel_rfl⟩, ?_⟩
                refine does_use (len_keep hn2 (by simp [q1, q2, q3, q4, hac]) (by simp [r1, r2, r3, r4, hbc])) ?_
                rintro _ _ ⟨rfl, rfl⟩
                simp [h0, h3, h5, w1, al36, hpl, -alen]
                refine ⟨m - 1, by omega, i + 1, by omega, by simp, play_sent (c' := c) hw hws.1 hkey hle hbs ⟨xf, xt, _⟩ ⟨xf, xt, [], .sl H2.next 0 1 0 0 false⟩ rfl (by simp at hxb ⊢; try omega) (hn2.keep (by simp [q1, q2, q3, q4, hac]) (by simp [r1, r2, r3, r4, hbc])) hbb (.inl rfl) (fun j j1 j2 j3 j4 => ?_) ⟨H2.next, _, _, rfl, by simp [b8, x2, x3, s1, s2, s3, s4, Ne.symm s1, Ne.symm s2, Ne.symm s3, Ne.symm s4], by omega, by omega, by omega⟩ ⟨cap, opn, junk.drop 3, by simp, by omega, by omega, by simp [Wp.cells], by simp; omega, by omega⟩⟩
                · have e1 : j ≠ H2.next := by omega
                  have e2 : j ≠ H2.next + 1 := by omega
                  have e3 : j ≠ H2.next + 1 + 1 := by omega
                  have e4 : j ≠ H2.next + 1 + 1 + 1 := by omega
                  simp [e1, e2, e3, e4, j4, hkk j j1 j2 j3]
              · have f2 : (ws.length + 1) * 40 ≤ 140737488355328 := by omega
                have f3 : ws.length ≤ 4611686018427387903 := by omega
                cases opn
                all_goals
                  simp [g2, n2, n3, n4, n5, h0, h3, h5, e4, pkb, -alen, rds, heapF, hgc2, s1, s2, s3, s4, d1, fit, f2, f3]
                  refine ⟨by subst hes; exact ⟨by kernel_rfl, by kernel_rfl⟩, ?_⟩
                  refine does_use (len_keep hn2 (by simp [q1, q2, q3, q4, hac]) (by simp [r1, r2, r3, r4, hbc])) ?_
                  rintro _ _ ⟨rfl, rfl⟩
                  simp [h0, h3, h5, w1, al36, hpl, -alen]
                  refine ⟨m - 1, by omega, i + 1, by omega, by simp, play_sent (c' := H2.next + 1 + 1) hw hws.1 hkey hle hbs ⟨xf, xt, _⟩ ⟨xf, xt, [], .sl H2.next 0 1 0 0 false⟩ rfl (by simp at hxb ⊢; try omega) (hn2.keep (by simp [q1, q2, q3, q4, hac]) (by simp [r1, r2, r3, r4, hbc])) hbb (.inr (by omega)) (fun j j1 j2 j3 j4 => ?_) ⟨H2.next, _, _, rfl, by simp [b8, x2, x3, s1, s2, s3, s4, Ne.symm s1, Ne.symm s2, Ne.symm s3, Ne.symm s4], by omega, by omega, by omega⟩ ⟨ws.length + 1, true, [], by simp, by omega, by omega, by simp [Wp.cells], by simp; omega, by omega⟩⟩
                  · have e1 : j ≠ H2.next := by omega
                    have e2 : j ≠ H2.next + 1 := by omega
                    have e3 : j ≠ H2.next + 1 + 1 := by omega
                    have e4 : j ≠ H2.next + 1 + 1 + 1 := by omega
                    simp [e1, e2, e3, e4, j4, hkk j j1 j2 j3]
        · have tk : List.take (ys.length + 1) (b8 (y :: ys)) = b8 (y :: ys) := List.take_of_length_le (by simp)
          have sc : (∀ x : AV, x ∈ b8 (y :: ys) → x.scalar = true) = True := eq_true (b8_scalar _)
          have l1 : ys.length ≤ 140737488355327 := by simp at hxb; omega
          have l2 : ys.length ≤ 4611686018427387903 := by omega
          rcases hws.2 with ⟨e4, hwn, hca⟩ | ⟨cap, opn, junk, e4, hca, hcb, hgc, hjl, hcap⟩
          · have hac : True := trivial
            have hbc : True := trivial
            simp [g2, n2, n3, n4, n5, h0, h3, h5, e4, pkb, -alen, rds, heapF, tk, sc, l1, l2]
            refine ⟨by subst hes; exact ⟨by kernel_rfl, by kernel_rfl⟩, ?_⟩
            refine does_use (len_keep hn2 (by simp [q1, q2, q3, q4, hac]) (by simp [r1, r2, r3, r4, hbc])) ?_
            rintro _ _ ⟨rfl, rfl⟩
            simp [h0, h3, h5, w1, al36, hpl, -alen, hwn]
            refine ⟨m - 1, by omega, i + 1, by omega, by simp, play_sent (c' := H2.next + 1 + 1 + 1) hw hws.1 hkey hle hbs ⟨xf, xt, _⟩ ⟨xf, xt, (y :: ys), .sl (H2.next + 1) 0 1 (ys.length + 1) (ys.length + 1) true⟩ rfl (by simp at hxb ⊢; try omega) (hn2.keep (by simp [q1, q2, q3, q4, hac]) (by simp [r1, r2, r3, r4, hbc])) hbb (.inr (by omega)) (fun j j1 j2 j3 j4 => ?_) ⟨H2.next + 1, _, _, rfl, by simp [b8, x2, x3, s1], by omega, by omega, by omega⟩ ⟨1, true, [], by simp [hwn], by omega, by omega, by simp [hwn, Wp.cells], by simp [hwn], by omega⟩⟩
            · have e1 : j ≠ H2.next := by omega
              have e2 : j ≠ H2.next + 1 := by omega
              have e3 : j ≠ H2.next + 1 + 1 := by omega
              have e4 : j ≠ H2.next + 1 + 1 + 1 := by omega
              simp [e1, e2, e3, e4, j4, hkk j j1 j2 j3]
          · have hgc2 : H2.get c = some (.cells (wcells ws ++ junk)) := by rw [hkk c hcl hca hcb]; exact hgc
            have s1 : c ≠ H2.next := by omega
            have s2 : c ≠ H2.next + 1 := by omega
            have s3 : c ≠ H2.next + 1 + 1 := by omega
            have s4 : c ≠ H2.next + 1 + 1 + 1 := by omega
            have hac : a ≠ c := Ne.symm hca
            have hbc : b' ≠ c := by omega
            have d1 : List.drop (ws.length * 3 + 3) (wcells ws ++ junk) = junk.drop 3 := by rw [← List.drop_drop, List.drop_left' (by simp)]
            by_cases fit : ws.length + 1 ≤ cap
            · have f2 : (ws.length + 1) * 3 ≤ ws.length * 3 + junk.length := by omega
              simp [g2, n2, n3, n4, n5, h0, h3, h5, e4, pkb, -alen, rds, heapF, tk, sc, l1, l2, hgc2, s1, s2, s3, s4, d1, fit, f2]
              refine ⟨by subst hes; exact ⟨by kernel_rfl, by kernel_rfl⟩, ?_⟩
              refine does_use (len_keep hn2 (by simp [q1, q2, q3, q4, hac]) (by simp [r1, r2, r3, r4, hbc])) ?_
              rintro _ _ ⟨rfl, rfl⟩
              simp [h0, h3, h5, w1, al36, hpl, -alen]
              refine ⟨m - 1, by omega, i + 1, by omega, by simp, play_sent (c' := c) hw hws.1 hkey hle hbs ⟨xf, xt, _⟩ ⟨xf, xt, (y :: ys), .sl (H2.next + 1) 0 1 (ys.length + 1) (ys.length + 1) true⟩ rfl (by simp at hxb ⊢; try omega) (hn2.keep (by simp [q1, q2, q3, q4, hac]) (by simp [r1, r2, r3, r4, hbc])) hbb (.inl rfl) (fun j j1 j2 j3 j4 => ?_) ⟨H2.next + 1, _, _, rfl, by simp [b8, x2, x3, s1, s2, s3, s4, Ne.symm s1, Ne.symm s2, Ne.symm s3, Ne.symm s4], by omega, by omega, by omega⟩ ⟨cap, opn, junk.drop 3, by simp, by omega, by omega, by simp [Wp.cells], by simp; omega, by omega⟩⟩
              · have e1 : j ≠ H2.next := by omega
                have e2 : j ≠ H2.next + 1 := by omega
                have e3 : j ≠ H2.next + 1 + 1 := by omega
                have e4 : j ≠ H2.next + 1 + 1 + 1 := by omega
                simp [e1, e2, e3, e4, j4, hkk j j1 j2 j3]
            · have f2 : (ws.length + 1) * 40 ≤ 140737488355328 := by omega
              have f3 : ws.length ≤ 4611686018427387903 := by omega
              cases opn
              all_goals
                simp [g2, n2, n3, n4, n5, h0, h3, h5, e4, pkb, -alen, rds, heapF, tk, sc, l1, l2, hgc2, s1, s2, s3, s4, d1, fit, f2, f3]
                refine ⟨by subst hes; exact ⟨by kernel_rfl, by kernel_rfl⟩, ?_⟩
                refine does_use (len_keep hn2 (by simp [q1, q2, q3, q4, hac]) (by simp [r1, r2, r3, r4, hbc])) ?_
                rintro _ _ ⟨rfl, rfl⟩
                simp [h0, h3, h5, w1, al36, hpl, -alen]
                refine ⟨m - 1, by omega, i + 1, by omega, by simp, play_sent (c' := H2.next + 1 + 1 + 1) hw hws.1 hkey hle hbs ⟨xf, xt, _⟩ ⟨xf, xt, (y :: ys), .sl (H2.next + 1) 0 1 (ys.length + 1) (ys.length + 1) true⟩ rfl (by simp at hxb ⊢; try omega) (hn2.keep (by simp [q1, q2, q3, q4, hac]) (by simp [r1, r2, r3, r4, hbc])) hbb (.inr (by omega)) (fun j j1 j2 j3 j4 => ?_) ⟨H2.next + 1, _, _, rfl, by simp [b8, x2, x3, s1, s2, s3, s4, Ne.symm s1, Ne.symm s2, Ne.symm s3, Ne.symm s4], by omega, by omega, by omega⟩ ⟨ws.length + 1, true, [], by simp, by omega, by omega, by simp [Wp.cells], by simp; omega, by omega⟩⟩
                · have e1 : j ≠ H2.next := by omega
                  have e2 : j ≠ H2.next + 1 := by omega
                  have e3 : j ≠ H2.next + 1 + 1 := by omega
                  have e4 : j ≠ H2.next + 1 + 1 + 1 := by omega
                  simp [e1, e2, e3, e4, j4, hkk j j1 j2 j3]
      · have hk1 : 0 ≤ xk := hk.1
        have hk2 : xk < ws.length := hk.2
        simp [hk1, hk2, h0, h3, h5, hlw, -alen]
        refine does_usew (send_small _ a b ps xf xt (pkb xb) (xb.getD []) ⟨xf, xt, xb⟩ hnet1 (by omega) (pkb_bts _ _) (by omega) (by simp [Pk.cells])) ?_
        rintro _ H2 ⟨rfl, b', hn2, k2⟩ hw2 _
        have g2 : H2.get H.next = some (.cells [.int .i64 0, .int .i64 xk, .int .i64 xf, .int .i64 xt, pkb xb]) := by
          rw [k2.2.2 H.next (by simp) (by omega) (by omega)]; simp
        have hn2' := k2.1
        simp at hn2'
        have n2 : H.next ≠ H2.next := by omega
        have n3 : H.next ≠ H2.next + 1 := by omega
        have n4 : H.next ≠ H2.next + 1 + 1 := by omega
        simp [-alen, h0, h3, h5]
        refine aw_drawn [(3, 0), (3, 12), (6, 0), (6, 12), (10, 0)] Try.mixed (by kernel_rfl) ?_
        intro es hes
        have hxc : (xb = none ∨ xb = some []) ∨ ∃ y ys, xb = some (y :: ys) := by
          rcases xb with _ | _ | ⟨y, ys⟩
          · exact .inl (.inl rfl)
          · exact .inl (.inr rfl)
          · exact .inr ⟨y, ys, rfl⟩
        have hkk : ∀ j, j < H.next → j ≠ a → j ≠ b → H2.get j = H.get j := fun j hj h1 h2 => by
          rw [k2.2.2 j (by simp; omega) h1 h2]
          have : j ≠ H.next := by omega
          simp [this]
        have hbb : b' = b ∨ H.next ≤ b' := by
          rcases k2.2.1 with h | h
          · exact .inl h
          · simp at h; right; omega
        have hab := hn2.lt hw2
        have q1 : a ≠ H2.next := by omega
        have q2 : a ≠ H2.next + 1 := by omega
        have q3 : a ≠ H2.next + 1 + 1 := by omega
        have r1 : b' ≠ H2.next := by omega
        have r2 : b' ≠ H2.next + 1 := by omega
        have r3 : b' ≠ H2.next + 1 + 1 := by omega
        have q4 : a ≠ H2.next + 1 + 1 + 1 := by omega
        have r4 : b' ≠ H2.next + 1 + 1 + 1 := by omega
        have x2 : H2.next ≠ H2.next + 1 + 1 := by omega
        have x3 : H2.next ≠ H2.next + 1 + 1 + 1 := by omega
        have s1 : c ≠ H2.next := by omega
        have n5 : H.next ≠ H2.next + 1 + 1 + 1 := by omega
        rcases hxc with hxc | ⟨y, ys, rfl⟩
        · rcases hxc with rfl | rfl
          all_goals
            rcases hws.2 with ⟨e4, hwn, hca⟩ | ⟨cap, opn, junk, e4, hca, hcb, hgc, hjl, hcap⟩
            · have hac : True := trivial
              have hbc : True := trivial
              simp [g2, n2, n3, n4, n5, h0, h3, h5, e4, pkb, -alen, rds, heapF]
              refine ⟨by subst hes; exact ⟨by kernel_rfl, by kernel_rfl⟩, ?_⟩
              refine does_use (len_keep hn2 (by simp [q1, q2, q3, q4, hac]) (by simp [r1, r2, r3, r4, hbc])) ?_
              rintro _ _ ⟨rfl, rfl⟩
              simp [h0, h3, h5, w1, al36, hpl, -alen, hwn]
              refine ⟨m - 1, by omega, i + 1, by omega, by simp, play_sent (c' := H2.next + 1 + 1) hw hws.1 hkey hle hbs ⟨xf, xt, _⟩ ⟨xf, xt, [], .sl H2.next 0 1 0 0 false⟩ rfl (by simp at hxb ⊢; try omega) (hn2.keep (by simp [q1, q2, q3, q4, hac]) (by simp [r1, r2, r3, r4, hbc])) hbb (.inr (by omega)) (fun j j1 j2 j3 j4 => ?_) ⟨H2.next, _, _, rfl, by simp [b8, x2, x3, s1], by omega, by omega, by omega⟩ ⟨1, true, [], by simp [hwn], by omega, by omega, by simp [hwn, Wp.cells], by simp [hwn], by omega⟩⟩
              · have e1 : j ≠ H2.next := by omega
                have e2 : j ≠ H2.next + 1 := by omega
                have e3 : j ≠ H2.next + 1 + 1 := by omega
                have e4 : j ≠ H2.next + 1 + 1 + 1 := by omega
                simp [e1, e2, e3, e4, j4, hkk j j1 j2 j3]
            · have hgc2 : H2.get c = some (.cells (wcells ws ++ junk)) := by rw [hkk c hcl hca hcb]; exact hgc
              have s1 : c ≠ H2.next := by omega
              have s2 : c ≠ H2.next + 1 := by omega
              have s3 : c ≠ H2.next + 1 + 1 := by omega
              have s4 : c ≠ H2.next + 1 + 1 + 1 := by omega
              have hac : a ≠ c := Ne.symm hca
              have hbc : b' ≠ c := by omega
              have d1 : List.drop (ws.length * 3 + 3) (wcells ws ++ junk) = junk.drop 3 := by rw [← List.drop_drop, List.drop_left' (by simp)]
              by_cases fit : ws.length + 1 ≤ cap
              · have f2 : (ws.length + 1) * 3 ≤ ws.length * 3 + junk.length := by omega
                simp [g2, n2, n3, n4, n5, h0, h3, h5, e4, pkb, -alen, rds, heapF, hgc2, s1, s2, s3, s4, d1, fit, f2]
                refine ⟨by subst hes; exact ⟨by kernel_rfl, by kernel_rfl⟩, ?_⟩
                refine does_use (len_keep hn2 (by simp [q1, q2, q3, q4, hac]) (by simp [r1, r2, r3, r4, hbc])) ?_
                rintro _ _ ⟨rfl, rfl⟩
                simp [h0, h3, h5, w1, al36, hpl, -alen]
                refine ⟨m - 1, by omega, i + 1, by omega, by simp, play_sent (c' := c) hw hws.1 hkey hle hbs ⟨xf, xt, _⟩ ⟨xf, xt, [], .sl H2.next 0 1 0 0 false⟩ rfl (by simp at hxb ⊢; try omega) (hn2.keep (by simp [q1, q2, q3, q4, hac]) (by simp [r1, r2, r3, r4, hbc])) hbb (.inl rfl) (fun j j1 j2 j3 j4 => ?_) ⟨H2.next, _, _, rfl, by simp [b8, x2, x3, s1, s2, s3, s4, Ne.symm s1, Ne.symm s2, Ne.symm s3, Ne.symm s4], by omega, by omega, by omega⟩ ⟨cap, opn, junk.drop 3, by simp, by omega, by omega, by simp [Wp.cells], by simp; omega, by omega⟩⟩
                · have e1 : j ≠ H2.next := by omega
                  have e2 : j ≠ H2.next + 1 := by omega
                  have e3 : j ≠ H2.next + 1 + 1 := by omega
                  have e4 : j ≠ H2.next + 1 + 1 + 1 := by omega
                  simp [e1, e2, e3, e4, j4, hkk j j1 j2 j3]
              · have f2 : (ws.length + 1) * 40 ≤ 140737488355328 := by omega
                have f3 : ws.length ≤ 4611686018427387903 := by omega
                cases opn
                all_goals
                  simp [g2, n2, n3, n4, n5, h0, h3, h5, e4, pkb, -alen, rds, heapF, hgc2, s1, s2, s3, s4, d1, fit, f2, f3]
                  refine ⟨by subst hes; exact ⟨by kernel_rfl, by kernel_rfl⟩, ?_⟩
                  refine does_use (len_keep hn2 (by simp [q1, q2, q3, q4, hac]) (by simp [r1, r2, r3, r4, hbc])) ?_
                  rintro _ _ ⟨rfl, rfl⟩
                  simp [h0, h3, h5, w1, al36, hpl, -alen]
                  refine ⟨m - 1, by omega, i + 1, by omega, by simp, play_sent (c' := H2.next + 1 + 1) hw hws.1 hkey hle hbs ⟨xf, xt, _⟩ ⟨xf, xt, [], .sl H2.next 0 1 0 0 false⟩ rfl (by simp at hxb ⊢; try omega) (hn2.keep (by simp [q1, q2, q3, q4, hac]) (by simp [r1, r2, r3, r4, hbc])) hbb (.inr (by omega)) (fun j j1 j2 j3 j4 => ?_) ⟨H2.next, _, _, rfl, by simp [b8, x2, x3, s1, s2, s3, s4, Ne.symm s1, Ne.symm s2, Ne.symm s3, Ne.symm s4], by omega, by omega, by omega⟩ ⟨ws.length + 1, true, [], by simp, by omega, by omega, by simp [Wp.cells], by simp; omega, by omega⟩⟩
                  · have e1 : j ≠ H2.next := by omega
                    have e2 : j ≠ H2.next + 1 := by omega
                    have e3 : j ≠ H2.next + 1 + 1 := by omega
                    have e4 : j ≠ H2.next + 1 + 1 + 1 := by omega
                    simp [e1, e2, e3, e4, j4, hkk j j1 j2 j3]
        · have tk : List.take (ys.length + 1) (b8 (y :: ys)) = b8 (y :: ys) := List.take_of_length_le (by simp)
          have sc : (∀ x : AV, x ∈ b8 (y :: ys) → x.scalar = true) = True := eq_true (b8_scalar _)
          have l1 : ys.length ≤ 140737488355327 := by simp at hxb; omega
          have l2 : ys.length ≤ 4611686018427387903 := by omega
          rcases hws.2 with ⟨e4, hwn, hca⟩ | ⟨cap, opn, junk, e4, hca, hcb, hgc, hjl, hcap⟩
          · have hac : True := trivial
            have hbc : True := trivial
            simp [g2, n2, n3, n4, n5, h0, h3, h5, e4, pkb, -alen, rds, heapF, tk, sc, l1, l2]
            refine ⟨by subst hes; exact ⟨by kernel_rfl, by kernel_rfl⟩, ?_⟩
            refine does_use (len_keep hn2 (by simp [q1, q2, q3, q4, hac]) (by simp [r1, r2, r3, r4, hbc])) ?_
            rintro _ _ ⟨rfl, rfl⟩
            simp [h0, h3, h5, w1, al36, hpl, -alen, hwn]
            refine ⟨m - 1, by omega, i + 1, by omega, by simp, play_sent (c' := H2.next + 1 + 1 + 1) hw hws.1 hkey hle hbs ⟨xf, xt, _⟩ ⟨xf, xt, (y :: ys), .sl (H2.next + 1) 0 1 (ys.length + 1) (ys.length + 1) true⟩ rfl (by simp at hxb ⊢; try omega) (hn2.keep (by simp [q1, q2, q3, q4, hac]) (by simp [r1, r2, r3, r4, hbc])) hbb (.inr (by omega)) (fun j j1 j2 j3 j4 => ?_) ⟨H2.next + 1, _, _, rfl, by simp [b8, x2, x3, s1], by omega, by omega, by omega⟩ ⟨1, true, [], by simp [hwn], by omega, by omega, by simp [hwn, Wp.cells], by simp [hwn], by omega⟩⟩
            · have e1 : j ≠ H2.next := by omega
              have e2 : j ≠ H2.next + 1 := by omega
              have e3 : j ≠ H2.next + 1 + 1 := by omega
              have e4 : j ≠ H2.next + 1 + 1 + 1 := by omega
              simp [e1, e2, e3, e4, j4, hkk j j1 j2 j3]
          · have hgc2 : H2.get c = some (.cells (wcells ws ++ junk)) := by rw [hkk c hcl hca hcb]; exact hgc
            have s1 : c ≠ H2.next := by omega
            have s2 : c ≠ H2.next + 1 := by omega
            have s3 : c ≠ H2.next + 1 + 1 := by omega
            have s4 : c ≠ H2.next + 1 + 1 + 1 := by omega
            have hac : a ≠ c := Ne.symm hca
            have hbc : b' ≠ c := by omega
            have d1 : List.drop (ws.length * 3 + 3) (wcells ws ++ junk) = junk.drop 3 := by rw [← List.drop_drop, List.drop_left' (by simp)]
            by_cases fit : ws.length + 1 ≤ cap
            · have f2 : (ws.length + 1) * 3 ≤ ws.length * 3 + junk.length := by omega
              simp [g2, n2, n3, n4, n5, h0, h3, h5, e4, pkb, -alen, rds, heapF, tk, sc, l1, l2, hgc2, s1, s2, s3, s4, d1, fit, f2]
              refine ⟨by subst hes; exact ⟨by kernel_rfl, by kernel_rfl⟩, ?_⟩
              refine does_use (len_keep hn2 (by simp [q1, q2, q3, q4, hac]) (by simp [r1, r2, r3, r4, hbc])) ?_
              rintro _ _ ⟨rfl, rfl⟩
              simp [h0, h3, h5, w1, al36, hpl, -alen]
              refine ⟨m - 1, by omega, i + 1, by omega, by simp, play_sent (c' := c) hw hws.1 hkey hle hbs ⟨xf, xt, _⟩ ⟨xf, xt, (y :: ys), .sl (H2.next + 1) 0 1 (ys.length + 1) (ys.length + 1) true⟩ rfl (by simp at hxb ⊢; try omega) (hn2.keep (by simp [q1, q2, q3, q4, hac]) (by simp [r1, r2, r3, r4, hbc])) hbb (.inl rfl) (fun j j1 j2 j3 j4 => ?_) ⟨H2.next + 1, _, _, rfl, by simp [b8, x2, x3, s1, s2, s3, s4, Ne.symm s1, Ne.symm s2, Ne.symm s3, Ne.symm s4], by omega, by omega, by omega⟩ ⟨cap, opn, junk.drop 3, by simp, by omega, by omega, by simp [Wp.cells], by simp; omega, by omega⟩⟩
              · have e1 : j ≠ H2.next := by omega
                have e2 : j ≠ H2.next + 1 := by omega
                have e3 : j ≠ H2.next + 1 + 1 := by omega
                have e4 : j ≠ H2.next + 1 + 1 + 1 := by omega
                simp [e1, e2, e3, e4, j4, hkk j j1 j2 j3]
            · have f2 : (ws.length + 1) * 40 ≤ 140737488355328 := by omega
              have f3 : ws.length ≤ 4611686018427387903 := by omega
              cases opn
              all_goals
                simp [g2, n2, n3, n4, n5, h0, h3, h5, e4, pkb, -alen, rds, heapF, tk, sc, l1, l2, hgc2, s1, s2, s3, s4, d1, fit, f2, f3]
                refine ⟨by subst hes; exact ⟨by kernel_rfl, by kernel_rfl⟩, ?_⟩
                refine does_use (len_keep hn2 (by simp [q1, q2, q3, q4, hac]) (by simp [r1, r2, r3, r4, hbc])) ?_
                rintro _ _ ⟨rfl, rfl⟩
                simp [h0, h3, h5, w1, al36, hpl, -alen]
                refine ⟨m - 1, by omega, i + 1, by omega, by simp, play_sent (c' := H2.next + 1 + 1 + 1) hw hws.1 hkey hle hbs ⟨xf, xt, _⟩ ⟨xf, xt, (y :: ys), .sl (H2.next + 1) 0 1 (ys.length + 1) (ys.length + 1) true⟩ rfl (by simp at hxb ⊢; try omega) (hn2.keep (by simp [q1, q2, q3, q4, hac]) (by simp [r1, r2, r3, r4, hbc])) hbb (.inr (by omega)) (fun j j1 j2 j3 j4 => ?_) ⟨H2.next + 1, _, _, rfl, by simp [b8, x2, x3, s1, s2, s3, s4, Ne.symm s1, Ne.symm s2, Ne.symm s3, Ne.symm s4], by omega, by omega, by omega⟩ ⟨ws.length + 1, true, [], by simp, by omega, by omega, by simp [Wp.cells], by simp; omega, by omega⟩⟩
                · have e1 : j ≠ H2.next := by omega
                  have e2 : j ≠ H2.next + 1 := by omega
                  have e3 : j ≠ H2.next + 1 + 1 := by omega
                  have e4 : j ≠ H2.next + 1 + 1 + 1 := by omega
                  simp [e1, e2, e3, e4, j4, hkk j j1 j2 j3]
    by_cases o3 : xop = 3
    · subst o3
      rcases cases3 with hk | hk | hk
      · have hk1 : ¬ 0 ≤ xk := by omega
        have hin : xk < 0 ∨ (ps.length : Int) ≤ xk := by omega
        simp [hk1, h0, h3, h5, hlw, -alen]
        refine does_use (lose_none _ a b ps xk hnet1 hin) ?_
        rintro _ _ ⟨rfl, rfl⟩
        simp [h0, h3, h5, -alen]
        refine does_use (len_spec' _ a b _ hnet1) ?_
        rintro _ _ ⟨rfl, rfl⟩
        simp [h0, h3, h5, w1, hlw, hpl, -alen]
        refine ⟨m - 1, by omega, i + 1, by omega, by simp, play_same hw hws hkey hle hbs hnet1 fun j j1 _ _ => ?_⟩
        have e1 : j ≠ H.next := by omega
        have e2 : j ≠ H.next + 1 := by omega
        simp [e1, e2]
      · have hk1 : 0 ≤ xk := hk.1
        have hk2 : ¬ xk < ws.length := by omega
        have hin : xk < 0 ∨ (ps.length : Int) ≤ xk := by omega
        simp [hk1, hk2, h0, h3, h5, hlw, -alen]
        refine does_use (lose_none _ a b ps xk hnet1 hin) ?_
        rintro _ _ ⟨rfl, rfl⟩
        simp [h0, h3, h5, -alen]
        refine does_use (len_spec' _ a b _ hnet1) ?_
        rintro _ _ ⟨rfl, rfl⟩
        simp [h0, h3, h5, w1, hlw, hpl, -alen]
        refine ⟨m - 1, by omega, i + 1, by omega, by simp, play_same hw hws hkey hle hbs hnet1 fun j j1 _ _ => ?_⟩
        have e1 : j ≠ H.next := by omega
        have e2 : j ≠ H.next + 1 := by omega
        simp [e1, e2]
      · have hk1 : 0 ≤ xk := hk.1
        have hk2 : xk < ws.length := hk.2
        simp [hk1, hk2, h0, h3, h5, hlw, -alen]
        obtain ⟨k, rfl⟩ : ∃ k : Nat, xk = k := ⟨xk.toNat, by omega⟩
        obtain ⟨A, p, B, A', q, B', rfl, rfl, hA, hA', hpq, hAA, hBB⟩ := split_at hkey k (by omega)
        rcases hws.2 with ⟨_, h, _⟩ | ⟨cap, opn, junk, e4, hca, hcb, hgc, hjl, hcap⟩
        · simp at h
        have hqb : q.bs.length ≤ 200 := hbs q (by simp)
        have hpb : (p.b.getD []).length ≤ 1000000 := by
          have : p.b.getD [] = q.bs := congrArg (fun x => x.2.2) hpq
          rw [this]; omega
        refine does_usew (lose_some _ a b A B p k hnet1 hA.symm hpb) ?_
        rintro _ H2 ⟨rfl, hn2, k2⟩ hw2 _
        have hkk : ∀ j, j < H.next → j ≠ a → j ≠ b → H2.get j = H.get j := fun j hj h1 h2 => by
          rw [k2.2.2 j (by simp; omega) h1 h2]
          have : j ≠ H.next := by omega
          simp [this]
        have hn2' := k2.1
        simp at hn2'
        have g2 : H2.get H.next = some (.cells [.int .i64 3, .int .i64 k, .int .i64 xf, .int .i64 xt, pkb xb]) := by
          rw [k2.2.2 H.next (by simp) (by omega) (by omega)]; simp
        have hgc2 : H2.get c = some (.cells (wcells (A' ++ q :: B') ++ junk)) := by rw [hkk c hcl hca hcb]; exact hgc
        simp [h0, h3, h5, e4, -alen, g2]
        rw [← hA']
        refine does_usew (without_use H2 c cap opn A' B' q junk hgc2 hjl hcap (LB.scalar hws.1)) ?_
        rintro _ H3 ⟨c', op', rfl, hc', hg', gr⟩ hw3 _
        have ha3 : H3.get a = H2.get a := gr.2.2 a (by omega)
        have hb3 : H3.get b = H2.get b := gr.2.2 b (by omega)
        simp [h0, h3, h5, -alen]
        refine does_use (len_keep hn2 ha3 hb3) ?_
        rintro _ _ ⟨rfl, rfl⟩
        have hl1 : (A ++ B).length = A'.length + B'.length := by
          have e1 := congrArg List.length hAA
          have e2 := congrArg List.length hBB
          simp at e1 e2 ⊢; omega
        simp [h0, h3, h5, w1, al36, hl1, -alen]
        refine ⟨m - 1, by omega, i + 1, by omega, by simp, play_cut (p := p) (op := op') hw hws.1 hAA hBB hle hbs (hn2.keep ha3 hb3) (fun j j1 j2 j3 => by rw [gr.2.2 j (by omega)]; exact hkk j j1 j2 j3) (by omega) (by omega) (by omega) (by simp) hg' (by rw [List.length_append, ← hl1]; simp at hle ⊢; omega)⟩
    by_cases o4 : xop = 4
    · subst o4
      rcases cases3 with hk | hk | hk
      · have hk1 : ¬ 0 ≤ xk := by omega
        have hin : xk < 0 ∨ (ps.length : Int) ≤ xk := by omega
        simp [hk1, h0, h3, h5, hlw, -alen]
        refine does_use (double_none _ a b ps xk hnet1 hin) ?_
        rintro _ _ ⟨rfl, rfl⟩
        simp [h0, h3, h5, -alen]
        refine does_use (len_spec' _ a b _ hnet1) ?_
        rintro _ _ ⟨rfl, rfl⟩
        simp [h0, h3, h5, w1, hlw, hpl, -alen]
        refine ⟨m - 1, by omega, i + 1, by omega, by simp, play_same hw hws hkey hle hbs hnet1 fun j j1 _ _ => ?_⟩
        have e1 : j ≠ H.next := by omega
        have e2 : j ≠ H.next + 1 := by omega
        simp [e1, e2]
      · have hk1 : 0 ≤ xk := hk.1
        have hk2 : ¬ xk < ws.length := by omega
        have hin : xk < 0 ∨ (ps.length : Int) ≤ xk := by omega
        simp [hk1, hk2, h0, h3, h5, hlw, -alen]
        refine does_use (double_none _ a b ps xk hnet1 hin) ?_
        rintro _ _ ⟨rfl, rfl⟩
        simp [h0, h3, h5, -alen]
        refine does_use (len_spec' _ a b _ hnet1) ?_
        rintro _ _ ⟨rfl, rfl⟩
        simp [h0, h3, h5, w1, hlw, hpl, -alen]
        refine ⟨m - 1, by omega, i + 1, by omega, by simp, play_same hw hws hkey hle hbs hnet1 fun j j1 _ _ => ?_⟩
        have e1 : j ≠ H.next := by omega
        have e2 : j ≠ H.next + 1 := by omega
        simp [e1, e2]
      · have hk1 : 0 ≤ xk := hk.1
        have hk2 : xk < ws.length := hk.2
        simp [hk1, hk2, h0, h3, h5, hlw, -alen]
        obtain ⟨k, rfl⟩ : ∃ k : Nat, xk = k := ⟨xk.toNat, by omega⟩
        obtain ⟨A, p, B, A', q, B', rfl, rfl, hA, hA', hpq, hAA, hBB⟩ := split_at hkey k (by omega)
        rcases hws.2 with ⟨_, h, _⟩ | ⟨cap, opn, junk, e4, hca, hcb, hgc, hjl, hcap⟩
        · simp at h
        have hqb : q.bs.length ≤ 200 := hbs q (by simp)
        have hpb : (p.b.getD []).length ≤ 1000000 := by
          have : p.b.getD [] = q.bs := congrArg (fun x => x.2.2) hpq
          rw [this]; omega
        have hlt : (A ++ p :: B).length < 512 := by omega
        refine does_usew (double_some _ a b A B p k hnet1 hA.symm hlt hpb) ?_
        rintro _ H2 ⟨rfl, b', hn2, k2⟩ hw2 _
        have hkk : ∀ j, j < H.next → j ≠ a → j ≠ b → H2.get j = H.get j := fun j hj h1 h2 => by
          rw [k2.2.2 j (by simp; omega) h1 h2]
          have : j ≠ H.next := by omega
          simp [this]
        have hn2' := k2.1
        simp at hn2'
        have hsame := same_spec (G := fun _ => none)
        have hp1 : p.f = q.f := congrArg (fun x => x.1) hpq
        have hp2 : p.t = q.t := congrArg (fun x => x.2.1) hpq
        have hp3 : p.b.getD [] = q.bs := congrArg (fun x => x.2.2) hpq
        have hqL := hws.1 q (by simp)
        have dr : List.drop (k * 3) (wcells (A' ++ q :: B') ++ junk) = q.cells ++ (wcells B' ++ junk) := by
          simp only [wcells_append, wcells_cons, List.append_assoc]
          rw [List.drop_left' (by simp [hA'])]
        have hlt2 : k < A'.length + (B'.length + 1) := by omega
        have hlt3 : (k : Int) < (A'.length : Int) + ((B'.length : Int) + 1) := by omega
        have hlt4 : k * 3 ≤ (wcells (A' ++ q :: B') ++ junk).length := by simp; omega
        have hbb : b' = b ∨ H.next ≤ b' := by
          rcases k2.2.1 with h | h
          · exact .inl h
          · simp at h; right; omega
        have hab := hn2.lt hw2
        have g2 : H2.get H.next = some (.cells [.int .i64 4, .int .i64 k, .int .i64 xf, .int .i64 xt, pkb xb]) := by
          rw [k2.2.2 H.next (by simp) (by omega) (by omega)]; simp
        have hgc2 : H2.get c = some (.cells (wcells (A' ++ q :: B') ++ junk)) := by rw [hkk c hcl hca hcb]; exact hgc
        generalize hcs : wcells (A' ++ q :: B') ++ junk = cs at *
        have sq : q.v.scalar = true := LB.scalar hws.1 q (by simp)
        have s1 : c ≠ H2.next := by omega
        have s2 : c ≠ H2.next + 1 := by omega
        have q1 : a ≠ H2.next := by omega
        have q2 : a ≠ H2.next + 1 := by omega
        have r1 : b' ≠ H2.next := by omega
        have r2 : b' ≠ H2.next + 1 := by omega
        have hac : a ≠ c := Ne.symm hca
        have hbc : b' ≠ c := by omega
        obtain ⟨n, hn⟩ : ∃ n, n = A'.length + (B'.length + 1) := ⟨_, rfl⟩
        have hwn : (A' ++ q :: B').length = n := by simp [hn]
        have hWl : (wcells (A' ++ q :: B')).length = n * 3 := by rw [wcells_length, hwn]
        have tk : List.take (n * 3) cs = wcells (A' ++ q :: B') := by rw [← hcs, List.take_left' hWl]
        have d1 : List.drop (n * 3 + 3) cs = junk.drop 3 := by rw [← hcs, ← List.drop_drop, List.drop_left' hWl]
        have hcl' : cs.length = n * 3 + junk.length := by rw [← hcs, List.length_append, hWl]
        rw [hwn] at hjl
        have t1 : n * 3 ≤ n * 3 + junk.length := by omega
        have t0 : k * 3 ≤ n * 3 + junk.length := by omega
        have t2 : (n + 1) * 40 ≤ 140737488355328 := by omega
        have t3 : n ≤ 4611686018427387903 := by omega
        have hkl : (A ++ p :: B ++ [p]).length = n + 1 := by
          have := congrArg List.length hkey
          simp at this ⊢; omega
        rw [← hn] at hlt2
        have hlt3' : (k : Int) < n := by omega
        have hnI : (A'.length : Int) + ((B'.length : Int) + 1) = n := by omega
        have fin : ∀ (Hf : AHeap) (c' : Nat) (w'' : AV), NetAt Hf a b' (A ++ p :: B ++ [p]) → (c' = c ∨ H.next ≤ c') → (∀ j, j < H.next → j ≠ c → Hf.get j = H2.get j) → (∃ cap op junk, c' ≠ a ∧ c' ≠ b' ∧ Hf.get c' = some (.cells (wcells (A' ++ q :: B') ++ (q.cells ++ junk))) ∧ (n + 1) * 3 + junk.length = 3 * cap ∧ cap < 1000000 ∧ w'' = .sl c' 0 3 (n + 1) cap op) → PlayI a Hf (i + 1) w'' := by
          intro Hf c' w'' hnf hc hk ⟨cap, op, junk, e1, e2, e3, e4, e5, e6⟩
          have hk' : ∀ j, j < H.next → j ≠ a → j ≠ b → j ≠ c → Hf.get j = H.get j := fun j j1 j2 j3 j4 => by rw [hk j j1 j4]; exact hkk j j1 j2 j3
          exact play_sent (c' := c') hw hws.1 hkey hle hbs p q hpq hqb hnf hbb hc hk' (LB.step hws.1 hw hbb hc hk' q (by simp)) ⟨cap, op, junk, by rw [hwn]; exact e6, e1, e2, e3, by rw [hwn]; exact e4, e5⟩
        by_cases fit : n + 1 ≤ cap
        · have f2 : (n + 1) * 3 ≤ n * 3 + junk.length := by omega
          simp [h0, h3, h5, e4, g2, hgc2, dr, ← hn, hnI, hlt2, hlt3', hlt4, Wp.cells, -alen, sq, s1, s2, fit, f2, tk, d1, hcl', t0, t1, t2, t3]
          refine does_use (len_keep hn2 (by simp [q1, q2, hac]) (by simp [r1, r2, hbc])) ?_
          rintro _ _ ⟨rfl, rfl⟩
          simp only [List.append_assoc, List.cons_append] at hkl
          simp [h0, h3, h5, w1, al36, hkl, -alen]
          refine ⟨m - 1, by omega, i + 1, by omega, by simp, ?_⟩
          refine fin _ (c) _ (hn2.keep ?_ ?_) (.inl rfl) (fun j j1 j4 => ?_) ⟨cap, opn, junk.drop 3, by omega, by omega, by simp [Wp.cells], by simp; omega, by omega, by simp⟩
          · simp [q1, q2, hac]
          · simp [r1, r2, hbc]
          have e1 : j ≠ H2.next := by omega
          have e2 : j ≠ H2.next + 1 := by omega
          simp [e1, e2, j4]
        · have f2 : True := trivial
          cases opn
          all_goals
            simp [h0, h3, h5, e4, g2, hgc2, dr, ← hn, hnI, hlt2, hlt3', hlt4, Wp.cells, -alen, sq, s1, s2, fit, f2, tk, d1, hcl', t0, t1, t2, t3]
            refine does_use (len_keep hn2 (by simp [q1, q2, hac]) (by simp [r1, r2, hbc])) ?_
            rintro _ _ ⟨rfl, rfl⟩
            simp only [List.append_assoc, List.cons_append] at hkl
            simp [h0, h3, h5, w1, al36, hkl, -alen]
            refine ⟨m - 1, by omega, i + 1, by omega, by simp, ?_⟩
            refine fin _ (H2.next + 1) _ (hn2.keep ?_ ?_) (.inr (by omega)) (fun j j1 j4 => ?_) ⟨n + 1, true, [], by omega, by omega, by simp [Wp.cells], by simp; omega, by omega, by simp⟩
            · simp [q1, q2, hac]
            · simp [r1, r2, hbc]
            have e1 : j ≠ H2.next := by omega
            have e2 : j ≠ H2.next + 1 := by omega
            simp [e1, e2, j4]
    by_cases o2 : xop = 2
    · subst o2
      rcases cases3 with hk | hk | hk
      · have hk1 : ¬ 0 ≤ xk := by omega
        have hin : xk < 0 ∨ (ps.length : Int) ≤ xk := by omega
        simp [hk1, h0, h3, h5, hlw, -alen]
        refine does_use (deliver_none _ a b ps xk hnet1 hin) ?_
        rintro _ _ ⟨rfl, rfl⟩
        simp [h0, h3, h5, -alen]
        refine aw_drawn [] Try.mixed (by kernel_rfl) ?_
        intro es hes
        simp [h0, h3, h5, -alen, rds]
        refine ⟨by subst hes; exact ⟨by kernel_rfl, by kernel_rfl⟩, ?_⟩
        have ea1 : a ≠ H.next := by omega
        have ea2 : a ≠ H.next + 1 := by omega
        have eb1 : b ≠ H.next := by omega
        have eb2 : b ≠ H.next + 1 := by omega
        refine does_use (len_keep hnet (by simp [ea1, ea2]) (by simp [eb1, eb2])) ?_
        rintro _ _ ⟨rfl, rfl⟩
        simp [h0, h3, h5, w1, hlw, hpl, -alen]
        refine ⟨m - 1, by omega, i + 1, by omega, by simp, play_same hw hws hkey hle hbs (hnet.keep (by simp [ea1, ea2]) (by simp [eb1, eb2])) fun j j1 _ _ => ?_⟩
        have e1 : j ≠ H.next := by omega
        have e2 : j ≠ H.next + 1 := by omega
        simp [e1, e2]
      · have hk1 : 0 ≤ xk := hk.1
        have hk2 : ¬ xk < ws.length := by omega
        have hin : xk < 0 ∨ (ps.length : Int) ≤ xk := by omega
        simp [hk1, hk2, h0, h3, h5, hlw, -alen]
        refine does_use (deliver_none _ a b ps xk hnet1 hin) ?_
        rintro _ _ ⟨rfl, rfl⟩
        simp [h0, h3, h5, -alen]
        refine aw_drawn [] Try.mixed (by kernel_rfl) ?_
        intro es hes
        simp [h0, h3, h5, -alen, rds]
        refine ⟨by subst hes; exact ⟨by kernel_rfl, by kernel_rfl⟩, ?_⟩
        have ea1 : a ≠ H.next := by omega
        have ea2 : a ≠ H.next + 1 := by omega
        have eb1 : b ≠ H.next := by omega
        have eb2 : b ≠ H.next + 1 := by omega
        refine does_use (len_keep hnet (by simp [ea1, ea2]) (by simp [eb1, eb2])) ?_
        rintro _ _ ⟨rfl, rfl⟩
        simp [h0, h3, h5, w1, hlw, hpl, -alen]
        refine ⟨m - 1, by omega, i + 1, by omega, by simp, play_same hw hws hkey hle hbs (hnet.keep (by simp [ea1, ea2]) (by simp [eb1, eb2])) fun j j1 _ _ => ?_⟩
        have e1 : j ≠ H.next := by omega
        have e2 : j ≠ H.next + 1 := by omega
        simp [e1, e2]
      · have hk1 : 0 ≤ xk := hk.1
        have hk2 : xk < ws.length := hk.2
        simp [hk1, hk2, h0, h3, h5, hlw, -alen]
        obtain ⟨k, rfl⟩ : ∃ k : Nat, xk = k := ⟨xk.toNat, by omega⟩
        obtain ⟨A, p, B, A', q, B', rfl, rfl, hA, hA', hpq, hAA, hBB⟩ := split_at hkey k (by omega)
        rcases hws.2 with ⟨_, h, _⟩ | ⟨cap, opn, junk, e4, hca, hcb, hgc, hjl, hcap⟩
        · simp at h
        have hqb : q.bs.length ≤ 200 := hbs q (by simp)
        have hpb : (p.b.getD []).length ≤ 1000000 := by
          have : p.b.getD [] = q.bs := congrArg (fun x => x.2.2) hpq
          rw [this]; omega
        refine does_usew (deliver_some _ a b A B p k hnet1 hA.symm hpb) ?_
        rintro _ H2 ⟨rfl, hn2, k2⟩ hw2 _
        have hkk : ∀ j, j < H.next → j ≠ a → j ≠ b → H2.get j = H.get j := fun j hj h1 h2 => by
          rw [k2.2.2 j (by simp; omega) h1 h2]
          have : j ≠ H.next := by omega
          simp [this]
        have hn2' := k2.1
        simp at hn2'
        have hsame := same_spec (G := fun _ => none)
        have hp1 : p.f = q.f := congrArg (fun x => x.1) hpq
        have hp2 : p.t = q.t := congrArg (fun x => x.2.1) hpq
        have hp3 : p.b.getD [] = q.bs := congrArg (fun x => x.2.2) hpq
        have hqL := hws.1 q (by simp)
        have dr : List.drop (k * 3) (wcells (A' ++ q :: B') ++ junk) = q.cells ++ (wcells B' ++ junk) := by
          simp only [wcells_append, wcells_cons, List.append_assoc]
          rw [List.drop_left' (by simp [hA'])]
        have hlt2 : k < A'.length + (B'.length + 1) := by omega
        have hlt3 : (k : Int) < (A'.length : Int) + ((B'.length : Int) + 1) := by omega
        have hlt4 : k * 3 ≤ (wcells (A' ++ q :: B') ++ junk).length := by simp; omega
        have g2 : H2.get H.next = some (.cells [.int .i64 2, .int .i64 k, .int .i64 xf, .int .i64 xt, pkb xb]) := by
          rw [k2.2.2 H.next (by simp) (by omega) (by omega)]; simp
        have hgc2 : H2.get c = some (.cells (wcells (A' ++ q :: B') ++ junk)) := by rw [hkk c hcl hca hcb]; exact hgc
        have s1 : c ≠ H2.next := by omega
        have n2 : H.next ≠ H2.next := by omega
        simp [h0, h3, h5, e4, g2, n2, Pk.cells, -alen]
        refine aw_drawn [(6, 0), (9, 0), (11, 0)] Try.mixed (by kernel_rfl) ?_
        intro es hes
        obtain ⟨qi, qk, qo, hqv, hqg, qa, qb, qc⟩ := hqL
        have hqi := next_lt hw hqg
        have hqb2 : Bts (H2.push (.cells [.int .i64 p.f, .int .i64 p.t, pkb p.b])) q.v (b8 q.bs) := by
          refine .inr (.inr ⟨qi, qk, qo, by simpa using hqv, ?_⟩)
          have e : qi ≠ H2.next := by omega
          simp [e, hkk qi hqi qa qb, hqg]
        generalize hcs : wcells (A' ++ q :: B') ++ junk = cs at *
        simp [h0, h3, h5, e4, g2, n2, s1, hgc2, dr, hlt2, hlt3, hlt4, Wp.cells, -alen, rds, heapF]
        refine ⟨_, _, same_spec _ p.f p.t q.f q.t _ _ (p.b.getD []) q.bs (pkb_bts _ _) hqb2, by simp, ?_⟩
        simp [hp1, hp2, hp3, h0, h3, h5, e4, g2, n2, s1, hgc2, dr, hlt2, hlt3, hlt4, Wp.cells, -alen, rds, heapF]
        refine ⟨by subst hes; exact ⟨by kernel_rfl, by kernel_rfl⟩, ?_⟩
        obtain ⟨Hp, hHp⟩ : ∃ Hp, Hp = H2.push (.cells [.int .i64 q.f, .int .i64 q.t, pkb p.b]) := ⟨_, rfl⟩
        have hgc3 : Hp.get c = some (.cells (wcells (A' ++ q :: B') ++ junk)) := by rw [hHp, hcs]; simp [s1, hgc2]
        have hnp : Hp.next = H2.next + 1 := by rw [hHp]; rfl
        have hgp : ∀ j, j < H2.next → Hp.get j = H2.get j := fun j hj => by
          have e : j ≠ H2.next := by omega
          rw [hHp]; simp [e]
        rw [← hHp, ← hA']
        refine does_usew (without_use Hp c cap opn A' B' q junk hgc3 hjl hcap (LB.scalar hws.1)) ?_
        rintro _ H3 ⟨c', op', rfl, hc', hg', gr⟩ hw3 _
        have ha3 : H3.get a = H2.get a := by rw [gr.2.2 a (by omega)]; exact hgp a (by omega)
        have hb3 : H3.get b = H2.get b := by rw [gr.2.2 b (by omega)]; exact hgp b (by omega)
        simp [h0, h3, h5, -alen]
        refine does_use (len_keep hn2 ha3 hb3) ?_
        rintro _ _ ⟨rfl, rfl⟩
        have hl1 : (A ++ B).length = A'.length + B'.length := by
          have e1 := congrArg List.length hAA
          have e2 := congrArg List.length hBB
          simp at e1 e2 ⊢; omega
        simp [h0, h3, h5, w1, al36, hl1, -alen]
        refine ⟨m - 1, by omega, i + 1, by omega, by simp, play_cut (p := p) (op := op') hw hws.1 hAA hBB hle hbs (hn2.keep ha3 hb3) (fun j j1 j2 j3 => by rw [gr.2.2 j (by omega), hgp j (by omega)]; exact hkk j j1 j2 j3) (by omega) (by omega) (by omega) (by simp) hg' (by rw [List.length_append, ← hl1]; simp at hle ⊢; omega)⟩
    by_cases o1 : xop = 1
    · subst o1
      rcases cases3 with hk | hk | hk
      · have hk1 : ¬ 0 ≤ xk := by omega
        have hin : xk < 0 ∨ (ps.length : Int) ≤ xk := by omega
        simp [hk1, h0, h3, h5, hlw, -alen]
        refine does_use (see_none _ a b ps xk hnet1 hin) ?_
        rintro _ _ ⟨rfl, rfl⟩
        simp [h0, h3, h5, -alen]
        refine aw_drawn [] Try.mixed (by kernel_rfl) ?_
        intro es hes
        simp [h0, h3, h5, -alen, rds]
        refine ⟨by subst hes; exact ⟨by kernel_rfl, by kernel_rfl⟩, ?_⟩
        have ea1 : a ≠ H.next := by omega
        have ea2 : a ≠ H.next + 1 := by omega
        have eb1 : b ≠ H.next := by omega
        have eb2 : b ≠ H.next + 1 := by omega
        refine aws_loopw (fun _ T' H' => T' 0 = .vsl (acells l) N ∧ T' 3 = .ptr a 0 ∧ T' 4 = T 4 ∧ T' 5 = .int .i64 i ∧ T' 8 = .ptr (H.next + 1) 0 ∧ T' 10 = .int .i64 0 ∧ H'.get (H.next + 1) = some (.cells [.int .i64 0, .int .i64 0, .nilsl]) ∧ ∀ j, j < H.next → H'.get j = H.get j) 0
          ⟨by simp [h0], by simp [h3], by simp, by simp [h5], by simp, by simp, by simp, fun j hj => by
            have e1 : j ≠ H.next := by omega
            have e2 : j ≠ H.next + 1 := by omega
            simp [e1, e2]⟩ ?_
        rintro _ T2 H2 ⟨g0, g3, g4, g5, g8, g10, gp, gk⟩ hw2 _
        have al25 : alen Try.prog 25 .nilsl = some (.int .i64 0) := by
          have h : Try.prog.underlying 25 = some (.slice 5) := by kernel_rfl
          simp [alen, h]
        simp [g0, g3, g4, g5, g8, g10, gp, al25, -alen]
        refine does_use (len_keep hnet (gk a hal) (gk b hbl)) ?_
        rintro _ _ ⟨rfl, rfl⟩
        simp [g0, g3, g4, g5, w1, hlw, hpl, -alen]
        exact ⟨m - 1, by omega, i + 1, by omega, by simp, play_same hw hws hkey hle hbs (hnet.keep (gk a hal) (gk b hbl)) fun j j1 _ _ => gk j j1⟩
      · have hk1 : 0 ≤ xk := hk.1
        have hk2 : ¬ xk < ws.length := by omega
        have hin : xk < 0 ∨ (ps.length : Int) ≤ xk := by omega
        simp [hk1, hk2, h0, h3, h5, hlw, -alen]
        refine does_use (see_none _ a b ps xk hnet1 hin) ?_
        rintro _ _ ⟨rfl, rfl⟩
        simp [h0, h3, h5, -alen]
        refine aw_drawn [] Try.mixed (by kernel_rfl) ?_
        intro es hes
        simp [h0, h3, h5, -alen, rds]
        refine ⟨by subst hes; exact ⟨by kernel_rfl, by kernel_rfl⟩, ?_⟩
        have ea1 : a ≠ H.next := by omega
        have ea2 : a ≠ H.next + 1 := by omega
        have eb1 : b ≠ H.next := by omega
        have eb2 : b ≠ H.next + 1 := by omega
        refine aws_loopw (fun _ T' H' => T' 0 = .vsl (acells l) N ∧ T' 3 = .ptr a 0 ∧ T' 4 = T 4 ∧ T' 5 = .int .i64 i ∧ T' 8 = .ptr (H.next + 1) 0 ∧ T' 10 = .int .i64 0 ∧ H'.get (H.next + 1) = some (.cells [.int .i64 0, .int .i64 0, .nilsl]) ∧ ∀ j, j < H.next → H'.get j = H.get j) 0
          ⟨by simp [h0], by simp [h3], by simp, by simp [h5], by simp, by simp, by simp, fun j hj => by
            have e1 : j ≠ H.next := by omega
            have e2 : j ≠ H.next + 1 := by omega
            simp [e1, e2]⟩ ?_
        rintro _ T2 H2 ⟨g0, g3, g4, g5, g8, g10, gp, gk⟩ hw2 _
        have al25 : alen Try.prog 25 .nilsl = some (.int .i64 0) := by
          have h : Try.prog.underlying 25 = some (.slice 5) := by kernel_rfl
          simp [alen, h]
        simp [g0, g3, g4, g5, g8, g10, gp, al25, -alen]
        refine does_use (len_keep hnet (gk a hal) (gk b hbl)) ?_
        rintro _ _ ⟨rfl, rfl⟩
        simp [g0, g3, g4, g5, w1, hlw, hpl, -alen]
        exact ⟨m - 1, by omega, i + 1, by omega, by simp, play_same hw hws hkey hle hbs (hnet.keep (gk a hal) (gk b hbl)) fun j j1 _ _ => gk j j1⟩
      · have hk1 : 0 ≤ xk := hk.1
        have hk2 : xk < ws.length := hk.2
        simp [hk1, hk2, h0, h3, h5, hlw, -alen]
        obtain ⟨k, rfl⟩ : ∃ k : Nat, xk = k := ⟨xk.toNat, by omega⟩
        obtain ⟨A, p, B, A', q, B', rfl, rfl, hA, hA', hpq, hAA, hBB⟩ := split_at hkey k (by omega)
        rcases hws.2 with ⟨_, h, _⟩ | ⟨cap, opn, junk, e4, hca, hcb, hgc, hjl, hcap⟩
        · simp at h
        have hqb : q.bs.length ≤ 200 := hbs q (by simp)
        have hpb : (p.b.getD []).length ≤ 1000000 := by
          have : p.b.getD [] = q.bs := congrArg (fun x => x.2.2) hpq
          rw [this]; omega
        refine does_usew (see_live _ a b A B p k hnet1 hA.symm hpb) ?_
        rintro _ H2 ⟨y, rfl, hy, gr⟩ hw2 _
        have hn2' := gr.1
        simp at hn2'
        have hkk : ∀ j, j < H.next → H2.get j = H.get j := fun j hj => by
          rw [gr.2.2 j (by simp; omega)]
          have : j ≠ H.next := by omega
          simp [this]
        have hsame := same_spec (G := fun _ => none)
        have hp1 : p.f = q.f := congrArg (fun x => x.1) hpq
        have hp2 : p.t = q.t := congrArg (fun x => x.2.1) hpq
        have hp3 : p.b.getD [] = q.bs := congrArg (fun x => x.2.2) hpq
        have hqL := hws.1 q (by simp)
        have dr : List.drop (k * 3) (wcells (A' ++ q :: B') ++ junk) = q.cells ++ (wcells B' ++ junk) := by
          simp only [wcells_append, wcells_cons, List.append_assoc]
          rw [List.drop_left' (by simp [hA'])]
        have hlt2 : k < A'.length + (B'.length + 1) := by omega
        have hlt3 : (k : Int) < (A'.length : Int) + ((B'.length : Int) + 1) := by omega
        have hlt4 : k * 3 ≤ (wcells (A' ++ q :: B') ++ junk).length := by simp; omega
        have g2 : H2.get H.next = some (.cells [.int .i64 1, .int .i64 k, .int .i64 xf, .int .i64 xt, pkb xb]) := by
          rw [gr.2.2 H.next (by simp)]; simp
        have hgc2 : H2.get c = some (.cells (wcells (A' ++ q :: B') ++ junk)) := by rw [hkk c hcl]; exact hgc
        have s1 : c ≠ H2.next := by omega
        have n2 : H.next ≠ H2.next := by omega
        have hysc := hy.scalar
        have hycl := hy.cells
        simp [h0, h3, h5, e4, g2, n2, hysc, hycl, -alen]
        refine aw_drawn [(6, 0), (9, 0), (11, 0)] Try.mixed (by kernel_rfl) ?_
        intro es hes
        obtain ⟨qi, qk, qo, hqv, hqg, qa, qb, qc⟩ := hqL
        have hqi := next_lt hw hqg
        have hqb2 : Bts (H2.push (.cells [.int .i64 p.f, .int .i64 p.t, y])) q.v (b8 q.bs) := by
          refine .inr (.inr ⟨qi, qk, qo, by simpa using hqv, ?_⟩)
          have e : qi ≠ H2.next := by omega
          simp [e, hkk qi hqi, hqg]
        have hpb2 : Bts (H2.push (.cells [.int .i64 p.f, .int .i64 p.t, y])) y (b8 (p.b.getD [])) := by
          rcases hy with ⟨e, rfl⟩ | ⟨bs, yi, yc, yo, e, rfl, yle, yg, yn⟩
          · rw [e]; exact .inl ⟨rfl, rfl⟩
          · have e2 : yi ≠ H2.next := by have := next_lt hw2 yg; omega
            rw [e]; exact .inr (.inr ⟨yi, yc, yo, by simp, by simp [e2, yg]⟩)
        generalize hcs : wcells (A' ++ q :: B') ++ junk = cs at *
        simp [h0, h3, h5, e4, g2, n2, s1, hgc2, dr, hlt2, hlt3, hlt4, hysc, hycl, Wp.cells, -alen, rds, heapF]
        refine ⟨_, _, same_spec _ p.f p.t q.f q.t _ _ (p.b.getD []) q.bs hpb2 hqb2, by simp, ?_⟩
        simp [hp1, hp2, hp3, h0, h3, h5, e4, g2, n2, s1, hgc2, dr, hlt2, hlt3, hlt4, hysc, hycl, Wp.cells, -alen, rds, heapF]
        refine ⟨by subst hes; exact ⟨by kernel_rfl, by kernel_rfl⟩, ?_⟩
        obtain ⟨tp, htp⟩ : ∃ tp, tp = H2.next := ⟨_, rfl⟩
        have fin : ∀ H' : AHeap, (∀ j, j < H.next → H'.get j = H.get j) → NetAt H' a b (A ++ p :: B) ∧ PlayI a H' (i + 1) (T 4) := fun H' hk' => ⟨hnet.keep (hk' a hal) (hk' b hbl), play_same hw hws hkey hle hbs (hnet.keep (hk' a hal) (hk' b hbl)) fun j j1 _ _ => hk' j j1⟩
        have al25 : alen Try.prog 25 .nilsl = some (.int .i64 0) := by
          have h : Try.prog.underlying 25 = some (.slice 5) := by kernel_rfl
          simp [alen, h]
        have al25' : ∀ n i c op, alen Try.prog 25 (.sl i 0 1 n c op) = some (.int .i64 n) := fun n i c op => by
          have h : Try.prog.underlying 25 = some (.slice 5) := by kernel_rfl
          simp [alen, h]
        have hlw2 : alen Try.prog 36 (T 4) = some (.int .i64 (A ++ p :: B).length) := by rw [hlw, hpl]
        rcases hy with ⟨ey, rfl⟩ | ⟨bs, yi, yc, yo, ey, rfl, yle, yg, yn⟩
        · refine aws_loopw (fun _ T' H' => T' 0 = .vsl (acells l) N ∧ T' 3 = .ptr a 0 ∧ T' 4 = T 4 ∧ T' 5 = .int .i64 i ∧ T' 8 = .ptr tp 0 ∧ T' 10 = .int .i64 0 ∧ H'.get tp = some (.cells [.int .i64 q.f, .int .i64 q.t, .nilsl]) ∧ ∀ j, j < H.next → H'.get j = H.get j) 0
            ⟨by simp [h0], by simp [h3], by simp [e4], by simp [h5], by simp [htp], by simp, by simp [htp], fun j hj => by
              have e1 : j ≠ H2.next := by omega
              simp [e1, hkk j hj]⟩ ?_
          rintro _ T2 H3 ⟨g0, g3, g4, g5, g8, g10, gp, gk⟩ hw3 _
          obtain ⟨f1, f2⟩ := fin H3 gk
          simp [g0, g3, g4, g5, g8, g10, gp, al25, -alen]
          refine does_use (len_spec' _ a b _ f1) ?_
          rintro _ _ ⟨rfl, rfl⟩
          simp only [List.length_append, List.length_cons] at hlw2
          simp [g0, g3, g4, g5, w1, hlw2, -alen]
          exact ⟨m - 1, by omega, i + 1, by omega, by simp, f2⟩
        · have hyi := next_lt hw2 yg
          have hyn : H.next < yi := by simp at yn; omega
          have hty : tp ≠ yi := by omega
          refine aws_loopw (fun m' T' H' => ∃ j : Nat, ∃ cs' : List AV, j + m' = bs.length ∧ T' 0 = .vsl (acells l) N ∧ T' 3 = .ptr a 0 ∧ T' 4 = T 4 ∧ T' 5 = .int .i64 i ∧ T' 8 = .ptr tp 0 ∧ T' 10 = .int .i64 j ∧ H'.get tp = some (.cells [.int .i64 q.f, .int .i64 q.t, .sl yi 0 1 bs.length yc yo]) ∧ H'.get yi = some (.cells cs') ∧ cs'.length = bs.length ∧ ∀ j, j < H.next → H'.get j = H.get j) bs.length
            ⟨0, b8 bs, by omega, by simp [h0], by simp [h3], by simp [e4], by simp [h5], by simp [htp], by simp, by simp [htp], by
              have e1 : yi ≠ H2.next := by omega
              simp [e1, yg], by simp, fun j hj => by
              have e1 : j ≠ H2.next := by omega
              simp [e1, hkk j hj]⟩ ?_
          have hbl2 : bs.length ≤ 200 := by
            have : p.b.getD [] = q.bs := hp3
            rw [ey] at this
            have e : bs = q.bs := this
            rw [e]; exact hqb
          rintro m' T2 H3 ⟨j, cs', hj, g0, g3, g4, g5, g8, g10, gp, gy, gl, gk⟩ hw3 _
          have w2 : IntKind.i64.wrap ((j : Int) + 1) = j + 1 := IntWalk.i64_in _ (by omega)
          by_cases hjl2 : j < bs.length
          · have hjl3 : j ≤ bs.length := by omega
            have hjl4 : j + 1 ≤ bs.length := by omega
            simp [g0, g3, g4, g5, g8, g10, gp, gy, gl, al25', hjl2, hjl3, hjl4, hty, w2, -alen]
            refine ⟨m' - 1, by omega, j + 1, by omega, by simp, by omega, fun j1 hj1 => ?_⟩
            have e : j1 ≠ yi := by omega
            simp [e, gk j1 hj1]
          · have : j = bs.length := by omega
            subst this
            obtain ⟨f1, f2⟩ := fin H3 gk
            simp [g0, g3, g4, g5, g8, g10, gp, al25', -alen]
            refine does_use (len_spec' _ a b _ f1) ?_
            rintro _ _ ⟨rfl, rfl⟩
            simp only [List.length_append, List.length_cons] at hlw2
            simp [g0, g3, g4, g5, w1, hlw2, -alen]
            exact ⟨m - 1, by omega, i + 1, by omega, by simp, f2⟩
    rcases cases3 with hk | hk | hk
    · have hk1 : ¬ 0 ≤ xk := by omega
      have hin : xk < 0 ∨ (ps.length : Int) ≤ xk := by omega
      simp [hk1, h0, h3, h5, hlw, -alen]
      have e4' : (∃ cap opn junk, T 4 = .sl c 0 3 ws.length cap opn ∧ c ≠ a ∧ c ≠ b ∧ H.get c = some (.cells (wcells ws ++ junk)) ∧ ws.length * 3 + junk.length = 3 * cap ∧ cap < 1000000) ∨ ws = [] := by
        rcases hws.2 with ⟨_, h, _⟩ | h
        · exact .inr h
        · exact .inl (by obtain ⟨cap, opn, junk, x1, x2, x3, x4, x5, x6⟩ := h; exact ⟨cap, opn, junk, x1, x2, x3, x4, x5, x6⟩)
      simp [o0, o1, o2, o3, o4, h0, h3, h5, -alen]
      refine aws_loopw (fun m' T' H' => ∃ j : Nat, j + m' = ws.length ∧ T' 0 = .vsl (acells l) N ∧ T' 3 = .ptr a 0 ∧ T' 4 = T 4 ∧ T' 5 = .int .i64 i ∧ T' 6 = .ptr H.next 0 ∧ T' 14 = .int .i64 j ∧ H' = H.push (.cells [.int .i64 xop, .int .i64 xk, .int .i64 xf, .int .i64 xt, pkb xb]) ∧ ∀ q ∈ ws.take j, q.t ≠ xk) ws.length
        ⟨0, by omega, by simp [h0], by simp [h3], by simp, by simp [h5], by simp, by simp, rfl, by simp⟩ ?_
      rintro m' T2 H2 ⟨j, hj, g0, g3, g4, g5, g6, g14, rfl, hne⟩ hw2 _
      have w2 : IntKind.i64.wrap ((j : Int) + 1) = j + 1 := IntWalk.i64_in _ (by omega)
      have s1 : c ≠ H.next := by omega
      by_cases hjl2 : j < ws.length
      · rcases e4' with ⟨cap, opn, junk, e4, hca, hcb, hgc, hjl, hcap⟩ | h
        rotate_left
        · simp [h] at hjl2
        obtain ⟨A, p, B, A', q, B', rfl, rfl, hA, hA', hpq, hAA, hBB⟩ := split_at hkey j hjl2
        have dr : List.drop (j * 3) (wcells (A' ++ q :: B') ++ junk) = q.cells ++ (wcells B' ++ junk) := by
          simp only [wcells_append, wcells_cons, List.append_assoc]
          rw [List.drop_left' (by simp [hA'])]
        have hlt2 : j < A'.length + (B'.length + 1) := by omega
        have hlt3 : (j : Int) < (A'.length : Int) + ((B'.length : Int) + 1) := by omega
        have hlt4 : j * 3 ≤ (wcells (A' ++ q :: B') ++ junk).length := by simp; omega
        have hlt5 : j * 3 + 1 ≤ (wcells (A' ++ q :: B') ++ junk).length := by simp; omega
        have dr1 : List.drop (j * 3 + 1) (wcells (A' ++ q :: B') ++ junk) = .int .i64 q.t :: q.v :: (wcells B' ++ junk) := by
          rw [← List.drop_drop, dr]; rfl
        have htk : (A' ++ q :: B').take j = A' := List.take_left' hA'
        rw [htk] at hne
        generalize hcs : wcells (A' ++ q :: B') ++ junk = cs at *
        simp [g0, g3, g4, g5, g6, g14, e4, al36, hlt3, -alen]
        refine aw_drawn [(9, 0), (11, 0)] Try.mixed (by kernel_rfl) ?_
        intro es hes
        simp [g0, g3, g4, g5, g6, g14, al36, e4, hlt2, hlt3, hlt4, hlt5, hgc, s1, dr, dr1, Wp.cells, -alen, rds, heapF]
        refine ⟨by subst hes; exact ⟨by kernel_rfl, by kernel_rfl⟩, ?_⟩
        by_cases hq : q.t = xk
        · have hb : (q.t != xk) = false := by simp [hq]
          rw [hb]
          simp [g0, g3, g4, g5, g6, g14, -alen]
          have hpt : p.t = xk := (congrArg (fun x => x.2.1) hpq : p.t = q.t).trans hq
          have hneA : ∀ r ∈ A, r.t ≠ xk := fun r hr => by
            have h1 : r.key ∈ A'.map Wp.key := by rw [← hAA]; exact List.mem_map_of_mem hr
            obtain ⟨r', hr', e⟩ := List.mem_map.1 h1
            have h3 : r'.t = r.t := congrArg (fun x => x.2.1) e
            rw [← h3]; exact hne r' hr'
          have hqb : q.bs.length ≤ 200 := hbs q (by simp)
          have hpb : (p.b.getD []).length ≤ 1000000 := by
            have : p.b.getD [] = q.bs := congrArg (fun x => x.2.2) hpq
            rw [this]; omega
          refine does_usew (oldest_some _ a b A B p xk hnet1 hneA hpt hpb) ?_
          rintro _ H2 ⟨rfl, hn2, k2⟩ hw2 _
          have hkk : ∀ j, j < H.next → j ≠ a → j ≠ b → H2.get j = H.get j := fun j hj h1 h2 => by
            rw [k2.2.2 j (by simp; omega) h1 h2]
            have : j ≠ H.next := by omega
            simp [this]
          have hn2' := k2.1
          simp at hn2'
          have hp1 : p.f = q.f := congrArg (fun x => x.1) hpq
          have hp2 : p.t = q.t := congrArg (fun x => x.2.1) hpq
          have hp3 : p.b.getD [] = q.bs := congrArg (fun x => x.2.2) hpq
          have hqL := hws.1 q (by simp)
          have g2 : H2.get H.next = some (.cells [.int .i64 xop, .int .i64 xk, .int .i64 xf, .int .i64 xt, pkb xb]) := by
            rw [k2.2.2 H.next (by simp) (by omega) (by omega)]; simp
          have hgc2 : H2.get c = some (.cells cs) := by rw [hkk c hcl hca hcb]; exact hgc
          have s1' : c ≠ H2.next := by omega
          have n2 : H.next ≠ H2.next := by omega
          simp [g0, g3, g4, g5, g6, g14, e4, al36, hlt3, g2, n2, Pk.cells, -alen]
          refine aw_drawn [(9, 0), (13, 0)] Try.mixed (by kernel_rfl) ?_
          intro es hes2
          obtain ⟨qi, qk, qo, hqv, hqg, qa, qb, qc⟩ := hqL
          have hqi := next_lt hw hqg
          have hqb2 : Bts (H2.push (.cells [.int .i64 p.f, .int .i64 p.t, pkb p.b])) q.v (b8 q.bs) := by
            refine .inr (.inr ⟨qi, qk, qo, by simpa using hqv, ?_⟩)
            have e : qi ≠ H2.next := by omega
            simp [e, hkk qi hqi qa qb, hqg]
          simp [g0, g3, g4, g5, g6, g14, e4, al36, g2, n2, s1', hgc2, dr, hlt2, hlt3, hlt4, Wp.cells, -alen, rds, heapF]
          refine ⟨_, _, same_spec _ p.f p.t q.f q.t _ _ (p.b.getD []) q.bs (pkb_bts _ _) hqb2, by simp, ?_⟩
          simp [hp1, hp2, hp3, g0, g3, g4, g5, g6, g14, e4, g2, n2, s1', hgc2, dr, hlt2, hlt3, hlt4, Wp.cells, -alen, rds, heapF]
          refine ⟨by subst hes2; exact ⟨by kernel_rfl, by kernel_rfl⟩, ?_⟩
          obtain ⟨Hp, hHp⟩ : ∃ Hp, Hp = H2.push (.cells [.int .i64 q.f, .int .i64 q.t, pkb p.b]) := ⟨_, rfl⟩
          have hgc3 : Hp.get c = some (.cells (wcells (A' ++ q :: B') ++ junk)) := by rw [hHp, hcs]; simp [s1', hgc2]
          have hnp : Hp.next = H2.next + 1 := by rw [hHp]; rfl
          have hgp : ∀ j, j < H2.next → Hp.get j = H2.get j := fun j hj => by
            have e : j ≠ H2.next := by omega
            rw [hHp]; simp [e]
          rw [← hHp, ← hA']
          refine does_usew (without_use Hp c cap opn A' B' q junk hgc3 hjl hcap (LB.scalar hws.1)) ?_
          rintro _ H3 ⟨c', op', rfl, hc', hg', gr⟩ hw3 _
          have ha3 : H3.get a = H2.get a := by rw [gr.2.2 a (by omega)]; exact hgp a (by omega)
          have hb3 : H3.get b = H2.get b := by rw [gr.2.2 b (by omega)]; exact hgp b (by omega)
          simp [g0, g3, g4, g5, g6, g14, -alen]
          refine does_use (len_keep hn2 ha3 hb3) ?_
          rintro _ _ ⟨rfl, rfl⟩
          have hl1 : (A ++ B).length = A'.length + B'.length := by
            have e1 := congrArg List.length hAA
            have e2 := congrArg List.length hBB
            simp at e1 e2 ⊢; omega
          simp [g0, g3, g4, g5, w1, al36, hl1, -alen]
          refine ⟨m - 1, by omega, i + 1, by omega, by simp, play_cut (p := p) (op := op') hw hws.1 hAA hBB hle hbs (hn2.keep ha3 hb3) (fun j j1 j2 j3 => by rw [gr.2.2 j (by omega), hgp j (by omega)]; exact hkk j j1 j2 j3) (by omega) (by omega) (by omega) (by simp) hg' (by rw [List.length_append, ← hl1]; simp at hle ⊢; omega)⟩
        · have hb : (q.t != xk) = true := by simp [hq]
          rw [hb]
          simp [g0, g3, g4, g5, g6, g14, w2, -alen]
          refine ⟨m' - 1, by omega, j + 1, by simp at hj ⊢; omega, by simp, fun r hr => ?_⟩
          have htk2 : (A' ++ q :: B').take (j + 1) = A' ++ [q] := by rw [← hA', List.take_append, List.take_of_length_le (by omega)]; simp
          rw [htk2] at hr
          simp only [List.mem_append, List.mem_singleton] at hr
          rcases hr with hr | rfl
          · exact hne r hr
          · exact hq
      · have : j = ws.length := by omega
        subst this
        simp [g0, g3, g4, g5, g6, g14, hlw, -alen]
        refine aw_drawn [] Try.mixed (by kernel_rfl) ?_
        intro es hes
        simp [g0, g3, g4, g5, g6, g14, hlw, -alen, rds, heapF]
        refine ⟨by subst hes; exact ⟨by kernel_rfl, by kernel_rfl⟩, ?_⟩
        have hnone : ∀ p ∈ ps, p.t ≠ xk := fun p hp => by
          have h1 : p.key ∈ ws.map Wp.key := by rw [← hkey]; exact List.mem_map_of_mem hp
          obtain ⟨q, hq, e⟩ := List.mem_map.1 h1
          have h2 := hne q (by rw [List.take_length]; exact hq)
          have h3 : q.t = p.t := congrArg (fun x => x.2.1) e
          rw [← h3]; exact h2
        refine does_use (oldest_none _ a b ps xk hnet1 hnone) ?_
        rintro _ _ ⟨rfl, rfl⟩
        simp [g0, g3, g4, g5, g6, g14, hlw, -alen]
        refine aw_drawn [] Try.mixed (by kernel_rfl) ?_
        intro es hes2
        simp [g0, g3, g4, g5, g6, g14, hlw, -alen, rds, heapF]
        refine ⟨by subst hes2; exact ⟨by kernel_rfl, by kernel_rfl⟩, ?_⟩
        have ea1 : a ≠ H.next := by omega
        have ea2 : a ≠ H.next + 1 := by omega
        have eb1 : b ≠ H.next := by omega
        have eb2 : b ≠ H.next + 1 := by omega
        refine does_use (len_keep hnet (by simp [ea1, ea2]) (by simp [eb1, eb2])) ?_
        rintro _ _ ⟨rfl, rfl⟩
        simp [g0, g3, g4, g5, w1, hlw, hpl, -alen]
        refine ⟨m - 1, by omega, i + 1, by omega, by simp, play_same hw hws hkey hle hbs (hnet.keep (by simp [ea1, ea2]) (by simp [eb1, eb2])) fun j j1 _ _ => ?_⟩
        have e1 : j ≠ H.next := by omega
        have e2 : j ≠ H.next + 1 := by omega
        simp [e1, e2]
    · have hk1 : 0 ≤ xk := hk.1
      have hk2 : ¬ xk < ws.length := by omega
      have hin : xk < 0 ∨ (ps.length : Int) ≤ xk := by omega
      simp [hk1, hk2, h0, h3, h5, hlw, -alen]
      have e4' : (∃ cap opn junk, T 4 = .sl c 0 3 ws.length cap opn ∧ c ≠ a ∧ c ≠ b ∧ H.get c = some (.cells (wcells ws ++ junk)) ∧ ws.length * 3 + junk.length = 3 * cap ∧ cap < 1000000) ∨ ws = [] := by
        rcases hws.2 with ⟨_, h, _⟩ | h
        · exact .inr h
        · exact .inl (by obtain ⟨cap, opn, junk, x1, x2, x3, x4, x5, x6⟩ := h; exact ⟨cap, opn, junk, x1, x2, x3, x4, x5, x6⟩)
      simp [o0, o1, o2, o3, o4, h0, h3, h5, -alen]
      refine aws_loopw (fun m' T' H' => ∃ j : Nat, j + m' = ws.length ∧ T' 0 = .vsl (acells l) N ∧ T' 3 = .ptr a 0 ∧ T' 4 = T 4 ∧ T' 5 = .int .i64 i ∧ T' 6 = .ptr H.next 0 ∧ T' 14 = .int .i64 j ∧ H' = H.push (.cells [.int .i64 xop, .int .i64 xk, .int .i64 xf, .int .i64 xt, pkb xb]) ∧ ∀ q ∈ ws.take j, q.t ≠ xk) ws.length
        ⟨0, by omega, by simp [h0], by simp [h3], by simp, by simp [h5], by simp, by simp, rfl, by simp⟩ ?_
      rintro m' T2 H2 ⟨j, hj, g0, g3, g4, g5, g6, g14, rfl, hne⟩ hw2 _
      have w2 : IntKind.i64.wrap ((j : Int) + 1) = j + 1 := IntWalk.i64_in _ (by omega)
      have s1 : c ≠ H.next := by omega
      by_cases hjl2 : j < ws.length
      · rcases e4' with ⟨cap, opn, junk, e4, hca, hcb, hgc, hjl, hcap⟩ | h
        rotate_left
        · simp [h] at hjl2
        obtain ⟨A, p, B, A', q, B', rfl, rfl, hA, hA', hpq, hAA, hBB⟩ := split_at hkey j hjl2
        have dr : List.drop (j * 3) (wcells (A' ++ q :: B') ++ junk) = q.cells ++ (wcells B' ++ junk) := by
          simp only [wcells_append, wcells_cons, List.append_assoc]
          rw [List.drop_left' (by simp [hA'])]
        have hlt2 : j < A'.length + (B'.length + 1) := by omega
        have hlt3 : (j : Int) < (A'.length : Int) + ((B'.length : Int) + 1) := by omega
        have hlt4 : j * 3 ≤ (wcells (A' ++ q :: B') ++ junk).length := by simp; omega
        have hlt5 : j * 3 + 1 ≤ (wcells (A' ++ q :: B') ++ junk).length := by simp; omega
        have dr1 : List.drop (j * 3 + 1) (wcells (A' ++ q :: B') ++ junk) = .int .i64 q.t :: q.v :: (wcells B' ++ junk) := by
          rw [← List.drop_drop, dr]; rfl
        have htk : (A' ++ q :: B').take j = A' := List.take_left' hA'
        rw [htk] at hne
        generalize hcs : wcells (A' ++ q :: B') ++ junk = cs at *
        simp [g0, g3, g4, g5, g6, g14, e4, al36, hlt3, -alen]
        refine aw_drawn [(9, 0), (11, 0)] Try.mixed (by kernel_rfl) ?_
        intro es hes
        simp [g0, g3, g4, g5, g6, g14, al36, e4, hlt2, hlt3, hlt4, hlt5, hgc, s1, dr, dr1, Wp.cells, -alen, rds, heapF]
        refine ⟨by subst hes; exact ⟨by kernel_rfl, by kernel_rfl⟩, ?_⟩
        by_cases hq : q.t = xk
        · have hb : (q.t != xk) = false := by simp [hq]
          rw [hb]
          simp [g0, g3, g4, g5, g6, g14, -alen]
          have hpt : p.t = xk := (congrArg (fun x => x.2.1) hpq : p.t = q.t).trans hq
          have hneA : ∀ r ∈ A, r.t ≠ xk := fun r hr => by
            have h1 : r.key ∈ A'.map Wp.key := by rw [← hAA]; exact List.mem_map_of_mem hr
            obtain ⟨r', hr', e⟩ := List.mem_map.1 h1
            have h3 : r'.t = r.t := congrArg (fun x => x.2.1) e
            rw [← h3]; exact hne r' hr'
          have hqb : q.bs.length ≤ 200 := hbs q (by simp)
          have hpb : (p.b.getD []).length ≤ 1000000 := by
            have : p.b.getD [] = q.bs := congrArg (fun x => x.2.2) hpq
            rw [this]; omega
          refine does_usew (oldest_some _ a b A B p xk hnet1 hneA hpt hpb) ?_
          rintro _ H2 ⟨rfl, hn2, k2⟩ hw2 _
          have hkk : ∀ j, j < H.next → j ≠ a → j ≠ b → H2.get j = H.get j := fun j hj h1 h2 => by
            rw [k2.2.2 j (by simp; omega) h1 h2]
            have : j ≠ H.next := by omega
            simp [this]
          have hn2' := k2.1
          simp at hn2'
          have hp1 : p.f = q.f := congrArg (fun x => x.1) hpq
          have hp2 : p.t = q.t := congrArg (fun x => x.2.1) hpq
          have hp3 : p.b.getD [] = q.bs := congrArg (fun x => x.2.2) hpq
          have hqL := hws.1 q (by simp)
          have g2 : H2.get H.next = some (.cells [.int .i64 xop, .int .i64 xk, .int .i64 xf, .int .i64 xt, pkb xb]) := by
            rw [k2.2.2 H.next (by simp) (by omega) (by omega)]; simp
          have hgc2 : H2.get c = some (.cells cs) := by rw [hkk c hcl hca hcb]; exact hgc
          have s1' : c ≠ H2.next := by omega
          have n2 : H.next ≠ H2.next := by omega
          simp [g0, g3, g4, g5, g6, g14, e4, al36, hlt3, g2, n2, Pk.cells, -alen]
          refine aw_drawn [(9, 0), (13, 0)] Try.mixed (by kernel_rfl) ?_
          intro es hes2
          obtain ⟨qi, qk, qo, hqv, hqg, qa, qb, qc⟩ := hqL
          have hqi := next_lt hw hqg
          have hqb2 : Bts (H2.push (.cells [.int .i64 p.f, .int .i64 p.t, pkb p.b])) q.v (b8 q.bs) := by
            refine .inr (.inr ⟨qi, qk, qo, by simpa using hqv, ?_⟩)
            have e : qi ≠ H2.next := by omega
            simp [e, hkk qi hqi qa qb, hqg]
          simp [g0, g3, g4, g5, g6, g14, e4, al36, g2, n2, s1', hgc2, dr, hlt2, hlt3, hlt4, Wp.cells, -alen, rds, heapF]
          refine ⟨_, _, same_spec _ p.f p.t q.f q.t _ _ (p.b.getD []) q.bs (pkb_bts _ _) hqb2, by simp, ?_⟩
          simp [hp1, hp2, hp3, g0, g3, g4, g5, g6, g14, e4, g2, n2, s1', hgc2, dr, hlt2, hlt3, hlt4, Wp.cells, -alen, rds, heapF]
          refine ⟨by subst hes2; exact ⟨by kernel_rfl, by kernel_rfl⟩, ?_⟩
          obtain ⟨Hp, hHp⟩ : ∃ Hp, Hp = H2.push (.cells [.int .i64 q.f, .int .i64 q.t, pkb p.b]) := ⟨_, rfl⟩
          have hgc3 : Hp.get c = some (.cells (wcells (A' ++ q :: B') ++ junk)) := by rw [hHp, hcs]; simp [s1', hgc2]
          have hnp : Hp.next = H2.next + 1 := by rw [hHp]; rfl
          have hgp : ∀ j, j < H2.next → Hp.get j = H2.get j := fun j hj => by
            have e : j ≠ H2.next := by omega
            rw [hHp]; simp [e]
          rw [← hHp, ← hA']
          refine does_usew (without_use Hp c cap opn A' B' q junk hgc3 hjl hcap (LB.scalar hws.1)) ?_
          rintro _ H3 ⟨c', op', rfl, hc', hg', gr⟩ hw3 _
          have ha3 : H3.get a = H2.get a := by rw [gr.2.2 a (by omega)]; exact hgp a (by omega)
          have hb3 : H3.get b = H2.get b := by rw [gr.2.2 b (by omega)]; exact hgp b (by omega)
          simp [g0, g3, g4, g5, g6, g14, -alen]
          refine does_use (len_keep hn2 ha3 hb3) ?_
          rintro _ _ ⟨rfl, rfl⟩
          have hl1 : (A ++ B).length = A'.length + B'.length := by
            have e1 := congrArg List.length hAA
            have e2 := congrArg List.length hBB
            simp at e1 e2 ⊢; omega
          simp [g0, g3, g4, g5, w1, al36, hl1, -alen]
          refine ⟨m - 1, by omega, i + 1, by omega, by simp, play_cut (p := p) (op := op') hw hws.1 hAA hBB hle hbs (hn2.keep ha3 hb3) (fun j j1 j2 j3 => by rw [gr.2.2 j (by omega), hgp j (by omega)]; exact hkk j j1 j2 j3) (by omega) (by omega) (by omega) (by simp) hg' (by rw [List.length_append, ← hl1]; simp at hle ⊢; omega)⟩
        · have hb : (q.t != xk) = true := by simp [hq]
          rw [hb]
          simp [g0, g3, g4, g5, g6, g14, w2, -alen]
          refine ⟨m' - 1, by omega, j + 1, by simp at hj ⊢; omega, by simp, fun r hr => ?_⟩
          have htk2 : (A' ++ q :: B').take (j + 1) = A' ++ [q] := by rw [← hA', List.take_append, List.take_of_length_le (by omega)]; simp
          rw [htk2] at hr
          simp only [List.mem_append, List.mem_singleton] at hr
          rcases hr with hr | rfl
          · exact hne r hr
          · exact hq
      · have : j = ws.length := by omega
        subst this
        simp [g0, g3, g4, g5, g6, g14, hlw, -alen]
        refine aw_drawn [] Try.mixed (by kernel_rfl) ?_
        intro es hes
        simp [g0, g3, g4, g5, g6, g14, hlw, -alen, rds, heapF]
        refine ⟨by subst hes; exact ⟨by kernel_rfl, by kernel_rfl⟩, ?_⟩
        have hnone : ∀ p ∈ ps, p.t ≠ xk := fun p hp => by
          have h1 : p.key ∈ ws.map Wp.key := by rw [← hkey]; exact List.mem_map_of_mem hp
          obtain ⟨q, hq, e⟩ := List.mem_map.1 h1
          have h2 := hne q (by rw [List.take_length]; exact hq)
          have h3 : q.t = p.t := congrArg (fun x => x.2.1) e
          rw [← h3]; exact h2
        refine does_use (oldest_none _ a b ps xk hnet1 hnone) ?_
        rintro _ _ ⟨rfl, rfl⟩
        simp [g0, g3, g4, g5, g6, g14, hlw, -alen]
        refine aw_drawn [] Try.mixed (by kernel_rfl) ?_
        intro es hes2
        simp [g0, g3, g4, g5, g6, g14, hlw, -alen, rds, heapF]
        refine ⟨by subst hes2; exact ⟨by kernel_rfl, by kernel_rfl⟩, ?_⟩
        have ea1 : a ≠ H.next := by omega
        have ea2 : a ≠ H.next + 1 := by omega
        have eb1 : b ≠ H.next := by omega
        have eb2 : b ≠ H.next + 1 := by omega
        refine does_use (len_keep hnet (by simp [ea1, ea2]) (by simp [eb1, eb2])) ?_
        rintro _ _ ⟨rfl, rfl⟩
        simp [g0, g3, g4, g5, w1, hlw, hpl, -alen]
        refine ⟨m - 1, by omega, i + 1, by omega, by simp, play_same hw hws hkey hle hbs (hnet.keep (by simp [ea1, ea2]) (by simp [eb1, eb2])) fun j j1 _ _ => ?_⟩
        have e1 : j ≠ H.next := by omega
        have e2 : j ≠ H.next + 1 := by omega
        simp [e1, e2]
    · have hk1 : 0 ≤ xk := hk.1
      have hk2 : xk < ws.length := hk.2
      simp [hk1, hk2, h0, h3, h5, hlw, -alen]
      have e4' : (∃ cap opn junk, T 4 = .sl c 0 3 ws.length cap opn ∧ c ≠ a ∧ c ≠ b ∧ H.get c = some (.cells (wcells ws ++ junk)) ∧ ws.length * 3 + junk.length = 3 * cap ∧ cap < 1000000) ∨ ws = [] := by
        rcases hws.2 with ⟨_, h, _⟩ | h
        · exact .inr h
        · exact .inl (by obtain ⟨cap, opn, junk, x1, x2, x3, x4, x5, x6⟩ := h; exact ⟨cap, opn, junk, x1, x2, x3, x4, x5, x6⟩)
      simp [o0, o1, o2, o3, o4, h0, h3, h5, -alen]
      refine aws_loopw (fun m' T' H' => ∃ j : Nat, j + m' = ws.length ∧ T' 0 = .vsl (acells l) N ∧ T' 3 = .ptr a 0 ∧ T' 4 = T 4 ∧ T' 5 = .int .i64 i ∧ T' 6 = .ptr H.next 0 ∧ T' 14 = .int .i64 j ∧ H' = H.push (.cells [.int .i64 xop, .int .i64 xk, .int .i64 xf, .int .i64 xt, pkb xb]) ∧ ∀ q ∈ ws.take j, q.t ≠ xk) ws.length
        ⟨0, by omega, by simp [h0], by simp [h3], by simp, by simp [h5], by simp, by simp, rfl, by simp⟩ ?_
      rintro m' T2 H2 ⟨j, hj, g0, g3, g4, g5, g6, g14, rfl, hne⟩ hw2 _
      have w2 : IntKind.i64.wrap ((j : Int) + 1) = j + 1 := IntWalk.i64_in _ (by omega)
      have s1 : c ≠ H.next := by omega
      by_cases hjl2 : j < ws.length
      · rcases e4' with ⟨cap, opn, junk, e4, hca, hcb, hgc, hjl, hcap⟩ | h
        rotate_left
        · simp [h] at hjl2
        obtain ⟨A, p, B, A', q, B', rfl, rfl, hA, hA', hpq, hAA, hBB⟩ := split_at hkey j hjl2
        have dr : List.drop (j * 3) (wcells (A' ++ q :: B') ++ junk) = q.cells ++ (wcells B' ++ junk) := by
          simp only [wcells_append, wcells_cons, List.append_assoc]
          rw [List.drop_left' (by simp [hA'])]
        have hlt2 : j < A'.length + (B'.length + 1) := by omega
        have hlt3 : (j : Int) < (A'.length : Int) + ((B'.length : Int) + 1) := by omega
        have hlt4 : j * 3 ≤ (wcells (A' ++ q :: B') ++ junk).length := by simp; omega
        have hlt5 : j * 3 + 1 ≤ (wcells (A' ++ q :: B') ++ junk).length := by simp; omega
        have dr1 : List.drop (j * 3 + 1) (wcells (A' ++ q :: B') ++ junk) = .int .i64 q.t :: q.v :: (wcells B' ++ junk) := by
          rw [← List.drop_drop, dr]; rfl
        have htk : (A' ++ q :: B').take j = A' := List.take_left' hA'
        rw [htk] at hne
        generalize hcs : wcells (A' ++ q :: B') ++ junk = cs at *
        simp [g0, g3, g4, g5, g6, g14, e4, al36, hlt3, -alen]
        refine aw_drawn [(9, 0), (11, 0)] Try.mixed (by kernel_rfl) ?_
        intro es hes
        simp [g0, g3, g4, g5, g6, g14, al36, e4, hlt2, hlt3, hlt4, hlt5, hgc, s1, dr, dr1, Wp.cells, -alen, rds, heapF]
        refine ⟨by subst hes; exact ⟨by kernel_rfl, by kernel_rfl⟩, ?_⟩
        by_cases hq : q.t = xk
        · have hb : (q.t != xk) = false := by simp [hq]
          rw [hb]
          simp [g0, g3, g4, g5, g6, g14, -alen]
          have hpt : p.t = xk := (congrArg (fun x => x.2.1) hpq : p.t = q.t).trans hq
          have hneA : ∀ r ∈ A, r.t ≠ xk := fun r hr => by
            have h1 : r.key ∈ A'.map Wp.key := by rw [← hAA]; exact List.mem_map_of_mem hr
            obtain ⟨r', hr', e⟩ := List.mem_map.1 h1
            have h3 : r'.t = r.t := congrArg (fun x => x.2.1) e
            rw [← h3]; exact hne r' hr'
          have hqb : q.bs.length ≤ 200 := hbs q (by simp)
          have hpb : (p.b.getD []).length ≤ 1000000 := by
            have : p.b.getD [] = q.bs := congrArg (fun x => x.2.2) hpq
            rw [this]; omega
          refine does_usew (oldest_some _ a b A B p xk hnet1 hneA hpt hpb) ?_
          rintro _ H2 ⟨rfl, hn2, k2⟩ hw2 _
          have hkk : ∀ j, j < H.next → j ≠ a → j ≠ b → H2.get j = H.get j := fun j hj h1 h2 => by
            rw [k2.2.2 j (by simp; omega) h1 h2]
            have : j ≠ H.next := by omega
            simp [this]
          have hn2' := k2.1
          simp at hn2'
          have hp1 : p.f = q.f := congrArg (fun x => x.1) hpq
          have hp2 : p.t = q.t := congrArg (fun x => x.2.1) hpq
          have hp3 : p.b.getD [] = q.bs := congrArg (fun x => x.2.2) hpq
          have hqL := hws.1 q (by simp)
          have g2 : H2.get H.next = some (.cells [.int .i64 xop, .int .i64 xk, .int .i64 xf, .int .i64 xt, pkb xb]) := by
            rw [k2.2.2 H.next (by simp) (by omega) (by omega)]; simp
          have hgc2 : H2.get c = some (.cells cs) := by rw [hkk c hcl hca hcb]; exact hgc
          have s1' : c ≠ H2.next := by omega
          have n2 : H.next ≠ H2.next := by omega
          simp [g0, g3, g4, g5, g6, g14, e4, al36, hlt3, g2, n2, Pk.cells, -alen]
          refine aw_drawn [(9, 0), (13, 0)] Try.mixed (by kernel_rfl) ?_
          intro es hes2
          obtain ⟨qi, qk, qo, hqv, hqg, qa, qb, qc⟩ := hqL
          have hqi := next_lt hw hqg
          have hqb2 : Bts (H2.push (.cells [.int .i64 p.f, .int .i64 p.t, pkb p.b])) q.v (b8 q.bs) := by
            refine .inr (.inr ⟨qi, qk, qo, by simpa using hqv, ?_⟩)
            have e : qi ≠ H2.next := by omega
            simp [e, hkk qi hqi qa qb, hqg]
          simp [g0, g3, g4, g5, g6, g14, e4, al36, g2, n2, s1', hgc2, dr, hlt2, hlt3, hlt4, Wp.cells, -alen, rds, heapF]
          refine ⟨_, _, same_spec _ p.f p.t q.f q.t _ _ (p.b.getD []) q.bs (pkb_bts _ _) hqb2, by simp, ?_⟩
          simp [hp1, hp2, hp3, g0, g3, g4, g5, g6, g14, e4, g2, n2, s1', hgc2, dr, hlt2, hlt3, hlt4, Wp.cells, -alen, rds, heapF]
          refine ⟨by subst hes2; exact ⟨by kernel_rfl, by kernel_rfl⟩, ?_⟩
          obtain ⟨Hp, hHp⟩ : ∃ Hp, Hp = H2.push (.cells [.int .i64 q.f, .int .i64 q.t, pkb p.b]) := ⟨_, rfl⟩
          have hgc3 : Hp.get c = some (.cells (wcells (A' ++ q :: B') ++ junk)) := by rw [hHp, hcs]; simp [s1', hgc2]
          have hnp : Hp.next = H2.next + 1 := by rw [hHp]; rfl
          have hgp : ∀ j, j < H2.next → Hp.get j = H2.get j := fun j hj => by
            have e : j ≠ H2.next := by omega
            rw [hHp]; simp [e]
          rw [← hHp, ← hA']
          refine does_usew (without_use Hp c cap opn A' B' q junk hgc3 hjl hcap (LB.scalar hws.1)) ?_
          rintro _ H3 ⟨c', op', rfl, hc', hg', gr⟩ hw3 _
          have ha3 : H3.get a = H2.get a := by rw [gr.2.2 a (by omega)]; exact hgp a (by omega)
          have hb3 : H3.get b = H2.get b := by rw [gr.2.2 b (by omega)]; exact hgp b (by omega)
          simp [g0, g3, g4, g5, g6, g14, -alen]
          refine does_use (len_keep hn2 ha3 hb3) ?_
          rintro _ _ ⟨rfl, rfl⟩
          have hl1 : (A ++ B).length = A'.length + B'.length := by
            have e1 := congrArg List.length hAA
            have e2 := congrArg List.length hBB
            simp at e1 e2 ⊢; omega
          simp [g0, g3, g4, g5, w1, al36, hl1, -alen]
          refine ⟨m - 1, by omega, i + 1, by omega, by simp, play_cut (p := p) (op := op') hw hws.1 hAA hBB hle hbs (hn2.keep ha3 hb3) (fun j j1 j2 j3 => by rw [gr.2.2 j (by omega), hgp j (by omega)]; exact hkk j j1 j2 j3) (by omega) (by omega) (by omega) (by simp) hg' (by rw [List.length_append, ← hl1]; simp at hle ⊢; omega)⟩
        · have hb : (q.t != xk) = true := by simp [hq]
          rw [hb]
          simp [g0, g3, g4, g5, g6, g14, w2, -alen]
          refine ⟨m' - 1, by omega, j + 1, by simp at hj ⊢; omega, by simp, fun r hr => ?_⟩
          have htk2 : (A' ++ q :: B').take (j + 1) = A' ++ [q] := by rw [← hA', List.take_append, List.take_of_length_le (by omega)]; simp
          rw [htk2] at hr
          simp only [List.mem_append, List.mem_singleton] at hr
          rcases hr with hr | rfl
          · exact hne r hr
          · exact hq
      · have : j = ws.length := by omega
        subst this
        simp [g0, g3, g4, g5, g6, g14, hlw, -alen]
        refine aw_drawn [] Try.mixed (by kernel_rfl) ?_
        intro es hes
        simp [g0, g3, g4, g5, g6, g14, hlw, -alen, rds, heapF]
        refine ⟨by subst hes; exact ⟨by kernel_rfl, by kernel_rfl⟩, ?_⟩
        have hnone : ∀ p ∈ ps, p.t ≠ xk := fun p hp => by
          have h1 : p.key ∈ ws.map Wp.key := by rw [← hkey]; exact List.mem_map_of_mem hp
          obtain ⟨q, hq, e⟩ := List.mem_map.1 h1
          have h2 := hne q (by rw [List.take_length]; exact hq)
          have h3 : q.t = p.t := congrArg (fun x => x.2.1) e
          rw [← h3]; exact h2
        refine does_use (oldest_none _ a b ps xk hnet1 hnone) ?_
        rintro _ _ ⟨rfl, rfl⟩
        simp [g0, g3, g4, g5, g6, g14, hlw, -alen]
        refine aw_drawn [] Try.mixed (by kernel_rfl) ?_
        intro es hes2
        simp [g0, g3, g4, g5, g6, g14, hlw, -alen, rds, heapF]
        refine ⟨by subst hes2; exact ⟨by kernel_rfl, by kernel_rfl⟩, ?_⟩
        have ea1 : a ≠ H.next := by omega
        have ea2 : a ≠ H.next + 1 := by omega
        have eb1 : b ≠ H.next := by omega
        have eb2 : b ≠ H.next + 1 := by omega
        refine does_use (len_keep hnet (by simp [ea1, ea2]) (by simp [eb1, eb2])) ?_
        rintro _ _ ⟨rfl, rfl⟩
        simp [g0, g3, g4, g5, w1, hlw, hpl, -alen]
        refine ⟨m - 1, by omega, i + 1, by omega, by simp, play_same hw hws hkey hle hbs (hnet.keep (by simp [ea1, ea2]) (by simp [eb1, eb2])) fun j j1 _ _ => ?_⟩
        have e1 : j ≠ H.next := by omega
        have e2 : j ≠ H.next + 1 := by omega
        simp [e1, e2]
  · have : i = N := by omega
    subst this
    simp [h0, h3, h5]
end Go.Proofs
