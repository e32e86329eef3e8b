/-
  A simplified meaning for Go code: a region that draws its order, walked by simp.
-/
import Derived.Test.YtcbiaeoladjecaaAbsW
namespace Go.Abs
open Go

structure Full where
  T : Nat → AV
  H : AHeap
  v : AV
  k : Kind

/-- What the end's checks need of an operation. -/
structure Lite where
  c : Nat
  H : AHeap
  rd : (Nat → Option AObj) → Option AV
  v : AV

def Kind.code : Kind → Nat
  | .idle => 0
  | .read => 1
  | .alloc _ => 2
  | .eff => 3

def lite (P : Program) (G : Nat → Option AV) (o : Oper) (x : Full) : Lite := ⟨x.k.code, x.H, fun g => aread P (aval G x.T) g o, x.v⟩

inductive Tr (P : Program) (G : Nat → Option AV) (ops : Array Oper) : List Oper → (Nat → AV) → AHeap → List Full → (Nat → AV) → AHeap → Prop
  | nil {T : Nat → AV} {H : AHeap} : Tr P G ops [] T H [] T H
  | cons {o : Oper} {r : List Oper} {T : Nat → AV} {H H1 : AHeap} {v : AV} {k : Kind} {s : List Full} {T' : Nat → AV} {H' : AHeap} (hs : Step P G ops o T H v k H1) (hn : H.next ≤ H1.next)
      (h : Tr P G ops r (tput T o.dst v) H1 s T' H') : Tr P G ops (o :: r) T H (⟨T, H, v, k⟩ :: s) T' H'

def heapF (s : List Lite) (H : AHeap) (q : Nat) : AHeap := match s[q]? with
  | some x => x.H
  | none => H

def lites (P : Program) (G : Nat → Option AV) : List Oper → List Full → List Lite
  | o :: r, x :: s => lite P G o x :: lites P G r s
  | _, _ => []

/-- A region in its text's order. -/
def ADr (X : Ctx) (ops : Array Oper) (K : List Lite → (Nat → AV) → AHeap → Prop) : List Oper → List Lite → (Nat → AV) → AHeap → Prop
  | [], s, T, H => K s T H
  | o :: r, s, T, H =>
    @condA (awanted ops T o)
      ⟨fun _ => @altO _ (acallee (aval X.G T) o) ⟨fun fa => ∃ x H', Does X.P X.G fa.1 fa.2 H (fun y h => y = x ∧ h = H') ∧ H.next ≤ H'.next ∧ ADr X ops K r (s ++ [⟨3, H, fun _ => none, x⟩]) (tput T o.dst x) H'⟩
        ⟨@altO _ (apure X.P (aval X.G T) o) ⟨fun v => ADr X ops K r (s ++ [⟨0, H, fun _ => none, v⟩]) (tput T o.dst v) H⟩
          ⟨@altO _ (aread X.P (aval X.G T) H.get o) ⟨fun v => ADr X ops K r (s ++ [⟨1, H, fun g => aread X.P (aval X.G T) g o, v⟩]) (tput T o.dst v) H⟩
            ⟨@altO _ (aalloc X.P (aval X.G T) o) ⟨fun x => ADr X ops K r (s ++ [⟨2, H, fun _ => none, x.2 H.next⟩]) (tput T o.dst (x.2 H.next)) (H.push (.cells x.1))⟩
              ⟨@altO _ (aeff X.P (aval X.G T) H.get H.next o) ⟨fun x => ADr X ops K r (s ++ [⟨3, H, fun _ => none, x.1⟩]) (tput T o.dst x.1) (H.eff x.2)⟩ ⟨False⟩⟩⟩⟩⟩⟩
      ⟨fun _ => ADr X ops K r (s ++ [⟨0, H, fun _ => none, undefA⟩]) (tput T o.dst undefA) H⟩

def ADf [X : Hid Ctx] [ops : Hid (Array Oper)] [K : Hid (List Lite → (Nat → AV) → AHeap → Prop)] [l : Hid (List Oper)] [s : Hid (List Lite)] [T : Hid (Nat → AV)] (H : AHeap) : Prop := ADr X.v ops.v K.v l.v s.v T.v H

theorem eff_next (H : AHeap) (e : AEff) : H.next ≤ (H.eff e).next := by cases e <;> simp [AHeap.eff]

/-- Two lists, side by side. -/
inductive Two {α β : Type} (R : α → β → Prop) : List α → List β → Prop
  | nil : Two R [] []
  | cons {a : α} {b : β} {s : List α} {t : List β} (h : R a b) (g : Two R s t) : Two R (a :: s) (b :: t)

theorem Two.length_eq {α β : Type} {R : α → β → Prop} {s : List α} {t : List β} (h : Two R s t) : s.length = t.length := by
  induction h with
  | nil => rfl
  | cons _ _ ih => simp [ih]

/-- Two records agree in what counts. -/
def LRel (a b : Lite) : Prop := a.c = b.c ∧ a.H = b.H ∧ a.v = b.v ∧ (a.c = 1 → a.rd = b.rd)

theorem adf_trace {X : Ctx} {ops : Array Oper} {K : List Lite → (Nat → AV) → AHeap → Prop} : ∀ (l : List Oper) (s : List Lite) (T : Nat → AV) (H : AHeap), ADr X ops K l s T H →
    ∃ u T' H' t, Tr X.P X.G ops l T H u T' H' ∧ K (s ++ t) T' H' ∧ Two LRel t (lites X.P X.G l u)
  | [], s, T, H, h => ⟨[], T, H, [], .nil, by rw [List.append_nil]; exact h, .nil⟩
  | o :: r, s, T, H, h => by
    have go : ∀ (x : Lite) (v : AV) (k : Kind) (H1 : AHeap), Step X.P X.G ops o T H v k H1 → H.next ≤ H1.next → LRel x (lite X.P X.G o ⟨T, H, v, k⟩) → ADr X ops K r (s ++ [x]) (tput T o.dst v) H1 →
        ∃ u T' H' t, Tr X.P X.G ops (o :: r) T H u T' H' ∧ K (s ++ t) T' H' ∧ Two LRel t (lites X.P X.G (o :: r) u) := by
      intro x v k H1 hs hn hx h
      obtain ⟨u, T', H', t, h1, h2, h3⟩ := adf_trace r _ _ _ h
      exact ⟨⟨T, H, v, k⟩ :: u, T', H', x :: t, .cons hs hn h1, by simpa using h2, .cons hx h3⟩
    simp only [ADr] at h
    unfold condA at h
    split at h
    · rename_i hw
      simp only at h
      unfold altO at h
      split at h
      · rename_i fa hc
        obtain ⟨f, args⟩ := fa
        obtain ⟨x, H1, hd, hn, h⟩ := h
        exact go ⟨3, H, fun _ => none, x⟩ x .eff H1 ⟨hw, .inr ⟨f, args, hc, hd⟩⟩ hn ⟨rfl, rfl, rfl, fun e => by simp at e⟩ h
      · try simp only at h
        split at h
        · rename_i v hv
          exact go ⟨0, H, fun _ => none, v⟩ v .idle H ⟨.inr ⟨hw, hv⟩, rfl⟩ (Nat.le_refl _) ⟨rfl, rfl, rfl, fun e => by simp at e⟩ h
        · try simp only at h
          split at h
          · rename_i v hv
            exact go ⟨1, H, fun g => aread X.P (aval X.G T) g o, v⟩ v .read H ⟨hw, hv, rfl⟩ (Nat.le_refl _) ⟨rfl, rfl, rfl, fun _ => rfl⟩ h
          · try simp only at h
            split at h
            · rename_i cf hv
              obtain ⟨cs, f⟩ := cf
              exact go ⟨2, H, fun _ => none, f H.next⟩ (f H.next) (.alloc cs) _ ⟨hw, f, hv, rfl, rfl⟩ (by simp) ⟨rfl, rfl, rfl, fun e => by simp at e⟩ h
            · try simp only at h
              split at h
              · rename_i ve hv
                obtain ⟨v, e⟩ := ve
                exact go ⟨3, H, fun _ => none, v⟩ v .eff _ ⟨hw, .inl ⟨e, hv, rfl⟩⟩ (eff_next H e) ⟨rfl, rfl, rfl, fun e => by simp at e⟩ h
              · exact h.elim
    · rename_i hw
      exact go ⟨0, H, fun _ => none, undefA⟩ undefA .idle H ⟨.inl ⟨by simpa using hw, rfl⟩, rfl⟩ (Nat.le_refl _) ⟨rfl, rfl, rfl, fun e => by simp at e⟩ h

def effsC (cs as : List Nat) : Bool :=
  cs.zipIdx.all fun (y, j) => !(y == 3) || cs.zipIdx.all fun (x, i) => !decide (i < j) || !(x == 3 || x == 2) || (as.getD j 0).testBit i

/-- Which reads must be looked at in which heap. -/
def needs (cs as : List Nat) : List (Nat × Nat) :=
  let es := (cs.zipIdx.filter fun (x, _) => x == 3).map (·.2)
  (cs.zipIdx.filter fun (x, _) => x == 1).flatMap fun (_, r) =>
    ((0 :: es.map (· + 1)).filter fun q => !((es.any fun e => decide (e < q) && (as.getD e 0).testBit r) || (es.any fun e => decide (q ≤ e) && (as.getD r 0).testBit e))).map fun q => (r, q)

def rds (s : List Lite) (H : AHeap) : List (Nat × Nat) → Prop
  | [] => True
  | (r, q) :: l => (match s[r]? with | some x => x.rd (heapF s H q).get = some x.v | none => True) ∧ rds s H l

theorem rds_mem {s : List Lite} {H : AHeap} : ∀ {l : List (Nat × Nat)}, rds s H l → ∀ {r q : Nat} {x : Lite}, (r, q) ∈ l → s[r]? = some x → x.rd (heapF s H q).get = some x.v
  | [], _, r, q, x, h, _ => by simp at h
  | (a, b) :: l, h, r, q, x, hm, hx => by
    simp only [rds] at h
    simp only [List.mem_cons, Prod.mk.injEq] at hm
    rcases hm with ⟨rfl, rfl⟩ | hm
    · have := h.1; rw [hx] at this; exact this
    · exact rds_mem h.2 hm hx

theorem tr_length {P : Program} {G : Nat → Option AV} {ops : Array Oper} {l : List Oper} {T T' : Nat → AV} {H H' : AHeap} {u : List Full} (h : Tr P G ops l T H u T' H') : u.length = l.length := by
  induction h with
  | nil => rfl
  | cons _ _ _ ih => simp [ih]

def hAt (u : List Full) (H : AHeap) (q : Nat) : AHeap := match u[q]? with
  | some x => x.H
  | none => H
def tAt' (u : List Full) (T : Nat → AV) (q : Nat) : Nat → AV := match u[q]? with
  | some x => x.T
  | none => T

theorem tr_spec {P : Program} {G : Nat → Option AV} {ops : Array Oper} {l : List Oper} {T T' : Nat → AV} {H H' : AHeap} {u : List Full} (h : Tr P G ops l T H u T' H') :
    hAt u H' 0 = H ∧ tAt' u T' 0 = T ∧ ∀ i x o, u[i]? = some x → l[i]? = some o → Step P G ops o x.T x.H x.v x.k (hAt u H' (i + 1)) ∧ x.H.next ≤ (hAt u H' (i + 1)).next ∧ tAt' u T' (i + 1) = tput x.T o.dst x.v := by
  induction h with
  | nil => exact ⟨rfl, rfl, fun i x o h => by simp at h⟩
  | @cons o r T H H1 v k s T' H' hs hn h ih =>
    obtain ⟨h1, h2, h3⟩ := ih
    refine ⟨rfl, rfl, fun i x q hx hq => ?_⟩
    cases i with
    | zero =>
      simp only [List.getElem?_cons_zero, Option.some.injEq] at hx hq
      subst hx; subst hq
      have e1 : hAt (⟨T, H, v, k⟩ :: s) H' (0 + 1) = H1 := h1
      have e2 : tAt' (⟨T, H, v, k⟩ :: s) T' (0 + 1) = tput T o.dst v := h2
      rw [e1, e2]
      exact ⟨hs, hn, rfl⟩
    | succ i => exact h3 i x q (by simpa using hx) (by simpa using hq)

theorem lites_get {P : Program} {G : Nat → Option AV} : ∀ (l : List Oper) (u : List Full) (i : Nat) (o : Oper) (x : Full), l[i]? = some o → u[i]? = some x → (lites P G l u)[i]? = some (lite P G o x)
  | [], u, i, o, x, h, _ => by simp at h
  | a :: l, [], i, o, x, _, h => by simp at h
  | a :: l, y :: u, 0, o, x, h, g => by simp at h g; subst h; subst g; rfl
  | a :: l, y :: u, i + 1, o, x, h, g => by simpa [lites] using lites_get l u i o x (by simpa using h) (by simpa using g)

theorem forall2_get {α β : Type} {R : α → β → Prop} : ∀ {s : List α} {t : List β}, Two R s t → ∀ {i : Nat} {y : β}, t[i]? = some y → ∃ x, s[i]? = some x ∧ R x y
  | _, _, .nil, i, y, h => by simp at h
  | _, _, .cons hr _, 0, y, h => by simp at h; subst h; exact ⟨_, rfl, hr⟩
  | _, _, .cons _ ht, i + 1, y, h => by simpa using forall2_get ht (i := i) (by simpa using h)

theorem aw_drawF {P : Program} {G : Nat → Option AV} {N : Nat} {ops : Array Oper} {Q : Exit → (Nat → AV) → AHeap → Prop} {T : Nat → AV} {H : AHeap} {id : Nat} (as : List Nat) (L : List (Nat × Nat)) (hm : P.follows .mixedOrders = true)
    (hok : regionOk N ops = true) (has : ancs ops.toList = as)
    (h : ADr ⟨P, G, N⟩ ops (fun s T' H' => (effsC (s.map (·.c)) as = true ∧ needs (s.map (·.c)) as = L) ∧ rds s H' L ∧ Q .normal T' H') ops.toList [] T H) : AW P G N (.region id ops true) Q T H := by
  subst has
  obtain ⟨u, T2, H2, t, htr, hK, hF⟩ := adf_trace _ _ _ _ h
  simp only [List.nil_append] at hK
  obtain ⟨⟨heffs, hneeds⟩, hrds, hQ⟩ := hK
  simp only [regionOk, Bool.and_eq_true] at hok
  obtain ⟨⟨hback, hslots⟩, hdst⟩ := hok
  have hdst' := dstOk_spec hdst
  have hlen : u.length = ops.size := by rw [tr_length htr]; exact Array.length_toList
  obtain ⟨hH0, hT0, hst⟩ := tr_spec htr
  have hget : ∀ i, i < ops.size → ∃ x, u[i]? = some x := fun i hi => ⟨u[i]'(by omega), List.getElem?_eq_getElem (by omega)⟩
  have hlite : ∀ i, i < ops.size → ∃ x y o, u[i]? = some x ∧ ops[i]? = some o ∧ t[i]? = some y ∧ LRel y (lite P G o x) := fun i hi => by
    obtain ⟨x, hx⟩ := hget i hi
    obtain ⟨o, ho⟩ := get_of hi
    obtain ⟨y, hy, hr⟩ := forall2_get hF (lites_get ops.toList u i o x (by simpa using ho) hx)
    exact ⟨x, y, o, hx, ho, hy, hr⟩
  have tlen : t.length = ops.size := by
    have h1 : t.length = (lites P G ops.toList u).length := Two.length_eq hF
    have h2 : ∀ (l : List Oper) (u : List Full), u.length = l.length → (lites P G l u).length = l.length := by
      intro l
      induction l with
      | nil => intro u _; simp [lites]
      | cons a l ih => intro u hu; cases u with
        | nil => simp at hu
        | cons b u => simp [lites, ih u (by simpa using hu)]
    rw [h1, h2 _ _ (by rw [hlen]; simp)]; simp
  let vAt : Nat → AV := fun i => match u[i]? with | some y => y.v | none => undefA
  let kAt : Nat → Kind := fun i => match u[i]? with | some y => y.k | none => .idle
  have code : ∀ i, i < ops.size → (t.map (·.c))[i]? = some (kAt i).code := fun i hi => by
    obtain ⟨x, y, o, hx, ho, hy, hr⟩ := hlite i hi
    have : kAt i = x.k := by simp only [kAt, hx]
    rw [List.getElem?_map, hy, this]
    simp only [Option.map_some]
    rw [hr.1]; rfl
  have c3 : ∀ i, (kAt i).isEff = true → (kAt i).code = 3 := fun i h => by cases hk : kAt i <;> rw [hk] at h <;> first | rfl | simp [Kind.isEff] at h
  have c2 : ∀ i, (kAt i).isAlloc = true → (kAt i).code = 2 := fun i h => by cases hk : kAt i <;> rw [hk] at h <;> first | rfl | simp [Kind.isAlloc] at h
  have d3 : ∀ i, (kAt i).code = 3 → (kAt i).isEff = true := fun i h => by cases hk : kAt i <;> rw [hk] at h <;> first | rfl | simp [Kind.code] at h
  have hheap : ∀ q, q ≤ ops.size → heapF t H2 q = hAt u H2 q := fun q hq => by
    rcases Nat.lt_or_ge q ops.size with g | g
    · obtain ⟨x, y, o, hx, ho, hy, hr⟩ := hlite q g
      simp only [heapF, hAt, hx, hy]
      exact hr.2.1
    · simp only [heapF, hAt]
      rw [List.getElem?_eq_none (by omega), List.getElem?_eq_none (by omega)]
  let R : Run P G N ops :=
    { T := fun i => tAt' u T2 i
      H := fun i => hAt u H2 i
      v := vAt
      k := kAt
      step := fun i o ho => by
        obtain ⟨x, hx⟩ := hget i (get_lt ho)
        have := (hst i x o hx (by simpa using ho)).1
        have e1 : tAt' u T2 i = x.T := by simp only [tAt', hx]
        have e2 : vAt i = x.v := by simp only [vAt, hx]
        have e3 : kAt i = x.k := by simp only [kAt, hx]
        have e4 : hAt u H2 i = x.H := by simp only [hAt, hx]
        rw [e1, e2, e3, e4]; exact this
      put := fun i o ho => by
        obtain ⟨x, hx⟩ := hget i (get_lt ho)
        have := (hst i x o hx (by simpa using ho)).2.2
        have e1 : tAt' u T2 i = x.T := by simp only [tAt', hx]
        have e2 : vAt i = x.v := by simp only [vAt, hx]
        rw [this, e1, e2]
      dst := hdst'
      mono := fun i hi => by
        obtain ⟨x, hx⟩ := hget i hi
        obtain ⟨o, ho⟩ := get_of hi
        have := (hst i x o hx (by simpa using ho)).2.1
        have e4 : hAt u H2 i = x.H := by simp only [hAt, hx]
        rw [e4]; exact this
      back := backOk_spec hback
      slots := slotsOk_spec hslots
      effs := fun i j hij hj hk hk' => by
        have ci := code i (by omega)
        have cj := code j hj
        rw [c3 j hk] at cj
        unfold effsC at heffs
        rw [List.all_eq_true] at heffs
        have := heffs (3, j) (mem_zipIdx cj)
        simp only [beq_self_eq_true, Bool.not_true, Bool.false_or, List.all_eq_true] at this
        have := this ((kAt i).code, i) (mem_zipIdx ci)
        simp only [hij, decide_true, Bool.not_true, Bool.false_or] at this
        have hor : ((kAt i).code == 3 || (kAt i).code == 2) = true := by
          rcases hk' with q | q
          · rw [c3 i q]; rfl
          · rw [c2 i q]; rfl
        rw [hor] at this
        exact ancs_sound (by simpa using this)
      reads := fun r o ho hk q hq hq0 hlo hhi => by
        obtain ⟨x, y, o', hx, ho', hy, hr⟩ := hlite r (get_lt ho)
        rw [ho] at ho'; simp only [Option.some.injEq] at ho'; subst ho'
        have ex : kAt r = x.k := by simp only [kAt, hx]
        have e1 : tAt' u T2 r = x.T := by simp only [tAt', hx]
        have e2 : vAt r = x.v := by simp only [vAt, hx]
        have hk : kAt r = .read := hk
        have cr := code r (get_lt ho)
        rw [hk] at cr
        have yc : y.c = 1 := by rw [hr.1]; show x.k.code = 1; rw [← ex, hk]; rfl
        have hm : (r, q) ∈ L := by
          rw [← hneeds]
          unfold needs
          simp only [List.mem_flatMap, List.mem_map, List.mem_filter, Prod.exists]
          refine ⟨1, r, ⟨mem_zipIdx cr, by simp⟩, q, ⟨?_, ?_⟩, rfl⟩
          · rcases hq0 with rfl | ⟨e, rfl, he⟩
            · simp
            · have ce := code e (by omega)
              have he : (kAt e).isEff = true := he
              rw [c3 e he] at ce
              simp only [List.mem_cons, List.mem_map, List.mem_filter, Prod.exists]
              exact .inr ⟨e, ⟨3, e, ⟨mem_zipIdx ce, by simp⟩, rfl⟩, rfl⟩
          · have cof : ∀ e, e ∈ ((t.map (·.c)).zipIdx.filter fun (x, _) => x == 3).map (·.2) → e < ops.size ∧ (kAt e).isEff = true := by
              intro e he
              simp only [List.mem_map, List.mem_filter, Prod.exists] at he
              obtain ⟨c, e', ⟨h1, h2⟩, rfl⟩ := he
              have h1 := List.mem_zipIdx_iff_getElem?.1 h1
              have hl : e' < ops.size := by
                rcases Nat.lt_or_ge e' ops.size with g | g
                · exact g
                · rw [List.getElem?_eq_none (by simp; omega)] at h1; simp at h1
              refine ⟨hl, d3 e' ?_⟩
              rw [code e' hl] at h1
              simp only [Option.some.injEq] at h1
              rw [h1]; simpa using h2
            rw [Bool.not_eq_true', Bool.or_eq_false_iff, List.any_eq_false, List.any_eq_false]
            refine ⟨fun e he hb => ?_, fun e he hb => ?_⟩
            · simp only [Bool.and_eq_true, decide_eq_true_eq] at hb
              exact hlo e hb.1 (cof e he).2 (ancs_sound hb.2)
            · simp only [Bool.and_eq_true, decide_eq_true_eq] at hb
              exact hhi e hb.1 (cof e he).1 (cof e he).2 (ancs_sound hb.2)
        have := rds_mem hrds hm hy
        rw [hheap q hq, hr.2.2.2 yc, hr.2.2.1] at this
        rw [e1, e2]
        exact this }
  have hend1 : tAt' u T2 ops.size = T2 := by simp only [tAt']; rw [List.getElem?_eq_none (by omega)]
  have hend2 : hAt u H2 ops.size = H2 := by simp only [hAt]; rw [List.getElem?_eq_none (by omega)]
  refine aw_draw hm R hT0 hH0 ?_
  show Q .normal (tAt' u T2 ops.size) (hAt u H2 ops.size)
  rw [hend1, hend2]; exact hQ

theorem aw_drawn {X : Ctx} {ops : Array Oper} {Q : Post} {T : Nat → AV} {H : AHeap} {id : Nat} (L : List (Nat × Nat)) (hm : X.P.follows .mixedOrders = true)
    (hok : regionOk X.N ops = true)
    (h : ∀ as, ancs ops.toList = as → @ADf ⟨X⟩ ⟨ops⟩ ⟨fun s T' H' => (effsC (s.map (·.c)) as = true ∧ needs (s.map (·.c)) as = L) ∧ rds s H' L ∧ @PQ ⟨Q⟩ ⟨.normal⟩ ⟨T'⟩ H'⟩ ⟨ops.toList⟩ ⟨[]⟩ ⟨T⟩ H) : @AWs ⟨X⟩ ⟨.region id ops true⟩ ⟨Q⟩ ⟨T⟩ H :=
  aw_drawF _ L hm hok rfl (h _ rfl)

section
variable {X : Ctx} {T : Nat → AV} {H : AHeap} {ops : Array Oper} {K : List Lite → (Nat → AV) → AHeap → Prop} {s : List Lite}
@[simp] theorem adf_list {l : List Oper} : @ADf ⟨X⟩ ⟨ops⟩ ⟨K⟩ ⟨l.toArray.toList⟩ ⟨s⟩ ⟨T⟩ H = @ADf ⟨X⟩ ⟨ops⟩ ⟨K⟩ ⟨l⟩ ⟨s⟩ ⟨T⟩ H := Eq.trans rfl rfl
@[simp] theorem adf_nil : @ADf ⟨X⟩ ⟨ops⟩ ⟨K⟩ ⟨[]⟩ ⟨s⟩ ⟨T⟩ H = K s T H := Eq.trans rfl rfl
@[simp] theorem adf_cons {o : Oper} {r : List Oper} : @ADf ⟨X⟩ ⟨ops⟩ ⟨K⟩ ⟨o :: r⟩ ⟨s⟩ ⟨T⟩ H =
    @condA (awanted ops T o)
      ⟨fun _ => @altO _ (acallee (aval X.G T) o) ⟨fun fa => ∃ x H', Does X.P X.G fa.1 fa.2 H (fun y h => y = x ∧ h = H') ∧ H.next ≤ H'.next ∧ @ADf ⟨X⟩ ⟨ops⟩ ⟨K⟩ ⟨r⟩ ⟨s ++ [⟨3, H, fun _ => none, x⟩]⟩ ⟨tput T o.dst x⟩ H'⟩
        ⟨@altO _ (apure X.P (aval X.G T) o) ⟨fun v => @ADf ⟨X⟩ ⟨ops⟩ ⟨K⟩ ⟨r⟩ ⟨s ++ [⟨0, H, fun _ => none, v⟩]⟩ ⟨tput T o.dst v⟩ H⟩
          ⟨@altO _ (aread X.P (aval X.G T) H.get o) ⟨fun v => @ADf ⟨X⟩ ⟨ops⟩ ⟨K⟩ ⟨r⟩ ⟨s ++ [⟨1, H, fun g => aread X.P (aval X.G T) g o, v⟩]⟩ ⟨tput T o.dst v⟩ H⟩
            ⟨@altO _ (aalloc X.P (aval X.G T) o) ⟨fun x => @ADf ⟨X⟩ ⟨ops⟩ ⟨K⟩ ⟨r⟩ ⟨s ++ [⟨2, H, fun _ => none, x.2 H.next⟩]⟩ ⟨tput T o.dst (x.2 H.next)⟩ (H.push (.cells x.1))⟩
              ⟨@altO _ (aeff X.P (aval X.G T) H.get H.next o) ⟨fun x => @ADf ⟨X⟩ ⟨ops⟩ ⟨K⟩ ⟨r⟩ ⟨s ++ [⟨3, H, fun _ => none, x.1⟩]⟩ ⟨tput T o.dst x.1⟩ (H.eff x.2)⟩ ⟨False⟩⟩⟩⟩⟩⟩
      ⟨fun _ => @ADf ⟨X⟩ ⟨ops⟩ ⟨K⟩ ⟨r⟩ ⟨s ++ [⟨0, H, fun _ => none, undefA⟩]⟩ ⟨tput T o.dst undefA⟩ H⟩ := Eq.trans rfl rfl
end

end Go.Abs
