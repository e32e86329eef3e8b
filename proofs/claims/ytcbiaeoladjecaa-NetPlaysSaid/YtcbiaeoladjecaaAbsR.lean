/-
  A simplified meaning for Go code, eighteenth part: the rule for a region that draws its order; the static checks.
-/
import Derived.Test.YtcbiaeoladjecaaAbsQ
namespace Go.Abs
open Go

theorem aw_draw {P : Program} {G : Nat → Option AV} {N : Nat} {ops : Array Oper} {Q : Exit → (Nat → AV) → AHeap → Prop} {T : Nat → AV} {H : AHeap} {id : Nat} (hm : P.follows .mixedOrders = true)
    (R : Run P G N ops) (hT : R.T 0 = T) (hH : R.H 0 = H) (hQ : Q .normal (R.T ops.size) (R.H ops.size)) : AW P G N (.region id ops true) Q T H := by
  subst hT; subst hH
  intro E0 a w hG hs
  obtain ⟨⟨E, hx, hR, hTr⟩, hdf⟩ := hs
  refine wp_region_any hm ?_
  have hreal : ∀ i, i ≤ ops.size → ∃ (E' : Env) (w' : World) (a' : Act), Ext E0 E' ∧ Rel E' (R.H i) w' ∧ TRel E' N (R.T i) a'.tmps := fun i hi => by
    obtain ⟨E', w', a', h1, h2, h3⟩ := R.real (hG.mono hx.knows) hR hTr i hi
    exact ⟨E', w', a', hx.trans h1, h2, h3⟩
  have hdom0 : ∀ j p, E0.φ j = some p → j < (R.H 0).next := fun j p hj => hR.dom j p (hx.φ j p hj)
  have hR' : Rel E (R.H 0) { w with drawn := w.drawn + 1 } := hR.drew
  have hl : ∀ j, (Array.replicate ops.size false).getD j false = false := fun j => by
    simp only [Array.getD_eq_getD_getElem?, Array.getElem?_replicate]
    split <;> rfl
  have hfl : (fun j => (Array.replicate ops.size false).getD j false) = fun _ => false := funext hl
  have hcnt : ∀ n, undone (fun _ => false) n = n := by
    intro n
    induction n with
    | zero => rfl
    | succ n ih => simp [undone, ih]
  refine wpAny_of R hG hreal hdom0 hQ ops.size _ a _ (by simp) (by rw [hfl]; exact hcnt _) ?_
  · rw [hfl]
    have hex : ∀ k i, R.ex (fun _ => false) 0 k i = none := by
      intro k
      induction k with
      | zero => intro i; rfl
      | succ k ih =>
        intro i
        simp only [Run.ex]
        split
        · rw [if_neg (by simp)]; exact ih i
        · exact ih i
    have hTS : ∀ k, R.TS (fun _ => false) k = R.T 0 := by
      intro k
      induction k with
      | zero => rfl
      | succ k ih =>
        simp only [Run.TS, ih]
        split <;> simp
    refine ⟨fun j o _ h => by simp at h, hdf, E, 0, hx, Nat.zero_le _, .inl rfl, fun _ _ _ _ => rfl, fun j h => by omega, ?_, fun i p hp => .inl (hR.dom i p hp), ?_⟩
    · refine hR'.sub (R.mono_le (i := 0) ops.size (Nat.zero_le _) (Nat.le_refl _)) fun i x hi => ?_
      simp only [Run.HS, Run.X, AHeap.over, hex] at hi
      exact hi
    · rw [hTS]; exact hTr

/-! ### static checks of a region -/

def backOk (ops : List Oper) : Bool := ops.zipIdx.all fun (o, i) => o.after.toList.all fun e => !Region.binds .any e || decide (e.on < i)

/-- Of each operation, as bits, operations that must come ahead of it. -/
def ancsFrom : List Oper → List Nat → List Nat
  | [], acc => acc
  | o :: r, acc => ancsFrom r (acc ++ [o.after.toList.foldl (fun s e => if Region.binds .any e then s ||| 2 ^ e.on ||| acc.getD e.on 0 else s) 0])
def ancs (ops : List Oper) : List Nat := ancsFrom ops []

theorem fold_bits {ops : Array Oper} {acc : List Nat} {j : Nat} {o : Oper} (ho : ops[j]? = some o) (hacc : ∀ k i, k < j → (acc.getD k 0).testBit i = true → Reach ops i k) (hlen : acc.length = j) :
    ∀ (es : List Edge) (s : Nat), (∀ e ∈ es, e ∈ o.after) → (∀ i, s.testBit i = true → Reach ops i j) → ∀ i, (es.foldl (fun s e => if Region.binds .any e then s ||| 2 ^ e.on ||| acc.getD e.on 0 else s) s).testBit i = true → Reach ops i j
  | [], s, _, hs, i, h => hs i h
  | e :: es, s, he, hs, i, h => by
    simp only [List.foldl_cons] at h
    refine fold_bits ho hacc hlen es _ (fun e' h' => he e' (by simp [h'])) (fun i' h' => ?_) i h
    split at h'
    · rename_i hb
      simp only [Nat.testBit_or, Bool.or_eq_true, Nat.testBit_two_pow, decide_eq_true_eq] at h'
      have hedge : Reach ops e.on j := .edge ho (he e (by simp)) hb rfl
      rcases h' with (h' | h') | h'
      · exact hs i' h'
      · rw [← h']; exact hedge
      · by_cases hlt : e.on < j
        · exact .trans (hacc _ _ hlt h') hedge
        · have : acc.getD e.on 0 = 0 := by
            simp only [List.getD]
            rw [List.getElem?_eq_none (by omega)]; rfl
          rw [this] at h'; simp at h'
    · exact hs i' h'

theorem ancsFrom_sound {ops : Array Oper} : ∀ (r : List Oper) (acc : List Nat), (∀ k o, r[k]? = some o → ops[acc.length + k]? = some o) → (∀ k i, k < acc.length → (acc.getD k 0).testBit i = true → Reach ops i k) →
    ∀ k i, ((ancsFrom r acc).getD k 0).testBit i = true → Reach ops i k
  | [], acc, _, hacc, k, i, h => by
    simp only [ancsFrom] at h
    by_cases hk : k < acc.length
    · exact hacc k i hk h
    · have : acc.getD k 0 = 0 := by
        simp only [List.getD]
        rw [List.getElem?_eq_none (by omega)]; rfl
      rw [this] at h; simp at h
  | o :: r, acc, hr, hacc, k, i, h => by
    simp only [ancsFrom] at h
    refine ancsFrom_sound r _ (fun k' o' ho' => ?_) (fun k' i' hk' h' => ?_) k i h
    · have := hr (k' + 1) o' (by simpa using ho')
      simpa [Nat.add_assoc, Nat.add_comm 1 k'] using this
    · simp only [List.length_append, List.length_cons, List.length_nil] at hk'
      by_cases e : k' = acc.length
      · subst e
        have e1 : ∀ x : Nat, (acc ++ [x]).getD acc.length 0 = x := fun x => by simp
        rw [e1] at h'
        exact fold_bits (hr 0 o rfl) hacc rfl _ 0 (fun e he => by simpa using he) (fun i h => by simp at h) i' h'
      · have e1 : ∀ x : Nat, (acc ++ [x]).getD k' 0 = acc.getD k' 0 := fun x => by
          simp only [List.getD]; rw [List.getElem?_append_left (by omega)]
        rw [e1] at h'
        exact hacc k' i' (by omega) h'

theorem ancs_sound {ops : Array Oper} {j i : Nat} (h : ((ancs ops.toList).getD j 0).testBit i = true) : Reach ops i j :=
  ancsFrom_sound ops.toList [] (fun k o ho => by simpa using ho) (fun k i hk => by simp at hk) j i h

def slotsOk (ops : Array Oper) (as : List Nat) : Bool :=
  ops.toList.zipIdx.all fun (q, j) => ops.toList.zipIdx.all fun (o, i) => !decide (i < j) || o.apart ops q || (as.getD j 0).testBit i

def dstOk (N : Nat) (ops : List Oper) : Bool := ops.all fun o => match o.dst with | some d => decide (d < N) | none => true

theorem mem_zipIdx {α : Type} {l : List α} {i : Nat} {x : α} (h : l[i]? = some x) : (x, i) ∈ l.zipIdx := by
  rw [List.mem_zipIdx_iff_getElem?]; exact h

theorem backOk_spec {ops : Array Oper} (h : backOk ops.toList = true) : ∀ i o, ops[i]? = some o → ∀ e ∈ o.after, Region.binds .any e = true → e.on < i := by
  intro i o ho e he hb
  unfold backOk at h
  rw [List.all_eq_true] at h
  have := h (o, i) (mem_zipIdx (by simpa using ho))
  simp only [List.all_eq_true] at this
  have := this e (by simpa using he)
  rw [hb] at this
  simpa using this

theorem slotsOk_spec {ops : Array Oper} (h : slotsOk ops (ancs ops.toList) = true) : ∀ i j o q, i < j → ops[i]? = some o → ops[j]? = some q → (o.apart ops q = false) → Reach ops i j := by
  intro i j o q hij ho hq ha
  unfold slotsOk at h
  rw [List.all_eq_true] at h
  have := h (q, j) (mem_zipIdx (by simpa using hq))
  simp only [List.all_eq_true] at this
  have := this (o, i) (mem_zipIdx (by simpa using ho))
  simp only [hij, ha] at this
  exact ancs_sound (by simpa using this)

theorem dstOk_spec {N : Nat} {ops : Array Oper} (h : dstOk N ops.toList = true) : ∀ (i : Nat) o, ops[i]? = some o → ∀ d, o.dst = some d → d < N := by
  intro i o ho d hd
  unfold dstOk at h
  rw [List.all_eq_true] at h
  have := h o (List.mem_of_getElem? (i := i) (by simpa using ho))
  rw [hd] at this
  simpa using this

/-! ### equality of abstract values -/

mutual
def AV.beq : AV → AV → Bool
  | .bool a, .bool b => a == b
  | .int k a, .int k' b => decide (k = k') && decide (a = b)
  | .str a, .str b => decide (a = b)
  | .nilptr, .nilptr => true
  | .ptr i o, .ptr i' o' => decide (i = i') && decide (o = o')
  | .vptr a, .vptr b => AV.beqs a b
  | .nilsl, .nilsl => true
  | .sl i o z l c p, .sl i' o' z' l' c' p' => decide (i = i') && decide (o = o') && decide (z = z') && decide (l = l') && decide (c = c') && (p == p')
  | .vsl a l, .vsl b l' => AV.beqs a b && decide (l = l')
  | .nilmap, .nilmap => true
  | .func f a c, .func f' a' c' => decide (f = f') && AV.beqs a a' && AV.beqs c c'
  | .nilfunc, .nilfunc => true
  | .iface t a, .iface t' a' => decide (t = t') && AV.beq a a'
  | .niliface, .niliface => true
  | .agg a, .agg b => AV.beqs a b
  | .tuple a, .tuple b => AV.beqs a b
  | _, _ => false
def AV.beqs : List AV → List AV → Bool
  | [], [] => true
  | a :: as, b :: bs => AV.beq a b && AV.beqs as bs
  | _, _ => false
end

mutual
theorem AV.beq_eq : ∀ (a b : AV), AV.beq a b = true → a = b
  | .bool a, b, h => by cases b <;> simp_all [AV.beq]
  | .int k a, b, h => by cases b <;> simp_all [AV.beq]
  | .str a, b, h => by cases b <;> simp_all [AV.beq]
  | .nilptr, b, h => by cases b <;> simp_all [AV.beq]
  | .ptr i o, b, h => by cases b <;> simp_all [AV.beq]
  | .vptr a, b, h => by
    cases b <;> simp [AV.beq] at h
    rw [AV.beqs_eq _ _ h]
  | .nilsl, b, h => by cases b <;> simp_all [AV.beq]
  | .sl i o z l c p, b, h => by cases b <;> simp_all [AV.beq]
  | .vsl a l, b, h => by
    cases b <;> simp [AV.beq] at h
    rw [AV.beqs_eq _ _ h.1, h.2]
  | .nilmap, b, h => by cases b <;> simp_all [AV.beq]
  | .func f a c, b, h => by
    cases b <;> simp [AV.beq] at h
    rw [h.1.1, AV.beqs_eq _ _ h.1.2, AV.beqs_eq _ _ h.2]
  | .nilfunc, b, h => by cases b <;> simp_all [AV.beq]
  | .iface t a, b, h => by
    cases b <;> simp [AV.beq] at h
    rw [h.1, AV.beq_eq _ _ h.2]
  | .niliface, b, h => by cases b <;> simp_all [AV.beq]
  | .agg a, b, h => by
    cases b <;> simp [AV.beq] at h
    rw [AV.beqs_eq _ _ h]
  | .tuple a, b, h => by
    cases b <;> simp [AV.beq] at h
    rw [AV.beqs_eq _ _ h]
theorem AV.beqs_eq : ∀ (a b : List AV), AV.beqs a b = true → a = b
  | [], b, h => by cases b <;> simp_all [AV.beqs]
  | a :: as, b, h => by
    cases b <;> simp [AV.beqs] at h
    rw [AV.beq_eq _ _ h.1, AV.beqs_eq _ _ h.2]
end

end Go.Abs
