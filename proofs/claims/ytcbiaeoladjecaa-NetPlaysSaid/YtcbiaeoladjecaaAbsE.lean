/-
  A simplified meaning for Go code, fifth part: the operations that look at no memory, together.
-/
import Derived.Test.YtcbiaeoladjecaaAbsD
namespace Go.Abs
open Go

/-- The run of s in whatever world is v, and the world is as it was. -/
def Yields (P : Program) (E : Env) (s : Sem Value) (r : AV) : Prop := ∃ v, VRel E r v ∧ ∀ w, s.run P w = .ok v w

/-! ### binary operators -/

def abin (P : Program) (op : BinOp) (t : TypeId) (x y : Operand) : AV → AV → Option AV
  | .int k a, .int k' b => match op with
    | .shl | .shr => ashift op k a b
    | _ => if k = k' then aint2 op k a b else none
  | .str a, .str b => astr2 op a b
  | a, b => match op with
    | .eql => match a, b with
      | .niliface, .niliface => if Region.isConst x || Region.isConst y then (aeqIn P 10000 t .niliface .niliface).map .bool else none
      | .agg xs, .agg ys => if P.eqGuardType P.depth t then none else (aeqIn P 10000 t (.agg xs) (.agg ys)).map .bool
      | a, b => (aeqIn P 10000 t a b).map .bool
    | .neq => match a, b with
      | .niliface, .niliface => if Region.isConst x || Region.isConst y then (aeqIn P 10000 t .niliface .niliface).map fun r => .bool (!r) else none
      | .agg xs, .agg ys => if P.eqGuardType P.depth t then none else (aeqIn P 10000 t (.agg xs) (.agg ys)).map fun r => .bool (!r)
      | a, b => (aeqIn P 10000 t a b).map fun r => .bool (!r)
    | _ => none

theorem eqGuard_ok {P : Program} (w : World) (op : BinOp) (t : TypeId) (x y : Operand) (u v : Value)
    (h1 : u = .nilIface → v = .nilIface → (Region.isConst x || Region.isConst y) = true) (h2 : ∀ xs ys, u = .agg xs → v = .agg ys → P.eqGuardType P.depth t = false) :
    (eqGuard op t x y u v).run P w = .ok () w := by
  cases u <;> cases v <;> try (cases op <;> rfl)
  · have := h1 rfl rfl
    cases x <;> cases y <;> simp [Region.isConst] at this <;> cases op <;> rfl
  · have := h2 _ _ rfl rfl
    exact run_eqGuard_agg w op t x y _ _ this

theorem binOp_eql_run {P : Program} {w : World} {t : TypeId} {u v : Value} {r : Bool} (h : (Op.equalIn 10000 t u v).run P w = .ok r w)
    (hn : (∀ k a k' b, u = .int k a → v = .int k' b → False) ∧ (∀ a b, u = .string a → v = .string b → False) ∧ (∀ k a k' b, u = .float k a → v = .float k' b → False) ∧ (∀ k a b k' c d, u = .complex k a b → v = .complex k' c d → False)) :
    (binOp .eql t u v).run P w = .ok (.bool r) w ∧ (binOp .neq t u v).run P w = .ok (.bool (!r)) w := by
  obtain ⟨h1, h2, h3, h4⟩ := hn
  have e1 : binOp .eql t u v = (do pure (.bool (← Op.equal t u v))) := by
    cases u <;> cases v <;> first | rfl | exact (h1 _ _ _ _ rfl rfl).elim | exact (h2 _ _ rfl rfl).elim | exact (h3 _ _ _ _ rfl rfl).elim | exact (h4 _ _ _ _ _ _ rfl rfl).elim
  have e2 : binOp .neq t u v = (do pure (.bool (!(← Op.equal t u v)))) := by
    cases u <;> cases v <;> first | rfl | exact (h1 _ _ _ _ rfl rfl).elim | exact (h2 _ _ rfl rfl).elim | exact (h3 _ _ _ _ rfl rfl).elim | exact (h4 _ _ _ _ _ _ rfl rfl).elim
  rw [e1, e2]
  have h' : (Op.equal t u v).run P w = .ok r w := h
  simp [h']

theorem abin_eq {P : Program} {E : Env} {op : BinOp} {t : TypeId} {x y : Operand} {a b : AV} {u v : Value} {r : Bool} {g : Bool → AV}
    (hg : (op = .eql ∧ g = .bool) ∨ (op = .neq ∧ g = fun r => .bool (!r)))
    (h : aeqIn P 10000 t a b = some r) (hu : VRel E a u) (hv : VRel E b v)
    (hi : ∀ k n k' m, a = .int k n → b = .int k' m → False) (hs : ∀ s s', a = .str s → b = .str s' → False)
    (h1 : a = .niliface → b = .niliface → (Region.isConst x || Region.isConst y) = true) (h2 : ∀ xs ys, a = .agg xs → b = .agg ys → P.eqGuardType P.depth t = false) :
    Yields P E (do eqGuard op t x y u v; binOp op t u v) (g r) := by
  have hgd : ∀ w, (eqGuard op t x y u v).run P w = .ok () w := fun w => eqGuard_ok w op t x y u v
    (fun e1 e2 => by subst e1; subst e2; cases hu; cases hv; exact h1 rfl rfl) (fun xs ys e1 e2 => by subst e1; subst e2; cases hu; cases hv; exact h2 _ _ rfl rfl)
  have hn : (∀ k a k' b, u = .int k a → v = .int k' b → False) ∧ (∀ a b, u = .string a → v = .string b → False) ∧ (∀ k a k' b, u = .float k a → v = .float k' b → False) ∧ (∀ k a b k' c d, u = .complex k a b → v = .complex k' c d → False) := by
    refine ⟨?_, ?_, ?_, ?_⟩
    · intro k n k' m e1 e2; subst e1; subst e2; cases hu; cases hv; exact hi _ _ _ _ rfl rfl
    · intro p q e1 e2; subst e1; subst e2; cases hu; cases hv; exact hs _ _ rfl rfl
    · intro k n k' m e1 e2; subst e1; cases hu
    · intro k n n' k' m m' e1 e2; subst e1; cases hu
  have hr := fun w => binOp_eql_run (aeqIn_sound (P := P) (E := E) 10000 t a b u v r h hu hv w) hn
  rcases hg with ⟨rfl, rfl⟩ | ⟨rfl, rfl⟩
  · exact ⟨_, .bool _, fun w => by simp only [Sem.run_bind, hgd, Result.andThen_ok, (hr w).1]⟩
  · exact ⟨_, .bool _, fun w => by simp only [Sem.run_bind, hgd, Result.andThen_ok, (hr w).2]⟩

theorem eqGuard_int (op : BinOp) (t : TypeId) (x y : Operand) (k : IntKind) (n : Int) (v : Value) : eqGuard op t x y (.int k n) v = pure () := by cases op <;> rfl
theorem eqGuard_str (op : BinOp) (t : TypeId) (x y : Operand) (s : ByteArray) (v : Value) : eqGuard op t x y (.string s) v = pure () := by cases op <;> rfl

theorem abin_sound {P : Program} {E : Env} {op : BinOp} {t : TypeId} {x y : Operand} {a b r : AV} {u v : Value} (h : abin P op t x y a b = some r) (hu : VRel E a u) (hv : VRel E b v) :
    Yields P E (do eqGuard op t x y u v; binOp op t u v) r := by
  unfold abin at h
  split at h
  · cases hu; cases hv
    simp only [Yields, eqGuard_int]
    split at h
    · obtain ⟨v, h1, h2⟩ := ashift_sound (P := P) (E := E) t h
      exact ⟨v, h1, fun w => by simpa using h2 w⟩
    · obtain ⟨v, h1, h2⟩ := ashift_sound (P := P) (E := E) t h
      exact ⟨v, h1, fun w => by simpa using h2 w⟩
    · split at h
      · rename_i hk
        subst hk
        obtain ⟨v, h1, h2⟩ := aint2_sound (P := P) (E := E) t h
        exact ⟨v, h1, fun w => by simpa using h2 w⟩
      · simp at h
  · cases hu; cases hv
    simp only [Yields, eqGuard_str]
    obtain ⟨v, h1, h2⟩ := astr2_sound (P := P) (E := E) t h
    exact ⟨v, h1, fun w => by simpa using h2 w⟩
  · rename_i hi hs
    split at h
    · split at h
      · split at h
        · rename_i hc
          simp only [Option.map_eq_some_iff] at h; obtain ⟨q, h1, rfl⟩ := h
          exact abin_eq (g := .bool) (.inl ⟨rfl, rfl⟩) h1 hu hv (fun _ _ _ _ e => by simp at e) (fun _ _ e => by simp at e) (fun _ _ => hc) (fun _ _ e => by simp at e)
        · simp at h
      · split at h
        · simp at h
        · rename_i hc
          simp only [Option.map_eq_some_iff] at h; obtain ⟨q, h1, rfl⟩ := h
          exact abin_eq (g := .bool) (.inl ⟨rfl, rfl⟩) h1 hu hv (fun _ _ _ _ e => by simp at e) (fun _ _ e => by simp at e) (fun e => by simp at e) (fun _ _ _ _ => by simpa using hc)
      · rename_i hn ha
        simp only [Option.map_eq_some_iff] at h; obtain ⟨q, h1, rfl⟩ := h
        exact abin_eq (g := .bool) (.inl ⟨rfl, rfl⟩) h1 hu hv hi hs (fun e e' => (hn e e').elim) (fun xs ys e e' => (ha xs ys e e').elim)
    · split at h
      · split at h
        · rename_i hc
          simp only [Option.map_eq_some_iff] at h; obtain ⟨q, h1, rfl⟩ := h
          exact abin_eq (g := fun r => .bool (!r)) (.inr ⟨rfl, rfl⟩) h1 hu hv (fun _ _ _ _ e => by simp at e) (fun _ _ e => by simp at e) (fun _ _ => hc) (fun _ _ e => by simp at e)
        · simp at h
      · split at h
        · simp at h
        · rename_i hc
          simp only [Option.map_eq_some_iff] at h; obtain ⟨q, h1, rfl⟩ := h
          exact abin_eq (g := fun r => .bool (!r)) (.inr ⟨rfl, rfl⟩) h1 hu hv (fun _ _ _ _ e => by simp at e) (fun _ _ e => by simp at e) (fun e => by simp at e) (fun _ _ _ _ => by simpa using hc)
      · rename_i hn ha
        simp only [Option.map_eq_some_iff] at h; obtain ⟨q, h1, rfl⟩ := h
        exact abin_eq (g := fun r => .bool (!r)) (.inr ⟨rfl, rfl⟩) h1 hu hv hi hs (fun e e' => (hn e e').elim) (fun xs ys e e' => (ha xs ys e e').elim)
    · simp at h

/-! ### unary operators, conversions -/

def aun (op : UnOp) : AV → Option AV
  | .int k n => match op with
    | .neg => some (.int k (k.wrap (0 - n)))
    | .xor => some (.int k (k.wrap ((BitVec.ofInt k.bits (if k.signed then -1 else k.max) ^^^ BitVec.ofInt k.bits n).toNat : Nat)))
    | _ => none
  | .bool b => match op with
    | .not => some (.bool !b)
    | _ => none
  | _ => none

theorem aun_sound {P : Program} {E : Env} {op : UnOp} {a r : AV} {u : Value} (h : aun op a = some r) (hu : VRel E a u) : Yields P E (Op.unary op u) r := by
  unfold aun at h
  split at h <;> first
    | (simp at h; done)
    | (cases hu
       split at h <;> first
         | (simp at h; done)
         | (simp only [Option.some.injEq] at h; subst h
            first
              | exact ⟨_, .int _ _, fun w => rfl⟩
              | exact ⟨_, .bool _, fun w => rfl⟩))

def aconv (P : Program) (s d : TypeId) : AV → Option AV
  | .int _ n => match P.underlying s, P.underlying d with
    | some _, some (.int k) => some (.int k (k.wrap n))
    | _, _ => none
  | .str x => match P.underlying s, P.underlying d with
    | some _, some .string => some (.str x)
    | _, _ => none
  | _ => none

theorem aconv_sound {P : Program} {E : Env} {s d : TypeId} {a r : AV} {u : Value} (h : aconv P s d a = some r) (hu : VRel E a u) : Yields P E (convert s d u) r := by
  unfold aconv at h
  split at h
  · cases hu
    split at h
    · rename_i h1 h2
      simp only [Option.some.injEq] at h; subst h
      refine ⟨_, .int _ _, fun w => ?_⟩
      simp only [convert, Sem.run_bind, run_underlying h1, run_underlying h2, Result.andThen_ok, Conv.intToInt, Sem.run_pure]
    · simp at h
  · cases hu
    split at h
    · rename_i h1 h2
      simp only [Option.some.injEq] at h; subst h
      refine ⟨_, .str _, fun w => ?_⟩
      simp only [convert, Sem.run_bind, run_underlying h1, run_underlying h2, Result.andThen_ok, Sem.run_pure]
    · simp at h
  · simp at h

/-! ### indexes, slices, fields -/

def abound (x : AV) (y : Nat) : Option Nat := match x with
  | .int _ i => if 0 ≤ i ∧ i ≤ y then some i.toNat else none
  | _ => none

theorem abound_sound {P : Program} {E : Env} {x : AV} {y n : Nat} {u : Value} (code : BoundsCode) (h : abound x y = some n) (hu : VRel E x u) : n ≤ y ∧ ∀ (y' : Nat), y ≤ y' → ∀ w, (Instr.sliceBound u y' code).run P w = .ok n w := by
  unfold abound at h
  split at h
  · cases hu
    split at h
    · rename_i hb
      simp only [Option.some.injEq] at h; subst h
      refine ⟨by omega, fun y' hy w => ?_⟩
      simp only [Instr.sliceBound, asIntOf, Sem.run_bind, Sem.run_pure, Result.andThen_ok]
      rw [if_pos (by omega)]; rfl
    · simp at h
  · simp at h

/-- low, high, max; len and the capacity (a lower bound of it serves where no max is given). -/
def abounds (len cap : Nat) (low high max : Option AV) : Option (Nat × Nat × Nat) :=
  match (match max with | some v => abound v cap | none => some cap) with
  | none => none
  | some m => match (match high with | some v => abound v m | none => match max with | some _ => none | none => some len) with
    | none => none
    | some h => match (match low with | some v => abound v h | none => some 0) with
      | none => none
      | some l => some (l, h, m)

inductive ORels (E : Env) : Option AV → Option Value → Prop
  | none : ORels E none none
  | some {a : AV} {v : Value} (h : VRel E a v) : ORels E (some a) (some v)

theorem abounds_sound {P : Program} {E : Env} {len cap c' l h m : Nat} {low high max : Option AV} {ul uh um : Option Value} (isl : Bool) (hc : cap ≤ c') (hlen : len ≤ cap)
    (e : abounds len cap low high max = some (l, h, m)) (h1 : ORels E low ul) (h2 : ORels E high uh) (h3 : ORels E max um) :
    l ≤ h ∧ h ≤ m ∧ m ≤ cap ∧ (max = none → m = cap) ∧ ∀ w, (Instr.sliceBounds isl len c' ul uh um).run P w = .ok (l, h, if max.isNone then c' else m) w := by
  unfold abounds at e
  cases h3 with
  | none =>
    simp only at e
    cases h2 with
    | none =>
      simp only at e
      cases h1 with
      | none =>
        simp only [Option.some.injEq, Prod.mk.injEq] at e; obtain ⟨rfl, rfl, rfl⟩ := e
        refine ⟨by omega, by omega, by omega, fun _ => rfl, fun w => ?_⟩
        simp [Instr.sliceBounds]
      | some hl =>
        simp only at e
        split at e
        · simp at e
        · rename_i l' hl'
          simp only [Option.some.injEq, Prod.mk.injEq] at e; obtain ⟨rfl, rfl, rfl⟩ := e
          have g := abound_sound (P := P) .sliceB hl' hl
          refine ⟨g.1, by omega, by omega, fun _ => rfl, fun w => ?_⟩
          have g2 := g.2 _ (Nat.le_refl _) w
          simp [Instr.sliceBounds, g2]
    | some hh =>
      simp only at e
      split at e
      · simp at e
      · rename_i h' hh'
        have gh := abound_sound (P := P) (if isl then .sliceAcap else .sliceAlen) hh' hh
        cases h1 with
        | none =>
          simp only [Option.some.injEq, Prod.mk.injEq] at e; obtain ⟨rfl, rfl, rfl⟩ := e
          refine ⟨by omega, gh.1, by omega, fun _ => rfl, fun w => ?_⟩
          have g2 := gh.2 _ hc w
          simp [Instr.sliceBounds, g2]
        | some hl =>
          simp only at e
          split at e
          · simp at e
          · rename_i l' hl'
            simp only [Option.some.injEq, Prod.mk.injEq] at e; obtain ⟨rfl, rfl, rfl⟩ := e
            have g := abound_sound (P := P) .sliceB hl' hl
            refine ⟨g.1, gh.1, by omega, fun _ => rfl, fun w => ?_⟩
            have g2 := gh.2 _ hc w
            have g3 := g.2 _ (Nat.le_refl _) w
            simp [Instr.sliceBounds, g2, g3]
  | some hm =>
    simp only at e
    split at e
    · simp at e
    · rename_i m' hm'
      have gm := abound_sound (P := P) (if isl then .slice3Acap else .slice3Alen) hm' hm
      cases h2 with
      | none => simp at e
      | some hh =>
        simp only at e
        split at e
        · simp at e
        · rename_i h' hh'
          have gh := abound_sound (P := P) .slice3B hh' hh
          cases h1 with
          | none =>
            simp only [Option.some.injEq, Prod.mk.injEq] at e; obtain ⟨rfl, rfl, rfl⟩ := e
            refine ⟨by omega, gh.1, gm.1, fun e => by simp at e, fun w => ?_⟩
            have g1 := gm.2 _ hc w
            have g2 := gh.2 _ (Nat.le_refl _) w
            simp [Instr.sliceBounds, g1, g2]
          | some hl =>
            simp only at e
            split at e
            · simp at e
            · rename_i l' hl'
              simp only [Option.some.injEq, Prod.mk.injEq] at e; obtain ⟨rfl, rfl, rfl⟩ := e
              have g := abound_sound (P := P) .slice3C hl' hl
              refine ⟨g.1, gh.1, gm.1, fun e => by simp at e, fun w => ?_⟩
              have g1 := gm.2 _ hc w
              have g2 := gh.2 _ (Nat.le_refl _) w
              have g3 := g.2 _ (Nat.le_refl _) w
              simp [Instr.sliceBounds, g1, g2, g3]

end Go.Abs
