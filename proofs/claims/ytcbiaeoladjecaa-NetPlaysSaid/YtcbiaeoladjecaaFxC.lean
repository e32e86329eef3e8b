/-
  A quick evaluator for closed calls, third part: operands; operations that look at no memory.
-/
import Derived.Test.YtcbiaeoladjecaaFxB
namespace Go.Abs
open Go

/-! ### operands -/

inductive FX where
  | loc (p q : P32)
  | con (v : AV)
noncomputable def FX.get (x : FX) (T : ET) : AV := FX.rec (motive := fun _ => ET → AV) (fun p q T => q.get (p.get T)) (fun v _ => v) x T
def fx (G : Nat → Option AV) : Operand → Option FX
  | .tmp t => if t < 1024 then some (.loc (P32.of (t / 32)) (P32.of (t % 32))) else none
  | .const v => (ofConst v).map .con
  | .global g => (G g).map .con
  | .func f => some (.con (.func (.func f) [] []))
theorem fx_eq {G : Nat → Option AV} {T : ET} {x : Operand} {y : FX} (h : fx G x = some y) : aval G T.fn x = some (y.get T) := by
  cases x with
  | tmp t =>
    simp only [fx] at h
    split at h <;> try (simp at h; done)
    rename_i ht
    simp only [Option.some.injEq] at h; subst h
    simp only [aval, ET.fn, if_pos ht, FX.get]
  | const v =>
    simp only [fx, Option.map_eq_some_iff] at h
    obtain ⟨a, h1, rfl⟩ := h
    simp [aval, h1, FX.get]
  | global g =>
    simp only [fx, Option.map_eq_some_iff] at h
    obtain ⟨a, h1, rfl⟩ := h
    simp [aval, h1, FX.get]
  | func f =>
    simp only [fx, Option.some.injEq] at h; subst h
    simp [aval, FX.get]
def fxs (G : Nat → Option AV) : List Operand → Option (List FX)
  | [] => some []
  | x :: r => match fx G x, fxs G r with
    | some y, some s => some (y :: s)
    | _, _ => none
theorem fxs_eq {G : Nat → Option AV} {T : ET} : ∀ {xs : List Operand} {ys : List FX}, fxs G xs = some ys → avals (aval G T.fn) xs = some (ys.map (·.get T))
  | [], ys, h => by simp [fxs] at h; subst h; rfl
  | x :: r, ys, h => by
    simp only [fxs] at h
    split at h <;> try (simp at h; done)
    rename_i y s h1 h2
    simp only [Option.some.injEq] at h; subst h
    simp [avals, fx_eq h1, fxs_eq h2]
noncomputable def fxsK {R : Type} (xs : List FX) (T : ET) (k : List AV → R) : R := List.rec (motive := fun _ => (List AV → R) → R) (fun k => k []) (fun x _ ih k => ih fun r => (x.get T).force fun a => k (a :: r)) xs k
theorem fxsK_eq {R : Type} (T : ET) : ∀ (xs : List FX) (k : List AV → R), fxsK xs T k = k (xs.map (·.get T))
  | [], k => rfl
  | x :: xs, k => by
    have e : fxsK (x :: xs) T k = fxsK xs T fun r => (x.get T).force fun a => k (a :: r) := rfl
    rw [e, fxsK_eq T xs]; simp

/-! ### whole numbers -/

noncomputable def kindB (a b : IntKind) : Bool :=
  IntKind.rec (motive := fun _ => IntKind → Bool)
    (fun b => IntKind.rec (motive := fun _ => Bool) true false false false false false false false b)
    (fun b => IntKind.rec (motive := fun _ => Bool) false true false false false false false false b)
    (fun b => IntKind.rec (motive := fun _ => Bool) false false true false false false false false b)
    (fun b => IntKind.rec (motive := fun _ => Bool) false false false true false false false false b)
    (fun b => IntKind.rec (motive := fun _ => Bool) false false false false true false false false b)
    (fun b => IntKind.rec (motive := fun _ => Bool) false false false false false true false false b)
    (fun b => IntKind.rec (motive := fun _ => Bool) false false false false false false true false b)
    (fun b => IntKind.rec (motive := fun _ => Bool) false false false false false false false true b) a b
theorem kindB_eq {a b : IntKind} : kindB a b = true ↔ a = b := by cases a <;> cases b <;> simp [kindB]

/-- The greatest number of a signed kind; of an unsigned one how many there are. -/
noncomputable def fwrap (k : IntKind) (n : Int) : Int :=
  Int.rec (motive := fun _ => Int)
    (fun m => IntKind.rec (motive := fun _ => Int)
      (ifK (Nat.ble m 127) (.ofNat m) (IntKind.i8.wrap (.ofNat m))) (ifK (Nat.ble m 32767) (.ofNat m) (IntKind.i16.wrap (.ofNat m)))
      (ifK (Nat.ble m 2147483647) (.ofNat m) (IntKind.i32.wrap (.ofNat m))) (ifK (Nat.ble m 9223372036854775807) (.ofNat m) (IntKind.i64.wrap (.ofNat m)))
      (.ofNat (Nat.mod m 256)) (.ofNat (Nat.mod m 65536)) (.ofNat (Nat.mod m 4294967296)) (.ofNat (Nat.mod m 18446744073709551616)) k)
    (fun m => k.wrap (.negSucc m)) n
theorem fwrap_eq (k : IntKind) (n : Int) : fwrap k n = k.wrap n := by
  cases n with
  | negSucc m => rfl
  | ofNat m =>
    have sg : ∀ (k : IntKind) (l : Nat), k.signed = true → (2 : Int) ^ (k.bits - 1) = l + 1 → (2 : Int) ^ k.bits = 2 * (l + 1) → ifK (Nat.ble m l) (Int.ofNat m) (k.wrap (.ofNat m)) = k.wrap (.ofNat m) := by
      intro k l hs h1 h2
      by_cases h : m ≤ l
      · have hb : Nat.ble m l = true := Nat.ble_eq_true_of_le h
        rw [hb, ifK_true]
        unfold IntKind.wrap
        simp only [hs, h1, h2, Bool.true_and]
        have e : (Int.ofNat m) % (2 * ((l : Int) + 1)) = m := Int.emod_eq_of_lt (by simp) (by simp; omega)
        rw [e]
        have : ¬ ((m : Int) ≥ (l : Int) + 1) := by omega
        simp [this]
      · have hb : Nat.ble m l = false := by
          cases hh : Nat.ble m l
          · rfl
          · exact absurd (Nat.le_of_ble_eq_true hh) h
        rw [hb, ifK_false]
    cases k
    · exact sg .i8 127 rfl (by decide) (by decide)
    · exact sg .i16 32767 rfl (by decide) (by decide)
    · exact sg .i32 2147483647 rfl (by decide) (by decide)
    · exact sg .i64 9223372036854775807 rfl (by decide) (by decide)
    all_goals rfl

noncomputable def iadd (a b : Int) : Int := Int.rec (motive := fun _ => Int) (fun m => Int.rec (motive := fun _ => Int) (fun n => .ofNat (Nat.add m n)) (fun n => Int.add (.ofNat m) (.negSucc n)) b) (fun m => Int.add (.negSucc m) b) a
theorem iadd_eq (a b : Int) : iadd a b = a + b := by cases a <;> cases b <;> rfl
noncomputable def isub (a b : Int) : Int := Int.rec (motive := fun _ => Int) (fun m => Int.rec (motive := fun _ => Int) (fun n => ifK (Nat.ble n m) (.ofNat (Nat.sub m n)) (.negSucc (Nat.sub (Nat.sub n m) 1))) (fun n => Int.sub (.ofNat m) (.negSucc n)) b) (fun m => Int.sub (.negSucc m) b) a
theorem isub_eq (a b : Int) : isub a b = a - b := by
  cases a with
  | negSucc m => rfl
  | ofNat m => cases b with
    | negSucc n => rfl
    | ofNat n =>
      show ifK (Nat.ble n m) (Int.ofNat (m - n)) (.negSucc (n - m - 1)) = Int.ofNat m - Int.ofNat n
      by_cases h : n ≤ m
      · rw [show Nat.ble n m = true from Nat.ble_eq_true_of_le h, ifK_true]
        simp; omega
      · have hb : Nat.ble n m = false := by
          cases hh : Nat.ble n m
          · rfl
          · exact absurd (Nat.le_of_ble_eq_true hh) h
        rw [hb, ifK_false]
        simp [Int.negSucc_eq]; omega
noncomputable def ieq (a b : Int) : Bool := Int.rec (motive := fun _ => Bool) (fun m => Int.rec (motive := fun _ => Bool) (fun n => Nat.beq m n) (fun _ => false) b) (fun m => Int.rec (motive := fun _ => Bool) (fun _ => false) (fun n => Nat.beq m n) b) a
theorem ieq_eq (a b : Int) : ieq a b = (a == b) := by
  rw [Bool.eq_iff_iff, beq_iff_eq]
  cases a <;> cases b <;> simp [ieq] <;> omega
noncomputable def ile (a b : Int) : Bool := Int.rec (motive := fun _ => Bool) (fun m => Int.rec (motive := fun _ => Bool) (fun n => Nat.ble m n) (fun _ => false) b) (fun m => Int.rec (motive := fun _ => Bool) (fun _ => true) (fun n => Nat.ble n m) b) a
theorem ile_eq (a b : Int) : ile a b = decide (a ≤ b) := by
  rw [Bool.eq_iff_iff, decide_eq_true_eq]
  cases a with
  | ofNat m => cases b with
    | ofNat n => simp [ile]
    | negSucc n => simp [ile, Int.negSucc_eq]; omega
  | negSucc m => cases b with
    | ofNat n => simp [ile, Int.negSucc_eq]; omega
    | negSucc n => simp [ile, Int.negSucc_eq]
noncomputable def notK (b : Bool) : Bool := Bool.rec (motive := fun _ => Bool) true false b
theorem notK_eq (b : Bool) : notK b = !b := by cases b <;> rfl
theorem ilt_eq (a b : Int) : notK (ile b a) = decide (a < b) := by
  rw [notK_eq, ile_eq, Bool.eq_iff_iff]
  simp

noncomputable def fint (op : BinOp) (kd : IntKind) (m n : Int) (k : AV → Bool) (z : Bool) : Bool :=
  match op with
  | .add => k (.int kd (fwrap kd (iadd m n)))
  | .sub => k (.int kd (fwrap kd (isub m n)))
  | .eql => k (.bool (ieq m n))
  | .neq => k (.bool (notK (ieq m n)))
  | .lss => k (.bool (notK (ile n m)))
  | .leq => k (.bool (ile m n))
  | .gtr => k (.bool (notK (ile m n)))
  | .geq => k (.bool (ile n m))
  | _ => z
theorem fint_inv {op : BinOp} {kd : IntKind} {m n : Int} {k : AV → Bool} {z : Bool} (h : fint op kd m n k z = true) : (∃ v, aint2 op kd m n = some v ∧ op ≠ .shl ∧ op ≠ .shr ∧ k v = true) ∨ z = true := by
  cases op
  case add => exact .inl ⟨_, rfl, by simp, by simp, by simpa [fint, fwrap_eq, iadd_eq] using h⟩
  case sub => exact .inl ⟨_, rfl, by simp, by simp, by simpa [fint, fwrap_eq, isub_eq] using h⟩
  case eql => exact .inl ⟨_, rfl, by simp, by simp, by simpa [fint, ieq_eq] using h⟩
  case neq => exact .inl ⟨_, rfl, by simp, by simp, by simpa [fint, ieq_eq, notK_eq, bne] using h⟩
  case lss => exact .inl ⟨_, rfl, by simp, by simp, by simpa only [fint, ilt_eq] using h⟩
  case leq => exact .inl ⟨_, rfl, by simp, by simp, by simpa only [fint, ile_eq] using h⟩
  case gtr => exact .inl ⟨_, rfl, by simp, by simp, by simpa only [fint, ilt_eq] using h⟩
  case geq => exact .inl ⟨_, rfl, by simp, by simp, by simpa only [fint, ile_eq] using h⟩
  all_goals exact .inr h

/-! ### bytes -/

noncomputable def byteB (a b : UInt8) : Bool := Nat.beq a.toNat b.toNat
theorem byteB_eq (a b : UInt8) : byteB a b = (a == b) := by
  rw [Bool.eq_iff_iff, beq_iff_eq]
  unfold byteB
  rw [Nat.beq_eq]
  exact UInt8.toNat_inj
noncomputable def bytesB (a : List UInt8) : List UInt8 → Bool :=
  List.rec (motive := fun _ => List UInt8 → Bool) (fun b => List.rec (motive := fun _ => Bool) true (fun _ _ _ => false) b)
    (fun x _ ih b => List.rec (motive := fun _ => Bool) false (fun y b _ => ifK (byteB x y) (ih b) false) b) a
theorem bytesB_eq : ∀ a b : List UInt8, bytesB a b = (a == b)
  | [], [] => rfl
  | [], y :: b => rfl
  | x :: a, [] => rfl
  | x :: a, y :: b => by
    have e : bytesB (x :: a) (y :: b) = ifK (byteB x y) (bytesB a b) false := rfl
    rw [e, byteB_eq, bytesB_eq a b]
    show _ = (x == y && a == b)
    cases x == y <;> rfl

/-- Thirty-two steps on. -/
noncomputable def drop32 (s : List UInt8) : List UInt8 := Nat.rec (motive := fun _ => List UInt8 → List UInt8) (fun s => s) (fun _ ih s => List.rec (motive := fun _ => List UInt8) [] (fun _ s _ => ih s) s) 32 s
noncomputable def blk (m : Nat) (s : List UInt8) : List UInt8 := Nat.rec (motive := fun _ => List UInt8) s (fun _ r => drop32 r) m
theorem dropN_eq : ∀ (n : Nat) (s : List UInt8), Nat.rec (motive := fun _ => List UInt8 → List UInt8) (fun s => s) (fun _ ih s => List.rec (motive := fun _ => List UInt8) [] (fun _ s _ => ih s) s) n s = s.drop n
  | 0, s => rfl
  | n + 1, [] => rfl
  | n + 1, a :: s => by simpa using dropN_eq n s
theorem blk_eq : ∀ (m : Nat) (s : List UInt8), blk m s = s.drop (32 * m)
  | 0, s => by show s = _; simp
  | m + 1, s => by
    have e : blk (m + 1) s = drop32 (blk m s) := rfl
    rw [e, blk_eq m s]
    unfold drop32
    rw [dropN_eq, List.drop_drop]
    congr 1
noncomputable def byteK {R : Type} (s : List UInt8) (i : Nat) (k : UInt8 → R) (z : R) : R := nthK (blk (Nat.div i 32) s) (Nat.mod i 32) k z
theorem byteK_eq {R : Type} (s : List UInt8) (i : Nat) (k : UInt8 → R) (z : R) : byteK s i k z = match s[i]? with | some a => k a | none => z := by
  unfold byteK
  rw [nthK_eq, blk_eq, List.getElem?_drop]
  have : 32 * (Nat.div i 32) + Nat.mod i 32 = i := Nat.div_add_mod i 32
  rw [this]
  cases s[i]? <;> rfl

noncomputable def fstr (op : BinOp) (s t : List UInt8) (k : AV → Bool) (z : Bool) : Bool :=
  match op with
  | .eql => k (.bool (bytesB s t))
  | .neq => k (.bool (notK (bytesB s t)))
  | .add => ifK (Nat.ble (Nat.add (lenN s) (lenN t)) 9223372036854775807) (appK s t fun r => k (.str r)) false
  | _ => z
theorem fstr_inv {op : BinOp} {s t : List UInt8} {k : AV → Bool} {z : Bool} (h : fstr op s t k z = true) : (∃ v, astr2 op s t = some v ∧ k v = true) ∨ z = true := by
  cases op
  case eql => exact .inl ⟨_, rfl, by simpa [fstr, bytesB_eq] using h⟩
  case neq => exact .inl ⟨_, rfl, by simpa [fstr, bytesB_eq, notK_eq] using h⟩
  case add =>
    obtain ⟨h1, h⟩ := ifK_inv h
    have h1 : lenN s + lenN t ≤ 9223372036854775807 := Nat.le_of_ble_eq_true h1
    rw [lenN_eq, lenN_eq] at h1
    rw [appK_eq] at h
    exact .inl ⟨_, by simp only [astr2, if_pos h1], h⟩
  all_goals exact .inr h

/-! ### operations that look at no memory -/

inductive FP where
  | mov (x : FX)
  | pick (c a b : FX)
  | nilc (x : FX)
  | bin (op : BinOp) (x y : FX)
  | nt (x : FX)
  | conv (k : IntKind) (x : FX)
  | fldA (off : Nat) (x : FX)
  | fldS (off : Nat) (x : FX)
  | fldG (off n : Nat) (x : FX)
  | ixS (z : Nat) (x i : FX)
  | ixR (len z : Nat) (x i : FX)
  | ixT (x i : FX)
  | ext (n : Nat) (x : FX)
  | lenS (x : FX)
  | lenT (x : FX)
  | gen

noncomputable def onNat (n : Int) (k : Nat → Bool) : Bool := Int.rec (motive := fun _ => Bool) k (fun _ => false) n
theorem onNat_inv {n : Int} {k : Nat → Bool} (h : onNat n k = true) : ∃ m : Nat, n = m ∧ k m = true := by
  cases n with
  | ofNat m => exact ⟨m, rfl, h⟩
  | negSucc m => simp [onNat] at h

noncomputable def optK {α : Type} (x : Option α) (k : α → Bool) : Bool := Option.rec (motive := fun _ => Bool) false k x
theorem optK_inv {α : Type} {x : Option α} {k : α → Bool} (h : optK x k = true) : ∃ a, x = some a ∧ k a = true := by
  cases x with
  | none => simp [optK] at h
  | some a => exact ⟨a, rfl, h⟩

/-- The general road. -/
noncomputable def genP (P : Program) (G : Nat → Option AV) (o : Oper) (T : ET) (k : AV → Bool) : Bool := optK (apure P (aval G T.fn) o) k

noncomputable def FP.run (P : Program) (G : Nat → Option AV) (o : Oper) (f : FP) (T : ET) (k : AV → Bool) : Bool :=
  FP.rec (motive := fun _ => ET → (AV → Bool) → Bool)
    (fun x T k => k (x.get T))
    (fun c a b T k => (c.get T).onBool false fun t => ifK t (k (a.get T)) (k (b.get T)))
    (fun x T k => AV.rec (motive_1 := fun _ => Bool) (motive_2 := fun _ => Unit) (fun _ => false) (fun _ _ => false) (fun _ => false) false (fun i o => k (.ptr i o)) (fun cs _ => k (.vptr cs)) false (fun _ _ _ _ _ _ => false) (fun _ _ _ => false) false
      (fun _ _ _ _ _ => genP P G o T k) false (fun _ _ _ => false) false (fun _ _ => false) (fun _ _ => false) () (fun _ _ _ _ => ()) (x.get T))
    (fun op x y T k => (x.get T).onInt ((x.get T).onStr (genP P G o T k) fun s => (y.get T).onStr (genP P G o T k) fun t => fstr op s t k (genP P G o T k))
      fun kd m => (y.get T).onInt (genP P G o T k) fun kd' n => ifK (kindB kd kd') (fint op kd m n k (genP P G o T k)) (genP P G o T k))
    (fun x T k => (x.get T).onBool false fun b => k (.bool (notK b)))
    (fun kd x T k => (x.get T).onInt (genP P G o T k) fun _ n => k (.int kd (fwrap kd n)))
    (fun off x T k => (x.get T).onPtr false (fun i o => k (.ptr i (Nat.add o off))) (fun cs => k (.vptr (cs.drop off))))
    (fun off x T k => (x.get T).onAgg false fun cs => nthK cs off k false)
    (fun off n x T k => (x.get T).onAgg false fun cs => k (.agg ((cs.drop off).take n)))
    (fun z x i T k => (i.get T).onInt false fun _ n => onNat n fun m => (x.get T).onSl false false (fun i o z' len _ _ => ifK (Nat.blt m len) (ifK (Nat.beq z z') (k (.ptr i (Nat.add o (Nat.mul m z)))) false) false) (fun cs len => ifK (Nat.blt m len) (k (.vptr (cs.drop (Nat.mul m z)))) false))
    (fun len z x i T k => (i.get T).onInt false fun _ n => onNat n fun m => ifK (Nat.blt m len) ((x.get T).onPtr false (fun i o => k (.ptr i (Nat.add o (Nat.mul m z)))) (fun cs => k (.vptr (cs.drop (Nat.mul m z))))) false)
    (fun x i T k => (i.get T).onInt false fun _ n => onNat n fun m => (x.get T).onStr false fun s => byteK s m (fun b => k (.int .u8 (.ofNat b.toNat))) false)
    (fun n x T k => (x.get T).onTuple false fun vs => nthK vs n k false)
    (fun x T k => (x.get T).onSl false (k (.int .i64 (.ofNat 0))) (fun _ _ _ len _ _ => k (.int .i64 (.ofNat len))) (fun _ len => k (.int .i64 (.ofNat len))))
    (fun x T k => (x.get T).onStr false fun s => k (.int .i64 (.ofNat (lenN s))))
    (fun T k => genP P G o T k) f T k

def fx1 (G : Nat → Option AV) (x : Operand) (f : FX → FP) : FP := match fx G x with
  | some y => f y
  | none => .gen
def fx2 (G : Nat → Option AV) (x y : Operand) (f : FX → FX → FP) : FP := match fx G x, fx G y with
  | some a, some b => f a b
  | _, _ => .gen

/-- An operation that looks at no memory, made ready. -/
def fpure (P : Program) (G : Nat → Option AV) (o : Oper) : FP := match o.op with
  | .move x | .assign x => fx1 G x .mov
  | .pick c a b => match fx G c, fx G a, fx G b with
    | some c, some a, some b => .pick c a b
    | _, _, _ => .gen
  | .nilCheck x => fx1 G x .nilc
  | .binOp op _ x y _ => fx2 G x y (.bin op)
  | .unOp .not _ x => fx1 G x .nt
  | .convert s d x => match P.underlying s, P.underlying d with
    | some _, some (.int k) => fx1 G x (.conv k)
    | _, _ => .gen
  | .fieldAddr t x f => match P.underlying t with
    | some (.struct fs) => match fs[f]? with
      | some fd => match asize P fd.type with
        | some (_ + 1) => fx1 G x (.fldA fd.offset)
        | _ => .gen
      | none => .gen
    | _ => .gen
  | .field t x f => match P.underlying t with
    | some (.struct fs) => match fs[f]? with
      | some fd => match aagg P fd.type, asize P fd.type with
        | some true, some n => fx1 G x (.fldG fd.offset n)
        | some false, some _ => fx1 G x (.fldS fd.offset)
        | _, _ => .gen
      | none => .gen
    | _ => .gen
  | .indexAddr t x i => match P.underlying t with
    | some (.slice e) => match asize P e with
      | some z => fx2 G x i (.ixS z)
      | none => .gen
    | some (.array len e) => match asize P e with
      | some z => fx2 G x i (.ixR len z)
      | none => .gen
    | _ => .gen
  | .index t x i => match P.underlying t with
    | some .string => fx2 G x i .ixT
    | _ => .gen
  | .extract x n => fx1 G x (.ext n)
  | .call c => match c.callee, c.args.toList, c.argTypes with
    | .builtin .len, [x], ⟨[t]⟩ => match P.underlying t with
      | some .string => fx1 G x .lenT
      | some (.slice _) => fx1 G x .lenS
      | _ => .gen
    | _, _, _ => .gen
  | _ => .gen

section
variable {P : Program} {G : Nat → Option AV} {o : Oper} {T : ET} {k : AV → Bool}

def GoodP (P : Program) (G : Nat → Option AV) (o : Oper) (T : ET) (k : AV → Bool) : Prop := ∃ v, apure P (aval G T.fn) o = some v ∧ k v = true
theorem genP_inv (h : genP P G o T k = true) : GoodP P G o T k := optK_inv h

theorem fx1_good {x : Operand} {f : FX → FP} (h : ∀ y, aval G T.fn x = some (y.get T) → (f y).run P G o T k = true → GoodP P G o T k) (hr : (fx1 G x f).run P G o T k = true) : GoodP P G o T k := by
  unfold fx1 at hr
  split at hr
  · rename_i y hy; exact h y (fx_eq hy) hr
  · exact genP_inv hr
theorem fx2_good {x y : Operand} {f : FX → FX → FP} (h : ∀ a b, aval G T.fn x = some (a.get T) → aval G T.fn y = some (b.get T) → (f a b).run P G o T k = true → GoodP P G o T k) (hr : (fx2 G x y f).run P G o T k = true) : GoodP P G o T k := by
  unfold fx2 at hr
  split at hr
  · rename_i a b ha hb; exact h a b (fx_eq ha) (fx_eq hb) hr
  · exact genP_inv hr
end
end Go.Abs
