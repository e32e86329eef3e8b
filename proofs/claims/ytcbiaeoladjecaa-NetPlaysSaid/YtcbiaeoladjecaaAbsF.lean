/-
  A simplified meaning for Go code, sixth part: slices, fields, indexes, literals; all that looks at no memory.
-/
import Derived.Test.YtcbiaeoladjecaaAbsE
namespace Go.Abs
open Go

def aslice (P : Program) (t : TypeId) (x : AV) (low high max : Option AV) : Option AV :=
  match P.underlying t, x with
  | some .string, .str s => match max with
    | some _ => none
    | none => match abounds s.length s.length low high none with
      | some (l, h, _) => some (.str ((s.drop l).take (h - l)))
      | none => none
  | some (.slice e), .nilsl => match asize P e, abounds 0 0 low high max with
    | some _, some (_, _, _) => some .nilsl
    | _, _ => none
  | some (.slice e), .sl i o z len cap opn => match asize P e, abounds len cap low high max with
    | some n, some (l, h, m) =>
      if n = z then
        if l < m then some (.sl i (o + l * z) z (h - l) (m - l) (opn && max.isNone))
        else if opn && max.isNone then some (.vsl [] 0)
        else some (.sl i o z (h - l) (m - l) false)
      else none
    | _, _ => none
  | some (.slice e), .vsl cs len => match asize P e, abounds len len low high max with
    | some n, some (l, h, m) => if l < m then some (.vsl (cs.drop (l * n)) (h - l)) else some (.vsl [] 0)
    | _, _ => none
  | _, _ => none

theorem InK.drop {E : Env} {B o : Nat} {vs : List Value} (h : InK E B o vs) (n : Nat) : InK E B (o + n) (vs.drop n) := by
  rcases h with h | ⟨c, e, f, h1, h2⟩
  · subst h; exact .inl (by simp)
  · refine .inr ⟨c, e, f, h1, ?_⟩
    have := prefix_take_drop h2 n
    rwa [List.drop_drop] at this

theorem InK.nil {E : Env} {B o : Nat} : InK E B o [] := .inl rfl

theorem aslice_sound {P : Program} {E : Env} {t : TypeId} {x r : AV} {low high max : Option AV} {u : Value} {ul uh um : Option Value}
    (h : aslice P t x low high max = some r) (hx : VRel E x u) (h1 : ORels E low ul) (h2 : ORels E high uh) (h3 : ORels E max um) : Yields P E (Instr.slice t u ul uh um) r := by
  unfold aslice at h
  split at h
  · rename_i s ht
    cases hx
    split at h
    · simp at h
    · cases h3
      split at h
      · rename_i l hh m hb
        simp only [Option.some.injEq] at h; subst h
        obtain ⟨g1, g2, g3, g4, g5⟩ := abounds_sound (P := P) false (Nat.le_refl _) (Nat.le_refl _) hb h1 h2 .none
        refine ⟨.string ⟨((s.drop l).take (hh - l)).toArray⟩, .str _, fun w => ?_⟩
        have hs : (ByteArray.mk s.toArray).size = s.length := by simp [ByteArray.size]
        simp only [Instr.slice, Sem.run_bind, run_underlying ht, Result.andThen_ok, Option.isSome_none, Bool.false_eq_true, if_false, Sem.run_pure, hs, g5, ByteArray.extract_mk]
      · simp at h
  · rename_i e ht
    cases hx
    split at h
    · rename_i n l hh m hn hb
      simp only [Option.some.injEq] at h; subst h
      obtain ⟨g1, g2, g3, g4, g5⟩ := abounds_sound (P := P) true (Nat.le_refl _) (Nat.le_refl _) hb h1 h2 h3
      have hl0 : l = 0 := by omega
      have hh0 : hh = 0 := by omega
      have hm0 : m = 0 := by omega
      subst hl0; subst hh0; subst hm0
      refine ⟨.slice none 0 0, .nilsl, fun w => ?_⟩
      simp only [Instr.slice, Sem.run_bind, run_underlying ht, Result.andThen_ok, g5, run_asize hn, Sem.run_pure]
      cases max <;> rfl
    · simp at h
  · rename_i e i o z len cap opn ht
    cases hx with
    | sl hp hlen hcap hopn hroom =>
      rename_i c' p
      split at h
      · rename_i n l hh m hn hb
        split at h
        · rename_i hz
          subst hz
          obtain ⟨g1, g2, g3, g4, g5⟩ := abounds_sound (P := P) true hcap hlen hb h1 h2 h3
          -- the end that the run comes to
          have key : ∀ w, (Instr.slice t (.slice (some ⟨p.b, p.s + o, none⟩) len c') ul uh um).run P w =
              .ok (.slice (if (if max.isNone then c' else m) = l then some ⟨p.b, p.s + o, none⟩ else some ⟨p.b, p.s + o + l * n, none⟩) (hh - l) ((if max.isNone then c' else m) - l)) w := fun w => by
            simp only [Instr.slice, Sem.run_bind, run_underlying ht, Result.andThen_ok, g5, run_asize hn, Sem.run_pure, Option.map_some, Addr.add_mk]
          split at h
          · rename_i hlm
            simp only [Option.some.injEq] at h; subst h
            have hne : ¬ ((if max.isNone then c' else m) = l) := by
              split
              · rename_i hmn; have := g4 (by simpa using hmn); omega
              · omega
            refine ⟨_, ?_, fun w => (key w).trans (by rw [if_neg hne])⟩
            have hml : (if max.isNone then c' else m) ≤ c' := by split <;> omega
            have hmm : m ≤ (if max.isNone then c' else m) := by split <;> omega
            have e1 : p.s + o + l * n = p.s + (o + l * n) := by omega
            rw [e1]
            refine .sl hp (by omega) (by omega) ?_ ?_
            · intro ho
              simp only [Bool.and_eq_false_iff] at ho
              rcases ho with ho | ho
              · have := hopn ho
                cases max with
                | none => have := g4 rfl; simp; omega
                | some _ => simp
              · cases max with
                | none => simp at ho
                | some _ => simp
            · have hk : (if max.isNone then c' else m) = l + ((if max.isNone then c' else m) - l) := by omega
              have h5 : (l + ((if max.isNone then c' else m) - l)) * n ≤ c' * n := Nat.mul_le_mul_right _ (by omega)
              rw [Nat.add_mul] at h5
              omega
          · rename_i hlm
            have hhl : hh = l := by omega
            have hml : m = l := by omega
            subst hhl; subst hml
            split at h
            · simp only [Option.some.injEq] at h; subst h
              rw [Nat.sub_self] at key
              by_cases hq : (if max.isNone then c' else m) = m
              · rw [if_pos hq] at key
                exact ⟨_, .vsl InK.nil .nil (Nat.zero_le _), key⟩
              · rw [if_neg hq] at key
                exact ⟨_, .vsl InK.nil .nil (Nat.zero_le _), key⟩
            · rename_i hop
              simp only [Option.some.injEq] at h; subst h
              have hq : (if max.isNone then c' else m) = m := by
                cases max with
                | none =>
                  simp at hop
                  have := hopn hop
                  have := g4 rfl
                  simp; omega
                | some _ => simp
              rw [if_pos hq, hq, Nat.sub_self] at key
              refine ⟨.slice (some ⟨p.b, p.s + o, none⟩) 0 0, ?_, key⟩
              rw [Nat.sub_self]
              exact .sl hp (Nat.le_refl _) (Nat.le_refl _) (fun _ => rfl) (by omega)
        · simp at h
      · simp at h
  · rename_i e cs len ht
    cases hx with
    | vsl hK hv hl =>
      rename_i B o c' vs
      split at h
      · rename_i n l hh m hn hb
        obtain ⟨g1, g2, g3, g4, g5⟩ := abounds_sound (P := P) true hl (Nat.le_refl _) hb h1 h2 h3
        have key : ∀ w, (Instr.slice t (.slice (some ⟨B, o, none⟩) len c') ul uh um).run P w =
            .ok (.slice (if (if max.isNone then c' else m) = l then some ⟨B, o, none⟩ else some ⟨B, o + l * n, none⟩) (hh - l) ((if max.isNone then c' else m) - l)) w := fun w => by
          simp only [Instr.slice, Sem.run_bind, run_underlying ht, Result.andThen_ok, g5, run_asize hn, Sem.run_pure, Option.map_some, Addr.add_mk]
        have hmm : m ≤ (if max.isNone then c' else m) := by split <;> omega
        split at h
        · rename_i hlm
          simp only [Option.some.injEq] at h; subst h
          have hne : ¬ ((if max.isNone then c' else m) = l) := by omega
          refine ⟨_, ?_, fun w => (key w).trans (by rw [if_neg hne])⟩
          exact .vsl (hK.drop _) (hv.drop _) (by omega)
        · have hhl : hh = l := by omega
          subst hhl
          simp only [Option.some.injEq] at h; subst h
          rw [Nat.sub_self] at key
          by_cases hq : (if max.isNone then c' else m) = hh
          · rw [if_pos hq] at key
            exact ⟨_, .vsl InK.nil .nil (Nat.zero_le _), key⟩
          · rw [if_neg hq] at key
            exact ⟨_, .vsl InK.nil .nil (Nat.zero_le _), key⟩
      · simp at h
    | vsl0 =>
      rename_i a
      split at h
      · rename_i n l hh m hn hb
        obtain ⟨g1, g2, g3, g4, g5⟩ := abounds_sound (P := P) true (Nat.le_refl 0) (Nat.le_refl 0) hb h1 h2 h3
        have key : ∀ w, (Instr.slice t (.slice (some a) 0 0) ul uh um).run P w =
            .ok (.slice (if (if max.isNone then 0 else m) = l then some a else some (a.add (l * n))) (hh - l) ((if max.isNone then 0 else m) - l)) w := fun w => by
          simp only [Instr.slice, Sem.run_bind, run_underlying ht, Result.andThen_ok, g5, run_asize hn, Sem.run_pure, Option.map_some]
        have hm0 : m = 0 := by omega
        have hl0 : l = 0 := by omega
        have hh0 : hh = 0 := by omega
        subst hm0; subst hl0; subst hh0
        rw [if_neg (by omega)] at h
        simp only [Option.some.injEq] at h; subst h
        refine ⟨_, .vsl0 (a := a), fun w => (key w).trans ?_⟩
        simp
      · simp at h
  · simp at h

def afieldAddr (P : Program) (t : TypeId) (x : AV) (f : Nat) : Option AV :=
  match P.underlying t with
  | some (.struct fs) => match fs[f]? with
    | some fd => match asize P fd.type with
      | some 0 => none
      | some _ => match x with
        | .ptr i o => some (.ptr i (o + fd.offset))
        | .vptr cs => some (.vptr (cs.drop fd.offset))
        | _ => none
      | none => none
    | none => none
  | _ => none

theorem afieldAddr_sound {P : Program} {E : Env} {t : TypeId} {x r : AV} {f : Nat} {u : Value} (h : afieldAddr P t x f = some r) (hx : VRel E x u) : Yields P E (Instr.fieldAt t u f) r := by
  unfold afieldAddr at h
  split at h
  · rename_i fs ht
    split at h
    · rename_i fd hf
      split at h
      · simp at h
      · rename_i n hn0 hn
        split at h
        · simp only [Option.some.injEq] at h; subst h
          cases hx with | ptr hp =>
          refine ⟨_, .ptr hp, fun w => ?_⟩
          simp only [Instr.fieldAt, Sem.run_bind, run_underlying ht, Result.andThen_ok, hf, Instr.sureAddr, Sem.run_pure, fieldPlace, run_asize hn]
          rw [if_neg (fun e => by subst e; first | exact hn0 hn | exact hn0 rfl)]
          simp only [Sem.run_pure, Result.andThen_ok, Addr.add_mk, Nat.add_assoc]
        · simp only [Option.some.injEq] at h; subst h
          cases hx with | vptr hK hv =>
          refine ⟨_, .vptr (hK.drop fd.offset) (hv.drop fd.offset), fun w => ?_⟩
          simp only [Instr.fieldAt, Sem.run_bind, run_underlying ht, Result.andThen_ok, hf, Instr.sureAddr, Sem.run_pure, fieldPlace, run_asize hn]
          rw [if_neg (fun e => by subst e; first | exact hn0 hn | exact hn0 rfl)]
          simp only [Sem.run_pure, Result.andThen_ok, Addr.add_mk]
        · simp at h
      · simp at h
    · simp at h
  · simp at h

def afield (P : Program) (t : TypeId) (x : AV) (f : Nat) : Option AV :=
  match P.underlying t with
  | some (.struct fs) => match fs[f]? with
    | some fd => match x with
      | .agg cs => apart' P fd.type cs fd.offset
      | _ => none
    | none => none
  | _ => none

theorem afield_sound {P : Program} {E : Env} {t : TypeId} {x r : AV} {f : Nat} {u : Value} (h : afield P t x f = some r) (hx : VRel E x u) : Yields P E (Instr.field t u f) r := by
  unfold afield at h
  split at h
  · rename_i fs ht
    split at h
    · rename_i fd hf
      split at h
      · cases hx with | agg hv =>
        obtain ⟨v, h1, h2⟩ := apart'_sound h hv
        refine ⟨v, h1, fun w => ?_⟩
        simp only [Instr.field, Sem.run_bind, run_underlying ht, Result.andThen_ok, hf, asAgg, Sem.run_pure, h2]
      · simp at h
    · simp at h
  · simp at h

def aindexAddr (P : Program) (t : TypeId) (x ix : AV) : Option AV :=
  match ix with
  | .int _ n => match P.underlying t with
    | some (.slice e) => match asize P e with
      | some z => match x with
        | .sl i o z' len _ _ => if 0 ≤ n ∧ n < len ∧ z = z' then some (.ptr i (o + n.toNat * z)) else none
        | .vsl cs len => if 0 ≤ n ∧ n < len then some (.vptr (cs.drop (n.toNat * z))) else none
        | _ => none
      | none => none
    | some (.array len e) => match asize P e with
      | some z => match x with
        | .ptr i o => if 0 ≤ n ∧ n < len then some (.ptr i (o + n.toNat * z)) else none
        | .vptr cs => if 0 ≤ n ∧ n < len then some (.vptr (cs.drop (n.toNat * z))) else none
        | _ => none
      | none => none
    | _ => none
  | _ => none

theorem aindexAddr_sound {P : Program} {E : Env} {t : TypeId} {x ix r : AV} {u ui : Value} (h : aindexAddr P t x ix = some r) (hx : VRel E x u) (hi : VRel E ix ui) : Yields P E (Instr.indexAt t u ui) r := by
  unfold aindexAddr at h
  split at h
  · rename_i k n
    cases hi
    split at h
    · rename_i e ht
      have hel : P.elem t = e := by simp [Program.elem, ht]
      split at h
      · rename_i z hz
        split at h
        · split at h
          · rename_i hb
            simp only [Option.some.injEq] at h; subst h
            cases hx with | sl hp =>
            refine ⟨_, .ptr hp, fun w => ?_⟩
            rw [run_indexAt_slice w t _ _ _ k n (by rw [hel]; exact ht), hel, if_pos ⟨hb.1, hb.2.1⟩, run_asize hz]
            simp only [Result.andThen_ok, Addr.add_mk, Nat.add_assoc]
          · simp at h
        · split at h
          · rename_i hb
            simp only [Option.some.injEq] at h; subst h
            cases hx with
            | vsl0 => omega
            | vsl hK hv =>
              refine ⟨_, .vptr (hK.drop (n.toNat * z)) (hv.drop (n.toNat * z)), fun w => ?_⟩
              rw [run_indexAt_slice w t _ _ _ k n (by rw [hel]; exact ht), hel, if_pos hb, run_asize hz]
              simp only [Result.andThen_ok, Addr.add_mk]
          · simp at h
        · simp at h
      · simp at h
    · rename_i len e ht
      have hel : P.elem t = e := by simp [Program.elem, ht]
      have hal : P.arrayLen t = len := by simp [Program.arrayLen, ht]
      split at h
      · rename_i z hz
        split at h
        · split at h
          · rename_i hb
            simp only [Option.some.injEq] at h; subst h
            cases hx with | ptr hp =>
            refine ⟨_, .ptr hp, fun w => ?_⟩
            rw [run_indexAt_array w t _ k n (by rw [hel, hal]; exact ht), hel, hal, if_pos hb, run_asize hz]
            simp only [Result.andThen_ok, Addr.add_mk, Nat.add_assoc]
          · simp at h
        · split at h
          · rename_i hb
            simp only [Option.some.injEq] at h; subst h
            cases hx with | vptr hK hv =>
            refine ⟨_, .vptr (hK.drop (n.toNat * z)) (hv.drop (n.toNat * z)), fun w => ?_⟩
            rw [run_indexAt_array w t _ k n (by rw [hel, hal]; exact ht), hel, hal, if_pos hb, run_asize hz]
            simp only [Result.andThen_ok, Addr.add_mk]
          · simp at h
        · simp at h
      · simp at h
    · simp at h
  · simp at h

def aindex (P : Program) (t : TypeId) (x ix : AV) : Option AV :=
  match ix with
  | .int _ n => match P.underlying t, x with
    | some (.array len e), .agg cs => match asize P e with
      | some z => if 0 ≤ n ∧ n < len then apart' P e cs (n.toNat * z) else none
      | none => none
    | some .string, .str s => if 0 ≤ n then match s[n.toNat]? with
        | some b => some (.int .u8 b.toNat)
        | none => none
      else none
    | _, _ => none
  | _ => none

theorem aindex_sound {P : Program} {E : Env} {t : TypeId} {x ix r : AV} {u ui : Value} (h : aindex P t x ix = some r) (hx : VRel E x u) (hi : VRel E ix ui) : Yields P E (Instr.index t u ui) r := by
  unfold aindex at h
  split at h
  · rename_i k n
    cases hi
    split at h
    · rename_i len e cs ht
      split at h
      · rename_i z hz
        split at h
        · rename_i hb
          cases hx with | agg hv =>
          obtain ⟨v, h1, h2⟩ := apart'_sound h hv
          refine ⟨v, h1, fun w => ?_⟩
          simp only [Instr.index, Sem.run_bind, asIntOf, Sem.run_pure, run_underlying ht, Result.andThen_ok]
          rw [if_pos hb]
          simp only [Sem.run_bind, run_asize hz, Result.andThen_ok, h2]
        · simp at h
      · simp at h
    · rename_i s ht
      split at h
      · rename_i hb
        split at h
        · rename_i b hs
          simp only [Option.some.injEq] at h; subst h
          cases hx
          refine ⟨_, .int _ _, fun w => ?_⟩
          have hs' : (ByteArray.mk s.toArray)[n.toNat]? = some b := by
            have hlt : n.toNat < s.length := by
              rcases Nat.lt_or_ge n.toNat s.length with q | q
              · exact q
              · rw [List.getElem?_eq_none q] at hs; simp at hs
            rw [ByteArray.getElem?_lt' _ _ (by simpa [ByteArray.size] using hlt)]
            rw [List.getElem?_eq_getElem hlt] at hs
            simp at hs
            rw [← hs]
            rfl
          simp only [Instr.index, Sem.run_bind, asIntOf, Sem.run_pure, run_underlying ht, Result.andThen_ok]
          rw [if_pos hb, hs']
          rfl
        · simp at h
      · simp at h
    · simp at h
  · simp at h

end Go.Abs
