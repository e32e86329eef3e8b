/-
  A simplified meaning for Go code, fourth part: equality; the pure operations together.
-/
import Derived.Test.YtcbiaeoladjecaaAbsC
namespace Go.Abs
open Go

theorem aeqElems_sound {P : Program} {E : Env} {d : Nat} {eq : TypeId → AV → AV → Option Bool} (he : EqSound P E eq d) {e : TypeId} {n : Nat} {xs ys : List AV} {us vs : Array Value} (hx : VRels E xs us.toList) (hy : VRels E ys vs.toList) :
    ∀ (m i : Nat) (r : Bool), aeqElems P eq e n xs ys m i = some r → ∀ w,
    ∃ q, (forIn (m := Sem) (List.range' i m) ((none, ()) : Option Bool × Unit) (fun j _ => do
      let a ← part e us (j * n)
      let b ← part e vs (j * n)
      let t ← Op.equalIn d e a b
      if (!t) = true then pure (ForInStep.done (some false, ())) else pure (ForInStep.yield (none, ())))).run P w = .ok (q, ()) w ∧ q = (if r then none else some false)
  | 0, i, r, h, w => by
    simp [aeqElems] at h; subst h
    exact ⟨none, by simp, rfl⟩
  | m + 1, i, r, h, w => by
    simp only [aeqElems] at h
    split at h
    · rename_i a b ha hb
      obtain ⟨u, hu, hur⟩ := apart'_sound ha hx
      obtain ⟨v, hv, hvr⟩ := apart'_sound hb hy
      simp only [List.range'_succ, List.forIn_cons, Sem.run_bind, hur, hvr, Result.andThen_ok]
      split at h
      · rename_i e1
        simp only [he _ _ _ _ _ _ e1 hu hv w, Result.andThen_ok]
        obtain ⟨q, h1, h2⟩ := aeqElems_sound he hx hy m (i + 1) r h w
        refine ⟨q, ?_, h2⟩
        simpa using h1
      · rename_i e1
        simp only [he _ _ _ _ _ _ h hu hv w, Result.andThen_ok]
        cases r
        · exact ⟨some false, by simp, rfl⟩
        · exact absurd h e1
    · simp at h

theorem aeqIn_sound {P : Program} {E : Env} : ∀ d, EqSound P E (aeqIn P d) d
  | 0 => fun t x y u v r h _ _ w => by simp [aeqIn] at h
  | d + 1 => fun t x y u v r h hx hy w => by
    have ih := aeqIn_sound (P := P) (E := E) d
    unfold aeqIn at h
    split at h <;> first
      | (simp at h; done)
      | (rename_i ht
         simp only [Option.some.injEq] at h; subst h
         cases hx <;> cases hy <;> rw [Op.equalIn, Sem.run_bind, run_underlying ht] <;> first
           | rfl
           | (refine Eq.trans (b := .ok ((ByteArray.mk (List.toArray _)) == (ByteArray.mk (List.toArray _))) w) rfl ?_
              rw [beq_toListBytes, ByteArray.toList_mk, ByteArray.toList_mk]))
      | skip
    · rename_i ht
      split at h
      · rename_i hk
        simp only [Option.some.injEq] at h; subst h
        cases hx; cases hy
        rw [Op.equalIn, Sem.run_bind, run_underlying ht, Result.andThen_ok]
        show (if _ = _ then (pure _ : Sem Bool) else _).run P w = _
        rw [if_pos hk]; rfl
      · simp at h
    · rename_i tx a ty b ht
      split at h
      · rename_i hk
        subst hk
        split at h <;> try (simp at h; done)
        rename_i i hi
        split at h <;> try (simp at h; done)
        rename_i hcmp
        cases hx with | iface hx => cases hy with | iface hy =>
        rw [Op.equalIn, Sem.run_bind, run_underlying ht, Result.andThen_ok]
        refine Eq.trans ?_ (ih _ _ _ _ _ _ h hx hy w)
        have e : ∀ w, (typeInfo tx).run P w = .ok i w := fun w => by simp [typeInfo, hi]
        simp [e, hcmp]
      · rename_i hk
        simp only [Option.some.injEq] at h; subst h
        cases hx with | iface hx => cases hy with | iface hy =>
        rw [Op.equalIn, Sem.run_bind, run_underlying ht, Result.andThen_ok]
        simp only [ne_eq, hk, not_false_eq_true, if_true]
        rfl
    · rename_i fs xs ys ht
      split at h
      · simp at h
      · rename_i hs
        cases hx with | agg hx => cases hy with | agg hy =>
        have hfo : P.fieldsOf t = fs := by simp [Program.fieldsOf, ht]
        rw [run_equalIn_struct w d t _ _ (by rw [hfo]; exact ht) (by simpa using hs), hfo]
        exact aeqFields_sound ih hx hy _ _ h w
    · rename_i len e xs ys ht
      split at h
      · rename_i n hn
        cases hx with | agg hx => cases hy with | agg hy =>
        obtain ⟨q, h1, h2⟩ := aeqElems_sound ih hx hy len 0 r h w
        rw [Op.equalIn, Sem.run_bind, run_underlying ht, Result.andThen_ok]
        simp only [Sem.run_bind, Result.andThen_ok, run_asize hn, Std.Legacy.Range.forIn_eq_forIn_range']
        simp only [Std.Legacy.Range.size, Nat.sub_zero, Nat.div_one, Nat.add_one_sub_one]
        rw [h1]
        subst h2
        cases r <;> simp
      · simp at h

end Go.Abs
