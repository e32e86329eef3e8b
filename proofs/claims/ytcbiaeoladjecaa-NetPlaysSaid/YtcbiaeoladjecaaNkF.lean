import Derived.Test.YtcbiaeoladjecaaNkE
import Derived.Test.YtcbiaeoladjecaaAbsV
namespace Go.Proofs
open Go Go.Abs
set_option linter.unusedSimpArgs false
variable {G : Nat → Option AV}

/-- Where the first packet to 'to' stands. -/
def idx (ps : List Pk) (to : Int) : Int := match ps.findIdx? (fun p => decide (p.t = to)) with
  | some k => k
  | none => -1

theorem flat_at (ps : List Pk) (X : List AV) (k : Nat) (hk : k < ps.length) : List.take 3 (List.drop (k * 3) (flat ps ++ X)) = ps[k].cells := by
  have e : ps = ps.take k ++ ps[k] :: ps.drop (k + 1) := by simp
  have hl : (flat (ps.take k)).length = k * 3 := by simp; omega
  conv => lhs; rw [e]
  rw [flat_append, flat_cons, List.append_assoc, List.drop_left' hl, List.append_assoc, List.take_left' (by simp)]

theorem index_spec (H : AHeap) (b i c : Nat) (op : Bool) (ps : List Pk) (junk : List AV) (to : Int) (hi : H.get i = some (.cells [.int .i64 to])) (hb : H.get b = some (.cells (flat ps ++ junk))) (hc : ps.length * 3 + junk.length = 3 * c) (hc1 : c < 1000000) :
    Does Try.prog G 21 [.sl b 0 3 ps.length c op, .func (.func 22) [] [.ptr i 0]] H fun r H' => r = .int .i64 (idx ps to) ∧ H' = H := by
  refine does_f Try.call21 Try.func21 rfl (by simp [Try.f21]) ?_
  simp
  refine aws_loop (fun m T' H' => ∃ k : Nat, k + m = ps.length ∧ T' 0 = .sl b 0 3 ps.length c op ∧ T' 1 = .func (.func 22) [] [.ptr i 0] ∧ T' 7 = .int .i64 ps.length ∧ T' 8 = .int .i64 k ∧ (∀ j (h : j < ps.length), j < k → ps[j].t ≠ to) ∧ H' = H) ps.length ⟨0, by simp, by simp, by simp, by simp, by simp, fun j _ h => by omega, rfl⟩ ?_
  rintro m T H' ⟨k, hk, h0, h1, h7, h8, hno, rfl⟩
  by_cases hlt : k < ps.length
  · have f1 : k * 3 + 3 ≤ ps.length * 3 + junk.length := by omega
    have f2 : k * 3 ≤ ps.length * 3 + junk.length := by omega
    have e1 := flat_at ps junk k hlt
    simp [h0, h1, h7, h8, hlt, hb, f1, f2, e1]
    rw [if_pos (by omega)]
    simp
    refine does_use (pred_spec _ i ps[k] to hi) ?_
    rintro _ _ ⟨rfl, rfl⟩
    simp
    refine condV_dec (fun ht => ?_) (fun ht => ?_)
    · simp
      unfold idx
      have : ps.findIdx? (fun p => decide (p.t = to)) = some k := by
        rw [List.findIdx?_eq_some_iff_getElem]
        exact ⟨hlt, by simpa using ht, fun j hj => by simpa using hno j (by omega) hj⟩
      rw [this]
    · have w1 : IntKind.i64.wrap ((k : Int) + 1) = k + 1 := IntWalk.i64_in _ (by omega)
      simp [h0, h1, h7, h8, w1]
      refine ⟨m - 1, by omega, k + 1, by omega, by simp, fun j hj hjk => ?_⟩
      by_cases e : j = k
      · subst e; exact ht
      · exact hno j hj (by omega)
  · simp [h0, h1, h7, h8, hlt]
    unfold idx
    have : ps.findIdx? (fun p => decide (p.t = to)) = none := by
      rw [List.findIdx?_eq_none_iff]
      intro x hx
      obtain ⟨j, hj, rfl⟩ := List.getElem_of_mem hx
      simpa using hno j hj (by omega)
    rw [this]
end Go.Proofs
