import Derived.Test.YtcbiaeoladjecaaNkJ
import Derived.Test.YtcbiaeoladjecaaKlB
namespace Go.Proofs
open Go Go.Abs
theorem ints_of_shp {k : IntKind} : ∀ {es : List (List AV)}, (∀ x ∈ es, ∃ m, x = [AV.int k m]) → ∃ xs : List Int, es.flatten = xs.map (.int k) ∧ xs.length = es.length
  | [], _ => ⟨[], rfl, rfl⟩
  | x :: es, h => by
    obtain ⟨m, rfl⟩ := h x (by simp)
    obtain ⟨xs, h1, h2⟩ := ints_of_shp (es := es) fun y hy => h y (by simp [hy])
    exact ⟨m :: xs, by simp [h1], by simp [h2]⟩
theorem first_any (H : AHeap) (a : AV) (h : Shp Try.prog 8 42 [a]) : Does Try.prog (fun _ => none) 6 [a] H fun r _ => r = .bool true := by
  unfold Shp at h
  rw [Try.underlying42] at h
  simp only [List.cons.injEq, and_true] at h
  rcases h with rfl | ⟨es, rfl, _, h⟩
  · exact first_nil H
  · have : ∀ x ∈ es, ∃ m, x = [AV.int .i64 m] := fun x hx => by
      have := h x hx
      unfold Shp at this
      rw [Try.underlying3] at this
      obtain ⟨m, hm, _⟩ := this
      exact ⟨m, hm⟩
    obtain ⟨xs, h1, h2⟩ := ints_of_shp this
    rw [h1, ← h2]
    exact first_vsl H xs
end Go.Proofs
