import Derived.Test.YtcbiaeoladjecaaNkP
import Derived.Test.YtcbiaeoladjecaaKlB
namespace Go.Proofs
open Go Go.Abs
set_option linter.unusedSimpArgs false

theorem plays_nil (H : AHeap) : Does Try.prog (fun _ => none) 4 [.nilsl] H fun r _ => r = .bool true := by
  refine does_f Try.call4 Try.func4 rfl (by simp [Try.f4]) ?_
  simp
  refine does_use (awake_any _) ?_
  rintro _ H0 ⟨rfl, rfl⟩
  simp
  refine does_usew (new_spec _) ?_
  rintro _ _ ⟨rfl, rfl⟩ hw0 _
  simp
  refine aws_loopw (fun m T' H' => T' 0 = .nilsl ∧ T' 5 = .int .i64 0) 0 ⟨by simp, by simp⟩ ?_
  rintro m T H ⟨h0, h5⟩ hw _
  simp [h0, h5]

theorem u3 : Try.prog.underlying 3 = some (.int .i64) := by kernel_rfl
theorem u5 : Try.prog.underlying 5 = some (.int .u8) := by kernel_rfl
theorem u25 : Try.prog.underlying 25 = some (.slice 5) := by kernel_rfl
theorem u35 : Try.prog.underlying 35 = some (.slice 38) := by kernel_rfl

theorem ints_shp {n : Nat} {x : List AV} (h : Shp Try.prog (n + 1) 3 x) : ∃ m, x = [AV.int .i64 m] := by
  unfold Shp at h
  rw [u3] at h
  obtain ⟨m, hm, _⟩ := h
  exact ⟨m, hm⟩
theorem bytes_shp {n : Nat} {x : List AV} (h : Shp Try.prog (n + 2) 25 x) : ∃ b, x = [pkb b] := by
  unfold Shp at h
  rw [u25] at h
  rcases h with rfl | ⟨es, rfl, _, h⟩
  · exact ⟨none, rfl⟩
  · have : ∀ x ∈ es, ∃ m : Int, x = [AV.int .u8 m] ∧ (Lit.int .u8 m).wf = true := fun x hx => by
      have := h x hx
      unfold Shp at this
      rw [u5] at this
      exact this
    obtain ⟨bs, h1, h2⟩ := bytes_of_shp this
    exact ⟨some bs, by rw [h1, ← h2]; rfl⟩
theorem struct_shp {n t : Nat} {fs : Array Field} {x : List AV} (hu : Try.prog.underlying t = some (.struct fs)) (h : Shp Try.prog (n + 1) t x) : ∃ xs : List (List AV), x = xs.flatten ∧ xs.length = fs.toList.length ∧ ∀ (i : Nat) (f : Field) (x : List AV), fs.toList[i]? = some f → xs[i]? = some x → Shp Try.prog n f.type x := by
  unfold Shp at h
  rw [hu] at h
  exact h
def fieldTys (d : Option TypeDesc) : Option (List TypeId) := match d with
  | some (.struct fs) => some (fs.toList.map (·.type))
  | _ => none
theorem three_shp {n t : Nat} {a b c : TypeId} {x : List AV} (hf : fieldTys (Try.prog.underlying t) = some [a, b, c]) (h : Shp Try.prog (n + 1) t x) : ∃ x1 x2 x3, x = x1 ++ (x2 ++ x3) ∧ Shp Try.prog n a x1 ∧ Shp Try.prog n b x2 ∧ Shp Try.prog n c x3 := by
  cases hu : Try.prog.underlying t with
  | none => rw [hu] at hf; simp [fieldTys] at hf
  | some d =>
    rw [hu] at hf
    cases d <;> simp only [fieldTys] at hf <;> try (simp at hf; done)
    rename_i fs
    simp only [Option.some.injEq] at hf
    obtain ⟨xs, rfl, hl, hx⟩ := struct_shp hu h
    have hfl : fs.toList.length = 3 := by have := congrArg List.length hf; simpa using this
    generalize fs.toList = l at *
    match l, hfl with
    | [f1, f2, f3], _ =>
      simp only [List.map_cons, List.map_nil, List.cons.injEq, and_true] at hf
      obtain ⟨rfl, rfl, rfl⟩ := hf
      match xs, hl with
      | [x1, x2, x3], _ => exact ⟨x1, x2, x3, by simp, hx 0 f1 x1 rfl rfl, hx 1 f2 x2 rfl rfl, hx 2 f3 x3 rfl rfl⟩

theorem act_shp {x : List AV} (h : Shp Try.prog 7 38 x) : ∃ a : Ac, x = a.cells := by
  obtain ⟨x1, x2, x3, rfl, h1, h2, h3⟩ := three_shp (a := 3) (b := 3) (c := 27) (by kernel_rfl) h
  obtain ⟨y1, y2, y3, rfl, k1, k2, k3⟩ := three_shp (a := 3) (b := 3) (c := 25) (by kernel_rfl) h3
  obtain ⟨m1, rfl⟩ := ints_shp h1
  obtain ⟨m2, rfl⟩ := ints_shp h2
  obtain ⟨m3, rfl⟩ := ints_shp k1
  obtain ⟨m4, rfl⟩ := ints_shp k2
  obtain ⟨b, rfl⟩ := bytes_shp k3
  exact ⟨⟨m1, m2, m3, m4, b⟩, rfl⟩
theorem acts_shp : ∀ {es : List (List AV)}, (∀ x ∈ es, Shp Try.prog 7 38 x) → ∃ l : List Ac, es.flatten = acells l ∧ l.length = es.length
  | [], _ => ⟨[], rfl, rfl⟩
  | x :: es, h => by
    obtain ⟨a, rfl⟩ := act_shp (h x (by simp))
    obtain ⟨l, h1, h2⟩ := acts_shp (es := es) fun y hy => h y (by simp [hy])
    exact ⟨a :: l, by show a.cells ++ es.flatten = a.cells ++ acells l; rw [h1], by simp [h2]⟩

theorem plays_any (H : AHeap) (a : AV) (h : Shp Try.prog 8 35 [a]) : Does Try.prog (fun _ => none) 4 [a] H fun r _ => r = .bool true := by
  unfold Shp at h
  rw [u35] at h
  simp only [List.cons.injEq, and_true] at h
  rcases h with rfl | ⟨es, rfl, _, h⟩
  · exact plays_nil H
  · obtain ⟨l, h1, h2⟩ := acts_shp h
    rw [h1, ← h2]
    exact plays_vsl H l
end Go.Proofs
