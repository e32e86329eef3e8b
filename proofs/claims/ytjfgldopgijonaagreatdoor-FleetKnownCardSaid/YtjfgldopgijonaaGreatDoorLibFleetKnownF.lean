/-
  Own library of this claim, part 6: texts one behind the other.
-/
import Derived.Test.YtjfgldopgijonaaGreatDoorLibFleetKnownE
set_option maxRecDepth 100000
set_option maxHeartbeats 8000000
set_option linter.unusedVariables false
set_option linter.unusedSimpArgs false
namespace Go.Proofs.YtjfgldopgijonaaGreatDoor
open Go Go.Abs
theorem fl_slow_run (b o : Nat) (fn : Fn) (first cap : Array Value) (w : World) (K : World -> Prop) (h0 : w.cell? ⟨b, o, none⟩ = some (.int .u32 0)) (h1 : w.cell? ⟨b, o + 1, none⟩ = some (.int .i32 0)) (f0 : w.frozen? ⟨b, o, none⟩ = false) (f1 : w.frozen? ⟨b, o + 1, none⟩ = false)
  (hg : ∃ g, fn = .func g /\ OpCalls Tryz.prog g (first ++ cap) (w.setCell ⟨b, o + 1, none⟩ (.int .i32 1)) fun _ w2 => K w2)
  (hK : ∀ w2, K w2 -> w2.cell? ⟨b, o, none⟩ = some (.int .u32 0) /\ w2.cell? ⟨b, o + 1, none⟩ = some (.int .i32 1) /\ w2.frozen? ⟨b, o, none⟩ = false /\ w2.frozen? ⟨b, o + 1, none⟩ = false) :
  Calls Tryz.prog 53 #[.pointer (some ⟨b, o, none⟩), .func fn first cap] w fun e w' => e = .returned (.tuple #[]) /\ ∃ w2, K w2 /\ w' = (w2.drew.setCell ⟨b, o, none⟩ (.int .u32 1)).setCell ⟨b, o + 1, none⟩ (.int .i32 0) := by
 obtain ⟨g, rfl, hg⟩ := hg
 have hl := run_call_load (P := Tryz.prog) Tryz.func98 (by kernel_rfl) (by kernel_rfl) (by kernel_rfl) .u32 (by kernel_rfl) (w := w.setCell ⟨b, o + 1, none⟩ (.int .i32 1)) (a := ⟨b, o, none⟩) (x := 0) ((World.cell?_setCell_other _ ⟨b, o + 1, none⟩ ⟨b, o, none⟩ _ (by simp)).trans h0)
 have hnot : ∀ (x : Bool) (w : World), (Op.unary .not (.bool x)).run Tryz.prog w = .ok (.bool (!x)) w := fun _ _ => rfl
 go_enter_defers Tryz.func53, Tryz.ntmps53
 go_wp2_with (go_at_call 99; refine (fl_lock ⟨b, o + 1, none⟩ _ (by go_simp) (by go_simp) rfl).mono ?_; rintro e w' ⟨rfl, rfl⟩)
 go_wp2
 rename_i KK hKK
 have key : ∀ v w2, K w2 -> KK { tmps := #[Value.pointer (some { block := b, off := o }), Value.func (Fn.func g) first cap, undef, undef, Value.pointer (some { block := b, off := o }), Value.pointer (some { block := b, off := o }), Value.pointer (some { block := b, off := o + 1 }), Value.tuple #[], Value.pointer (some { block := b, off := o }), Value.pointer (some { block := b, off := o }), Value.pointer (some { block := b, off := o + 1 }), Value.pointer (some { block := b, off := o }), Value.pointer (some { block := b, off := o }), Value.pointer (some { block := b, off := o }), Value.bool false, Value.bool true, Value.pointer (some { block := b, off := o }), Value.pointer (some { block := b, off := o }), Value.pointer (some { block := b, off := o }), Value.func (Fn.func g) first cap, v], defers := [{ target := Target.fn (Fn.func 101) #[], args := #[Value.pointer (some { block := b, off := o }), Value.bool true] }, { target := Target.fn (Fn.func 100) #[], args := #[Value.pointer (some { block := b, off := o + 1 })] }] } w2 := by
  intro v w2 h2
  obtain ⟨a1, a2, a3, a4⟩ := hK w2 h2
  refine hKK _ _ ?_
  clear hKK
  go_wp2
  refine leaves_cons (f := 101) (args := #[.pointer (some ⟨b, o, none⟩), .bool true]) (by simp) (by simp [go_sem]) ?_
  refine (fl_stored ⟨b, o, none⟩ (.int .u32 0) .returning _ a1 a3).mono ?_
  rintro e u' w'' ⟨rfl, rfl, rfl⟩
  refine leaves_cons (f := 100) (args := #[.pointer (some ⟨b, o + 1, none⟩)]) (by simp [settle]) (by simp [go_sem]) ?_
  refine (fl_unlocked ⟨b, o + 1, none⟩ _ _ ?_ (by simp [a4]) rfl).mono ?_
  · refine (World.cell?_setCell_other _ ⟨b, o, none⟩ ⟨b, o + 1, none⟩ _ (by simp)).trans ?_
    rw [World.cell?_drew]
    exact a2
  rintro e u' w'' ⟨rfl, rfl, rfl⟩
  simp [Leaves, settle, results, Tryz.results53]
  exact ⟨_, h2, rfl⟩
 rcases hg with ⟨h1, h2⟩ | ⟨v, w', h1, h2⟩
 · rw [h1, Oper.upon_enter]
   refine h2.mono ?_
   rintro e w' ⟨v, rfl, h3⟩
   exact key v w' h3
 · rw [h1, Oper.upon_value]
   exact key v w' h2
theorem fl_slow : IsSlow Tryz.prog 53 := ⟨Tryz.call53, fl_slow_run⟩
theorem fl_load32 : IsLoad Tryz.prog 98 .u32 := ⟨fun a x w h => run_call_load (P := Tryz.prog) Tryz.func98 (by kernel_rfl) (by kernel_rfl) (by kernel_rfl) .u32 (by kernel_rfl) h⟩
theorem fl_load64 : IsLoad Tryz.prog 65 .i64 := ⟨fun a x w h => run_call_load (P := Tryz.prog) Tryz.func65 (by kernel_rfl) (by kernel_rfl) (by kernel_rfl) .i64 (by kernel_rfl) h⟩
theorem fl_add64 : IsAdd Tryz.prog 55 .i64 := ⟨fun a x y w h hz => run_call_add (P := Tryz.prog) Tryz.func55 (by kernel_rfl) (by kernel_rfl) (by kernel_rfl) .i64 (by kernel_rfl) h hz (by simp [go_sem])⟩
end Go.Proofs.YtjfgldopgijonaaGreatDoor
