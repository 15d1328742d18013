/- grasp: what is asked of a book that is not there. -/
import Derived.Test.YtfmnbhhpimpjbaaGreatDoorBz
namespace Go.Proofs.YtfmnbhhpimpjbaaGreatDoor
open Go.RowKit
set_option linter.unusedVariables false

set_option maxRecDepth 100000 in
theorem value_nil (h : Int) (w : World) : Calls Tryz.prog 33 #[.pointer none, .int .i64 h] w fun e w' => e = .returned (.tuple #[.nilIface, .int .i64 2]) ∧ w = w' := by
  go_enter Tryz.func33, Tryz.ntmps33
  go_wp2
  go_ret2
  exact ⟨rfl, rfl⟩
set_option maxRecDepth 100000 in
theorem nodes_nil (h : Int) (w : World) : Calls Tryz.prog 19 #[.pointer none, .int .i64 h] w fun e w' => e = .returned (.tuple #[.slice none 0 0, .int .i64 2]) ∧ w = w' := by
  go_enter Tryz.func19, Tryz.ntmps19
  go_wp2
  go_ret2
  exact ⟨rfl, rfl⟩
set_option maxRecDepth 100000 in
theorem all_err_nil (h : Int) (w : World) : Calls Tryz.prog 32 #[.pointer none, .int .i64 h] w fun e w' => e = .returned (.tuple #[.slice none 0 0, .int .i64 2]) ∧ w = w' := by
  go_enter Tryz.func32, Tryz.ntmps32
  go_wp2_with (go_at_call 19; refine (nodes_nil _ _).mono ?_; rintro e w' ⟨rfl, rfl⟩)
  go_ret2
  exact ⟨rfl, rfl⟩
set_option maxRecDepth 100000 in
theorem count_err_nil (h : Int) (w : World) : Calls Tryz.prog 12 #[.pointer none, .int .i64 h] w fun e w' => e = .returned (.tuple #[.int .i64 0, .int .i64 2]) ∧ w = w' := by
  go_enter Tryz.func12, Tryz.ntmps12
  go_wp2_with (go_at_call 32; refine (all_err_nil _ _).mono ?_; rintro e w' ⟨rfl, rfl⟩)
  go_ret2
  exact ⟨rfl, rfl⟩
set_option maxRecDepth 100000 in
theorem which_err_nil (h : Int) (w : World) : Calls Tryz.prog 14 #[.pointer none, .int .i64 h] w fun e w' => e = .returned (.tuple #[.int .i64 0, .int .i64 2]) ∧ w = w' := by
  have ha : ∀ w, (Instr.typeAssert .nilIface 20 39 true).run Tryz.prog w = .ok (.tuple #[.nilIface, .bool false]) w := fun w => by rfl
  go_enter Tryz.func14, Tryz.ntmps14
  go_wp2_with (go_at_call 33; refine (value_nil _ _).mono ?_; rintro e w' ⟨rfl, rfl⟩)
  go_ret2
  exact ⟨rfl, rfl⟩
set_option maxRecDepth 100000 in
theorem pick_err_nil (w : World) : Calls Tryz.prog 15 #[.pointer none, .slice none 0 0] w fun e w' => e = .returned (.tuple #[.slice none 0 0, .int .i64 2]) ∧ w = w' := by
  go_enter Tryz.func15, Tryz.ntmps15
  go_wp2
  go_ret2
  exact ⟨rfl, rfl⟩
set_option maxRecDepth 100000 in
theorem over_err_nil (f g : Value) (w : World) : Calls Tryz.prog 16 #[.pointer none, .int .i64 0, f, g] w fun e w' => e = .returned (.tuple #[.int .i64 0, .int .i64 2]) ∧ w = w' := by
  go_enter Tryz.func16, Tryz.ntmps16
  go_wp2_with (go_at_call 33; refine (value_nil _ _).mono ?_; rintro e w' ⟨rfl, rfl⟩)
  go_ret2
  exact ⟨rfl, rfl⟩
set_option maxRecDepth 100000 in
theorem find_err_nil (h : Int) (w : World) : Calls Tryz.prog 11 #[.pointer none, .int .i64 h] w fun e w' => e = .returned (.tuple #[.nilIface, .int .i64 0, .int .i64 2]) ∧ w = w' := by
  go_enter Tryz.func11, Tryz.ntmps11
  go_wp2_with (go_at_call 32; refine (all_err_nil _ _).mono ?_; rintro e w' ⟨rfl, rfl⟩)
  refine bodyPost_ret (results_tmp3 rfl _ _ _) rfl ⟨rfl, rfl⟩
set_option maxRecDepth 100000 in
theorem allseq_err_nil (h : Int) (w : World) : Calls Tryz.prog 20 #[.pointer none, .int .i64 h] w fun e w' => e = .returned (.func (.func 37) #[] #[.pointer (some ⟨w.heap.size, 0, none⟩)]) ∧ w' = w.alloc (.cells #[.slice none 0 0] 76) := by
  go_enter Tryz.func20, Tryz.ntmps20
  go_wp2_with (go_at_call 32; refine (all_err_nil _ _).mono ?_; rintro e w' ⟨rfl, rfl⟩)
  go_ret
  exact ⟨rfl, rfl⟩
theorem allseq1_nil (f : Value) (b : Nat) (w : World) (hb : w.cell? ⟨b, 0, none⟩ = some (.slice none 0 0)) : Calls Tryz.prog 37 #[f, .pointer (some ⟨b, 0, none⟩)] w fun e w' => e = .returned (.tuple #[]) ∧ w = w' := by
  go_enter Tryz.func37, Tryz.ntmps37
  go_wp2_with fail
  go_loopw [7] (fun i x => i = .int .i64 0 ∧ w = x) (fun _ _ => 0)
  case atStart => exact ⟨rfl, rfl⟩
  case round =>
    obtain ⟨rfl, rfl⟩ := hrel
    go_wp2
    go_end0
    exact ⟨rfl, rfl⟩
end Go.Proofs.YtfmnbhhpimpjbaaGreatDoor
