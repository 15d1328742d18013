/- RetryNone's walk. -/
import Derived.Test.YtmdfkljmgijdlaaNc
import Derived.Test.YtmdfkljmgijdlaaGb
namespace Go.Proofs.Ytmdfkljmgijdlaa
open Go.RowKit
set_option linter.unusedVariables false

theorem make16 (s : Nat) (hs : s ≤ 65) : ∀ w : World, (Instr.makeSlice 24 (.int .i64 s) (.int .i64 s)).run Try.prog w = .ok (.slice (some ⟨w.heap.size, 0, none⟩) s s) (w.alloc (.cells (madeCells #[.int .i16 0] s) 129)) := by
  obtain ⟨i, hi, hz0, hz1, hz2⟩ := info_parts Try.info129
  intro w
  have h := run_make (P := Try.prog) w 24 129 i _ Try.underlying24 hi hz0 .i64 .i64 s s (by omega) (Int.le_refl _) (by rw [hz2]; omega) (by omega)
  rw [hz1] at h
  simp only [Int.toNat_natCast, Nat.mul_one] at h
  exact h

theorem new_book (w : World) : Calls Try.prog 66 #[] w fun e w' => e = .returned (.pointer (some ⟨w.heap.size, 0, none⟩)) ∧ w' = w.alloc (.cells #[.slice none 0 0] 237) := by
  go_enter Try.func66, Try.ntmps66
  go_wp2
  go_ret
  exact ⟨rfl, rfl⟩

theorem ticks_far (w : World) : Calls Try.prog 44 #[.float .f64 4746794007248502784] w fun e w' => e = .returned (.int .i32 2147483647) ∧ w = w' := by
  have h0 : gt0 4746794007248502784 = true := by decide +kernel
  have h1 : geMax 4746794007248502784 = true := by decide +kernel
  unfold gt0 at h0
  unfold geMax at h1
  go_enter Try.func44, Try.ntmps44
  go_wp2
  go_ret
  exact ⟨rfl, rfl⟩
theorem ticks_least (w : World) : Calls Try.prog 44 #[.float .f64 1] w fun e w' => e = .returned (.int .i32 1) ∧ w = w' := by
  have h0 : gt0 1 = true := by decide +kernel
  have h1 : geMax 1 = false := by decide +kernel
  have hc := ceil_run 1 (by decide +kernel)
  have hk : floatToIntVal .f64 (ceilF 1) .i32 = some 1 := by decide +kernel
  have hcv : ∀ w, (convert 22 21 (.float .f64 (ceilF 1))).run Try.prog w = .ok (.int .i32 1) w := fun w => run_convert_float_int w 22 21 .f64 .i32 _ _ (by rw [Try.underlying22]; rfl) Try.underlying21 hk
  unfold gt0 at h0
  unfold geMax at h1
  go_enter Try.func44, Try.ntmps44
  go_wp2
  go_ret
  exact ⟨rfl, rfl⟩
end Go.Proofs.Ytmdfkljmgijdlaa
