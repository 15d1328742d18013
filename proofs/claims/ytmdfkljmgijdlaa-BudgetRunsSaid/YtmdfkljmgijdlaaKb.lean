/- A new budget; BudgetNames' walk. -/
import Derived.Test.YtmdfkljmgijdlaaKa
namespace Go.Proofs.Ytmdfkljmgijdlaa
open Go.RowKit
set_option linter.unusedVariables false

theorem make_ring (s : Nat) (hs : s ≤ 1024) : ∃ vals : Array Value, vals = madeCells #[.int .i64 0, .int .i64 0] (s * 2) ∧ ∀ w : World, (Instr.makeSlice 154 (.int .i64 s) (.int .i64 s)).run Try.prog w = .ok (.slice (some ⟨w.heap.size, 0, none⟩) s s) (w.alloc (.cells vals 161)) := by
  obtain ⟨i, hi, hz⟩ := Option.map_eq_some_iff.1 (show (Try.prog.info? 161).map (fun i => (i.zero, i.size, i.bytes)) = some (some (.agg #[.int .i64 0, .int .i64 0]), 2, 16) by kernel_rfl)
  simp only [Prod.mk.injEq] at hz
  refine ⟨_, rfl, fun w => ?_⟩
  have h := run_make (P := Try.prog) w 154 161 i _ Try.underlying154 hi hz.1 .i64 .i64 s s (by omega) (Int.le_refl _) (by rw [hz.2.2]; omega) (by omega)
  rw [hz.2.1] at h
  simp only [Int.toNat_natCast] at h
  exact h

/-- New, where a budget is made. -/
theorem bnew_any (t s : Nat) (hs1 : 1 ≤ s) (hs : s ≤ 1024) (h0 : (FloatKind.f64.format.order t 0 == some .gt) = true) (h1 : (FloatKind.f64.format.order t 4607182418800017408 == some .lt) = true) (w : World) :
    Calls Try.prog 18 #[.float .f64 t, .int .i64 s] w fun e w' => e = .returned (.tuple #[.pointer (some ⟨w.heap.size + 1, 0, none⟩), .int .i64 0]) ∧
      w' = (w.alloc (.cells (madeCells #[.int .i64 0, .int .i64 0] (s * 2)) 161)).alloc (.cells #[.float .f64 t, .slice (some ⟨w.heap.size, 0, none⟩) s s, .int .i64 0, .bool false] 156) := by
  obtain ⟨vals, hv, hm⟩ := make_ring s hs
  rw [← hv]
  have i1 : ¬ ((s : Int) < 1) := by omega
  have i2 : (s : Int) ≤ 1024 := by omega
  clear hv hs1 hs
  go_enter Try.func18, Try.ntmps18
  go_wp2
  go_ret2
  exact ⟨rfl, rfl⟩

set_option maxRecDepth 100000 in
theorem names_walk (w : World) : Calls Try.prog 10 #[] w fun e w' => e = .returned (.bool true) ∧ Below w.heap.size w w' := by
  have n1 : (FloatKind.f64.format.order 9221120237041090561 9221120237041090561 != some .eq) = true := by decide +kernel
  go_enter Try.func10, Try.ntmps10
  go_wp2_with fail
  refine (now_nil _).mono ?_
  rintro e w1 ⟨rfl, rfl⟩
  go_wp2_with fail
  refine (sum_nil _ _).mono ?_
  rintro e w1 ⟨rfl, b1⟩
  go_wp2_with fail
  refine (rate_nil _ _).mono ?_
  rintro e w2 ⟨rfl, c2⟩
  have b2 := b1.trans (c2.mono b1.size)
  clear c2 b1
  go_wp2_with fail
  refine (burn_nil _ _).mono ?_
  rintro e w3 ⟨rfl, c3⟩
  have b3 := b2.trans (c3.mono b2.size)
  clear c3 b2
  go_wp2_with fail
  refine (lasts_nil _ _).mono ?_
  rintro e w4 ⟨rfl, c4⟩
  have b4 := b3.trans (c4.mono b3.size)
  clear c4 b3
  go_wp2_with fail
  refine (fires_nil _ _).mono ?_
  rintro e w5 ⟨rfl, rfl⟩
  go_wp2_with fail
  refine (left_nil _).mono ?_
  rintro e w5 ⟨rfl, rfl⟩
  go_wp2_with fail
  refine (bnew_any 4604930618986332160 4 (by omega) (by omega) (by decide +kernel) (by decide +kernel) _).mono ?_
  rintro e w5 ⟨rfl, hw5⟩
  have b5 : Below w.heap.size w w5 := by rw [hw5]; exact (b4.alloc b4.size _).alloc (by have := b4.size; simp; omega) _
  clear hw5 b4
  go_wp2_with fail
  refine (note_nil _ _ _ _).mono ?_
  rintro e w6 ⟨rfl, rfl⟩
  go_wp2_with fail
  refine (merge_nil1 _ _).mono ?_
  rintro e w6 ⟨rfl, c6⟩
  have b6 := b5.trans (c6.mono b5.size)
  clear c6 b5
  go_wp2_with fail
  refine (merge_nil2 _ _).mono ?_
  rintro e w7 ⟨rfl, c7⟩
  have b7 := b6.trans (c7.mono b6.size)
  clear c7 b6
  go_wp2
  go_ret
  exact ⟨rfl, b7⟩
end Go.Proofs.Ytmdfkljmgijdlaa
