/- RetryNone: a run that is not there; a bucket that is not there; a run that has begun. -/
import Derived.Test.YtmdfkljmgijdlaaNa
import Derived.Test.YtmdfkljmgijdlaaHc
namespace Go.Proofs.Ytmdfkljmgijdlaa
open Go.RowKit
set_option linter.unusedVariables false

set_option maxRecDepth 100000 in
theorem failed_nil (p : Value) (h : Int) (x : Nat) (w : World) : Calls Try.prog 68 #[.pointer none, p, .int .i64 h, .float .f64 x] w fun e w' => e = .returned (.tuple #[.float .f64 0, .bool false, .int .i64 2]) ∧ w = w' := by
  go_enter Try.func68, Try.ntmps68
  go_wp2
  go_ret3
  exact ⟨rfl, rfl⟩
theorem done_nil (w : World) : Calls Try.prog 69 #[.pointer none] w fun e w' => e = .returned (.int .i64 2) ∧ w = w' := by
  go_enter Try.func69, Try.ntmps69
  go_wp2
  go_ret
  exact ⟨rfl, rfl⟩
theorem end_nil (w : World) : Calls Try.prog 70 #[.pointer none] w fun e w' => e = .returned (.int .i64 0) ∧ w = w' := by
  go_enter Try.func70, Try.ntmps70
  go_wp2
  go_ret
  exact ⟨rfl, rfl⟩
theorem tries_nil (w : World) : Calls Try.prog 71 #[.pointer none] w fun e w' => e = .returned (.int .i64 0) ∧ w = w' := by
  go_enter Try.func71, Try.ntmps71
  go_wp2
  go_ret
  exact ⟨rfl, rfl⟩
set_option maxRecDepth 100000 in
theorem last_nil (w : World) : Calls Try.prog 72 #[.pointer none] w fun e w' => e = .returned (.agg classZ) ∧ Below w.heap.size w w' := by
  have H2 := Lib.hid (alloc_at w (.cells classZ 143))
  go_enter Try.func72, Try.ntmps72
  go_wp2_with ((with_reducible refine at_op (.store 143 (.tmp 2) (.tmp 5)) rfl ?_); refine wpList_store_row rfl 143 (.tmp 2) (.tmp 5) rfl w.heap.size rfl classZ rfl 143 _ H2.out (by kernel_rfl) rfl (by simp [classZ, Value.oneCell']) ?_)
  refine bodyPost_ret (results_cell_row rfl _ _ w.heap.size 143 classZ (0, 0) _ rfl (setRow_heap _ _ _ _ _ _ H2.out) Try.underlying143 rfl (by kernel_rfl)) rfl ?_
  exact ⟨rfl, below_setRow ((Below.refl _ _).alloc (Nat.le_refl _) _) (Nat.le_refl _) _⟩
theorem take_nil (x y : Nat) (w : World) : Calls Try.prog 32 #[.pointer none, .float .f64 x, .float .f64 y] w fun e w' => e = .returned (.tuple #[.float .f64 0, .bool false, .int .i64 2]) ∧ w = w' := by
  go_enter Try.func32, Try.ntmps32
  go_wp2
  go_ret3
  exact ⟨rfl, rfl⟩
theorem level_nil (y : Nat) (w : World) : Calls Try.prog 29 #[.pointer none, .float .f64 y] w fun e w' => e = .returned (.tuple #[.float .f64 0, .int .i64 2]) ∧ w = w' := by
  go_enter Try.func29, Try.ntmps29
  go_wp2
  go_ret2
  exact ⟨rfl, rfl⟩

set_option maxRecDepth 100000 in
/-- slices.Clone of integers of 16 bits. -/
theorem clone_any (x : Addr) (n cp : Nat) (L : List Int) (w : World) (hr : RowIn w (some x) n cp (L.map (.int .i16))) (hreach : n * 2 ≤ 140737488351232) :
    Calls Try.prog 128 #[.slice (some x) n cp] w fun e w' => ∃ a m c, e = .returned (.slice a m c) ∧ Below w.heap.size w w' := by
  obtain ⟨i0, hi, hz0, hz1, hz2⟩ := info_parts Try.info129
  rcases hr with ⟨h, _⟩ | ⟨y, hy, hcap, hmax, hlen, hcell⟩
  · cases h
  · cases hy
    have hnil : ∀ w, (binOp .eql 24 (.slice (some x) n cp) (.slice none 0 0)).run Try.prog w = .ok (.bool false) w := fun w => by rfl
    have hbel : Below w.heap.size w (w.alloc (.cells #[] 129)) := (Below.refl _ _).alloc (Nat.le_refl _) _
    go_enter Try.func128, Try.ntmps128
    go_wp2_with (at_builtin; go_must (refine wpList_append_own _ rfl (.tmp 5) (.tmp 6) 24 rfl w.heap.size 129 i0 (.int .i16 0) 1 2 Try.underlying24 hi hz0 hz1 hz2 rfl (by decide) _ _ _ rfl (own_empty _ _ _ _ _ (by simp) (by simp)) x n cp (L.map (.int .i16)) rfl ?c1 ?c2 ?c3 ?c4 ?c5 ?c6 ?_))
    case c1 => simpa using hlen
    case c2 =>
      intro i u hu
      rw [hbel.cell (block_lt (hcell i u hu))]
      exact hcell i u hu
    case c3 => intro u hu; obtain ⟨z, _, rfl⟩ := List.mem_map.1 hu; rfl
    case c4 => omega
    case c5 => omega
    case c6 => simp
    intro v1 w1 hown1 hg1 _
    have hbel1 : Below w.heap.size w w1 := hbel.grown hg1 (by simp) (fun i hi => by simp [Value.ownBlock] at hi; omega)
    go_wp2
    go_ret
    obtain ⟨a', cap', rfl, _⟩ := own_slice hown1
    exact ⟨a', n, cap', rfl, hbel1⟩

/-- The ticks of three waits. -/
theorem ticks_near (w : World) : Calls Try.prog 44 #[.float .f64 4746794007242211328] w fun e w' => e = .returned (.int .i32 2147483647) ∧ w = w' := by
  have h0 : gt0 4746794007242211328 = true := by decide +kernel
  have h1 : geMax 4746794007242211328 = false := by decide +kernel
  have hc := ceil_run 4746794007242211328 (by decide +kernel)
  have hk : floatToIntVal .f64 (ceilF 4746794007242211328) .i32 = some 2147483647 := by decide +kernel
  have hcv : ∀ w, (convert 22 21 (.float .f64 (ceilF 4746794007242211328))).run Try.prog w = .ok (.int .i32 2147483647) w := fun w => run_convert_float_int w 22 21 .f64 .i32 _ _ (by rw [Try.underlying22]; rfl) Try.underlying21 hk
  unfold gt0 at h0
  unfold geMax at h1
  go_enter Try.func44, Try.ntmps44
  go_wp2
  go_ret
  exact ⟨rfl, rfl⟩
end Go.Proofs.Ytmdfkljmgijdlaa
