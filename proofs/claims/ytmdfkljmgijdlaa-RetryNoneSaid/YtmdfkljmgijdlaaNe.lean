/- RetryNone's walk. -/
import Derived.Test.YtmdfkljmgijdlaaNd
namespace Go.Proofs.Ytmdfkljmgijdlaa
open Go.RowKit
set_option linter.unusedVariables false

set_option maxRecDepth 100000 in
set_option maxHeartbeats 4000000 in
theorem none_walk (w : World) : Calls Try.prog 13 #[] w fun e w' => e = .returned (.bool true) ∧ Below w.heap.size w w' := by
  have m65 : ∀ w : World, (Instr.makeSlice 24 (.int .i64 65) (.int .i64 65)).run Try.prog w = .ok (.slice (some ⟨w.heap.size, 0, none⟩) 65 65) (w.alloc (.cells (madeCells #[.int .i16 0] 65) 129)) := make16 65 (by omega)
  have m64 : ∀ w : World, (Instr.makeSlice 24 (.int .i64 64) (.int .i64 64)).run Try.prog w = .ok (.slice (some ⟨w.heap.size, 0, none⟩) 64 64) (w.alloc (.cells (madeCells #[.int .i16 0] 64) 129)) := make16 64 (by omega)
  go_enter Try.func13, Try.ntmps13
  go_wp2_with fail
  refine (new_book _).mono ?_
  rintro e w1 ⟨rfl, hw1⟩
  have hbk : w1.cell? ⟨w.heap.size, 0, none⟩ = some (.slice none 0 0) := by rw [hw1]; exact cell_of_block (alloc_at _ _) 0
  have b1 : Below w.heap.size w w1 := by rw [hw1]; exact (Below.refl _ _).alloc (Nat.le_refl _) _
  have s1 : w.heap.size < w1.heap.size := by rw [hw1]; simp
  clear hw1
  go_wp2_with fail
  refine (classify_of none 9 2 2 _ 65 65 _ (fun w _ => berr_of none 9 2 w (at_nil 9 w)) (.inl ⟨rfl, rfl⟩)).mono ?_
  rintro e w2 ⟨rfl, c2⟩
  have b2 : Below w1.heap.size w1 w2 := ((Below.refl _ _).alloc (Nat.le_refl _) _).trans (c2.mono (by simp))
  have hbk2 : w2.cell? ⟨w.heap.size, 0, none⟩ = some (.slice none 0 0) := by rw [b2.cell s1]; exact hbk
  clear c2
  go_wp2_with ((with_reducible refine at_op (.store 143 (.tmp 4) (.tmp 34)) rfl ?_); refine wpList_store_new rfl 143 (.tmp 4) (.tmp 34) rfl w2.heap.size rfl 143 _ rfl classZ rfl (by kernel_rfl) rfl (by simp [classZ, Value.oneCell']) ?_)
  have b2' : Below w.heap.size w w2 := b1.trans (b2.mono b1.size)
  have s2 : w.heap.size < w2.heap.size := by have := b2.size; omega
  refine (classify_of (some ⟨w.heap.size, 0, none⟩) 9 50 50 _ 65 65 _ (fun w' hb => berr_of _ 9 50 w' (at_nine _ w' (by rw [hb.cell (by simp; omega), Below.cell (B := w2.heap.size) (w := w2) (((Below.refl _ _).alloc (Nat.le_refl _) _).alloc (by simp) _) (by simpa using s2)]; exact hbk2))) (.inr (.inl ⟨rfl, rfl⟩))).mono ?_
  rintro e w3 ⟨rfl, c3⟩
  have b3 : Below w.heap.size w w3 := ((b2'.alloc b2'.size _).alloc (by simp; omega) _).trans (c3.mono (by simp; omega))
  clear c3 b2 b2' hbk hbk2 b1 s1 s2
  go_wp2_with ((with_reducible refine at_op (.store 143 (.tmp 6) (.tmp 40)) rfl ?_); refine wpList_store_new rfl 143 (.tmp 6) (.tmp 40) rfl w3.heap.size rfl 143 _ rfl classZ rfl (by kernel_rfl) rfl (by simp [classZ, Value.oneCell']) ?_)
  refine (classify_of (some ⟨w.heap.size, 0, none⟩) 0 0 1 none 0 0 _ (fun w' hb => berr_of _ 0 0 w' (at_zero _ w')) (.inr (.inr ⟨rfl, rfl⟩))).mono ?_
  rintro e w4 ⟨rfl, c4⟩
  have b4 : Below w.heap.size w w4 := (b3.alloc b3.size _).trans (c4.mono (by have := b3.size; simp; omega))
  have b5 : Below w.heap.size w (w4.alloc (.cells classZ 143)) := b4.alloc b4.size _
  clear c4 b3
  go_wp2_with ((with_reducible refine at_op (.store 143 (.tmp 8) (.tmp 45)) rfl ?_); refine wpList_store_new rfl 143 (.tmp 8) (.tmp 45) rfl w4.heap.size rfl 143 _ rfl classZ rfl (by kernel_rfl) rfl (by simp [classZ, Value.oneCell']) ?_)
  refine (failed_nil _ _ _ _).mono ?_
  rintro e w5 ⟨rfl, rfl⟩
  go_wp2_with fail
  refine (take_nil _ _ _).mono ?_
  rintro e w5 ⟨rfl, rfl⟩
  go_wp2_with fail
  refine (level_nil _ _).mono ?_
  rintro e w5 ⟨rfl, rfl⟩
  generalize w4.alloc (.cells classZ 143) = w5 at *
  go_wp2_with fail
  refine (done_nil _).mono ?_
  rintro e w6 ⟨rfl, rfl⟩
  go_wp2_with fail
  refine (end_nil _).mono ?_
  rintro e w6 ⟨rfl, rfl⟩
  go_wp2_with fail
  refine (tries_nil _).mono ?_
  rintro e w6 ⟨rfl, rfl⟩
  go_wp2_with fail
  refine (last_nil _).mono ?_
  rintro e w6 ⟨rfl, c6⟩
  have b6 : Below w.heap.size w w6 := b5.trans (c6.mono b5.size)
  clear c6 b5 b4
  obtain ⟨w7, hw7⟩ : ∃ w7, w7 = (w6.alloc (.cells (madeCells #[.int .i16 0] 64) 129)).alloc (.cells #[.int .i64 100, .float .f64 0, .float .f64 0, .float .f64 0, .float .f64 0, .float .f64 0, .int .u64 0, .slice (some ⟨w6.heap.size, 0, none⟩) 64 64] 27) := ⟨_, rfl⟩
  have b7 : Below w.heap.size w w7 := by rw [hw7]; exact (b6.alloc b6.size _).alloc (by have := b6.size; simp; omega) _
  have h7 : w7.heap[w6.heap.size + 1]? = some (.cells #[.int .i64 100, .float .f64 0, .float .f64 0, .float .f64 0, .float .f64 0, .float .f64 0, .int .u64 0, .slice (some ⟨w6.heap.size, 0, none⟩) 64 64] 27 (0, 0)) := by rw [hw7]; exact alloc_at' _ _ _ (by simp)
  have hr7 : RowIn w7 (some ⟨w6.heap.size, 0, none⟩) 64 64 ((List.replicate 64 (0 : Int)).map (.int .i16)) := by
    refine .inr ⟨_, rfl, by omega, by decide, by simp, fun i u hu => ?_⟩
    have hb : w7.heap[w6.heap.size]? = some (.cells (madeCells #[.int .i16 0] 64) 129 (0, 0)) := by rw [hw7, alloc_old _ _ _ (by simp)]; exact alloc_at _ _
    rw [Go.WideShapes.add_plain, Nat.zero_add, cell_of_block hb i, ← Array.getElem?_toList, toList_madeCells_one]
    simpa using hu
  have s7 : w7.heap.size = w6.heap.size + 2 := by rw [hw7]; simp
  have H7 := Lib.hid h7
  have HW := Lib.hid hw7
  clear h7 hw7
  unfold classZ
  go_wp2_with (first | ((with_reducible refine at_op (.store 27 (.tmp 18) (.tmp 114)) rfl ?_); refine wpList_store_new rfl 27 (.tmp 18) (.tmp 114) rfl (w6.heap.size + 1) (by simp) 27 _ rfl #[.int .i64 100, .float .f64 0, .float .f64 0, .float .f64 0, .float .f64 0, .float .f64 0, .int .u64 0, .slice (some ⟨w6.heap.size, 0, none⟩) 64 64] rfl (by kernel_rfl) rfl (by simp [Value.oneCell']) ?_; rw [← HW.out]) | ((with_reducible refine at_op (.load 27 (.tmp 18)) rfl ?_); refine wpList_load_row rfl 27 (.tmp 18) rfl (w6.heap.size + 1) rfl 27 _ (0, 0) _ H7.out Try.underlying27 rfl (by kernel_rfl) ?_))
  refine (start_any _ _ _ hr7).mono ?_
  rintro e w8 ⟨b, a', m', c', v', rfl, hrun, hbb, c8⟩
  have b8 : Below w.heap.size w w8 := b7.trans (c8.mono b7.size)
  have h8 : w8.heap[w6.heap.size + 1]? = some (.cells #[.int .i64 100, .float .f64 0, .float .f64 0, .float .f64 0, .float .f64 0, .float .f64 0, .int .u64 0, .slice (some ⟨w6.heap.size, 0, none⟩) 64 64] 27 (0, 0)) := by rw [c8.block _ (by omega)]; exact H7.out
  have q8 : w8.cell? ⟨w6.heap.size + 1, 0, none⟩ = some (.int .i64 100) := cell_of_block h8 0
  have z8 := frozen_of_block h8 0
  have hne : b ≠ w6.heap.size + 1 := by omega
  have s6 := b6.size
  obtain ⟨w9, hw9⟩ : ∃ w9, w9 = w8.setCell ⟨w6.heap.size + 1, 0, none⟩ (.int .i64 101) := ⟨_, rfl⟩
  have h9 : w9.heap[w6.heap.size + 1]? = some (.cells #[.int .i64 101, .float .f64 0, .float .f64 0, .float .f64 0, .float .f64 0, .float .f64 0, .int .u64 0, .slice (some ⟨w6.heap.size, 0, none⟩) 64 64] 27 (0, 0)) := by rw [hw9]; exact heap_setCell_same w8 _ 0 _ _ _ h8
  have r9 : w9.heap[b]? = some (.cells (runV (.slice a' m' c') v' 0) 243 (0, 0)) := by rw [hw9, Below.heap_setCell _ _ _ _ hne]; exact hrun
  have b9 : Below w.heap.size w w9 := by rw [hw9]; exact b8.setCell (p := ⟨w6.heap.size + 1, 0, none⟩) (by simp; omega) _
  have H9 := Lib.hid h9
  have HW9 := Lib.hid hw9
  clear h8 hw9 h9 b8 c8 hr7
  go_wp2_with (first | ((with_reducible refine at_op (.store 3 (.tmp 120) (.const (.int .i64 101))) rfl ?_); refine wpList_store_cell rfl 3 (.tmp 120) _ rfl ⟨w6.heap.size + 1, 0, none⟩ _ (.int .i64 101) rfl rfl (by kernel_rfl) rfl rfl q8 z8 ?_; rw [← HW9.out]) | ((with_reducible refine at_op (.load 27 (.tmp 18)) rfl ?_); refine wpList_load_row rfl 27 (.tmp 18) rfl (w6.heap.size + 1) rfl 27 _ (0, 0) _ H9.out Try.underlying27 rfl (by kernel_rfl) ?_))
  have hE1 : planE 101 0 0 0 0 0 64 = 240 := by decide +kernel
  refine (check_val _ _ _ _ _ _ _ _ _ _ _ 240 hE1).mono ?_
  rintro e w10 ⟨rfl, c10⟩
  have l9 : w6.heap.size + 1 < w9.heap.size := block_lt (cell_of_block H9.out 0)
  have lb9 : b < w9.heap.size := block_lt (cell_of_block r9 0)
  have h10 : w10.heap[w6.heap.size + 1]? = some (.cells #[.int .i64 101, .float .f64 0, .float .f64 0, .float .f64 0, .float .f64 0, .float .f64 0, .int .u64 0, .slice (some ⟨w6.heap.size, 0, none⟩) 64 64] 27 (0, 0)) := by rw [c10.block _ l9]; exact H9.out
  have r10 : w10.heap[b]? = some (.cells (runV (.slice a' m' c') v' 0) 243 (0, 0)) := by rw [c10.block _ lb9]; exact r9
  have b10 : Below w.heap.size w w10 := b9.trans (c10.mono b9.size)
  have q10 : w10.cell? ⟨w6.heap.size + 1, 0, none⟩ = some (.int .i64 101) := cell_of_block h10 0
  have z10 := frozen_of_block h10 0
  obtain ⟨w11, hw11⟩ : ∃ w11, w11 = w10.setCell ⟨w6.heap.size + 1, 0, none⟩ (.int .i64 1) := ⟨_, rfl⟩
  have h11 : w11.heap[w6.heap.size + 1]? = some (.cells #[.int .i64 1, .float .f64 0, .float .f64 0, .float .f64 0, .float .f64 0, .float .f64 0, .int .u64 0, .slice (some ⟨w6.heap.size, 0, none⟩) 64 64] 27 (0, 0)) := by rw [hw11]; exact heap_setCell_same w10 _ 0 _ _ _ h10
  have r11 : w11.heap[b]? = some (.cells (runV (.slice a' m' c') v' 0) 243 (0, 0)) := by rw [hw11, Below.heap_setCell _ _ _ _ hne]; exact r10
  have b11 : Below w.heap.size w w11 := by rw [hw11]; exact b10.setCell (p := ⟨w6.heap.size + 1, 0, none⟩) (by simp; omega) _
  have l11 : w6.heap.size + 1 < w11.heap.size := block_lt (cell_of_block h11 0)
  have lb11 : b < w11.heap.size := block_lt (cell_of_block r11 0)
  have hA : (w11.alloc (.cells (madeCells #[.int .i16 0] 65) 129)).heap[w6.heap.size + 1]? = some (.cells #[.int .i64 1, .float .f64 0, .float .f64 0, .float .f64 0, .float .f64 0, .float .f64 0, .int .u64 0, .slice (some ⟨w6.heap.size, 0, none⟩) 64 64] 27 (0, 0)) := by rw [alloc_old _ _ _ l11]; exact h11
  have q11 : (w11.alloc (.cells (madeCells #[.int .i16 0] 65) 129)).cell? ⟨w6.heap.size + 1, 7, none⟩ = some (.slice (some ⟨w6.heap.size, 0, none⟩) 64 64) := cell_of_block hA 7
  have z11 := frozen_of_block hA 7
  obtain ⟨w12, hw12⟩ : ∃ w12, w12 = (w11.alloc (.cells (madeCells #[.int .i16 0] 65) 129)).setCell ⟨w6.heap.size + 1, 7, none⟩ (.slice (some ⟨w11.heap.size, 0, none⟩) 65 65) := ⟨_, rfl⟩
  have h12 : w12.heap[w6.heap.size + 1]? = some (.cells #[.int .i64 1, .float .f64 0, .float .f64 0, .float .f64 0, .float .f64 0, .float .f64 0, .int .u64 0, .slice (some ⟨w11.heap.size, 0, none⟩) 65 65] 27 (0, 0)) := by rw [hw12]; exact heap_setCell_same _ _ 7 _ _ _ hA
  have r12 : w12.heap[b]? = some (.cells (runV (.slice a' m' c') v' 0) 243 (0, 0)) := by rw [hw12, Below.heap_setCell _ _ _ _ hne, alloc_old _ _ _ lb11]; exact r11
  have b12 : Below w.heap.size w w12 := by rw [hw12]; exact (b11.alloc b11.size _).setCell (p := ⟨w6.heap.size + 1, 7, none⟩) (by simp; omega) _
  have H12 := Lib.hid h12
  have HW11 := Lib.hid hw11
  have HW12 := Lib.hid hw12
  have R12 := Lib.hid r12
  clear hE1 c10 l9 lb9 h10 r10 b10 hw11 h11 r11 b11 hA hw12 h12 r12 HW HW9 H7 H9 r9 b9 q8 z8 b7 hrun
  go_wp2_with (first | ((with_reducible refine at_op (.store 3 (.tmp 123) (.const (.int .i64 1))) rfl ?_); refine wpList_store_cell rfl 3 (.tmp 123) _ rfl ⟨w6.heap.size + 1, 0, none⟩ _ (.int .i64 1) rfl rfl (by kernel_rfl) rfl rfl q10 z10 ?_; rw [← HW11.out]) | ((with_reducible refine at_op (.store 24 (.tmp 125) (.tmp 124)) rfl ?_); refine wpList_store_cell rfl 24 (.tmp 125) _ rfl ⟨w6.heap.size + 1, 7, none⟩ _ (.slice (some ⟨w11.heap.size, 0, none⟩) 65 65) rfl rfl (by kernel_rfl) rfl rfl q11 z11 ?_; rw [← HW12.out]) | ((with_reducible refine at_op (.load 27 (.tmp 18)) rfl ?_); refine wpList_load_row rfl 27 (.tmp 18) rfl (w6.heap.size + 1) rfl 27 _ (0, 0) _ H12.out Try.underlying27 rfl (by kernel_rfl) ?_))
  have hE2 : planE 1 0 0 0 0 0 65 = 240 := by decide +kernel
  refine (check_val _ _ _ _ _ _ _ _ _ _ _ 240 hE2).mono ?_
  rintro e w13 ⟨rfl, c13⟩
  have r13 : w13.heap[b]? = some (.cells (runV (.slice a' m' c') v' 0) 243 (0, 0)) := by rw [c13.block _ (block_lt (cell_of_block R12.out 0))]; exact R12.out
  have b13 : Below w.heap.size w w13 := b12.trans (c13.mono b12.size)
  clear c13 b12 R12 H12 HW12 HW11 q10 z10 q11 z11 hE2
  go_wp2_with fail
  refine (failed_run b a' m' c' v' w13 r13).mono ?_
  rintro e w14 ⟨rfl, c14⟩
  have r14 : w14.heap[b]? = some (.cells (runV (.slice a' m' c') v' 0) 243 (0, 0)) := by rw [c14.block _ (block_lt (cell_of_block r13 0))]; exact r13
  have b14 : Below w.heap.size w w14 := b13.trans (c14.mono b13.size)
  clear c14 r13 b13
  go_wp2_with fail
  refine (done_run b _ v' w14 r14).mono ?_
  rintro e w15 ⟨rfl, r15, hw15⟩
  have b15 : Below w.heap.size w w15 := by rw [hw15]; exact b14.setCell (p := ⟨b, 11, none⟩) (by simp; omega) _
  clear hw15 r14 b14
  go_wp2_with fail
  refine (failed_end b _ v' w15 r15).mono ?_
  rintro e w16 ⟨rfl, rfl⟩
  go_wp2_with fail
  refine (end_run b _ v' w15 r15).mono ?_
  rintro e w16 ⟨rfl, rfl⟩
  go_wp2_with fail
  refine (ticks_near _).mono ?_
  rintro e w16 ⟨rfl, rfl⟩
  go_wp2_with fail
  refine (ticks_far _).mono ?_
  rintro e w16 ⟨rfl, rfl⟩
  go_wp2_with fail
  refine (ticks_least _).mono ?_
  rintro e w16 ⟨rfl, rfl⟩
  go_wp2
  go_ret
  exact ⟨rfl, b15⟩
end Go.Proofs.Ytmdfkljmgijdlaa
