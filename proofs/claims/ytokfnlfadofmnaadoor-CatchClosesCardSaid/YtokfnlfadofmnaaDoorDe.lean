/- CatchNone's walk. -/
import Derived.Test.YtokfnlfadofmnaaDoorDd
namespace Go.Proofs.YtokfnlfadofmnaaDoor
open Go.RowKit
set_option linter.unusedVariables false

/-- WALK -/theorem walk_mark_d : True := trivial
set_option maxRecDepth 100000 in
set_option maxHeartbeats 4000000 in
theorem none_any (w : World) (htab : Lib.TabIs Tryd.prog w "internal/strconv.uint64pow10" .u64 Lib.pow10Tab) (hw0 : 0 < w.heap.size) :
    Calls Tryd.prog 5 #[] w fun e w' => e = .returned (.bool true) ∧ Below w.heap.size w w' := by
  have HT := Lib.hid htab
  clear htab
  have hm1 := make_65
  have hm2 := make_64
  have hm3 := make_L
  go_enter Tryd.func5, Tryd.ntmps5
  go_wp2_with fail
  refine (new_any _).mono ?_
  rintro e w1 ⟨rfl, rfl⟩
  go_wp2_with fail
  refine (check_nilbook _ _).mono ?_
  rintro e w2 ⟨rfl, rfl⟩
  go_wp2_with fail
  refine (run_nilbook_lit _).mono ?_
  rintro e w3 ⟨rfl, hb3⟩
  go_wp2_with fail
  refine (check_none _ _).mono ?_
  rintro e w4 ⟨rfl, he4⟩
  have hB4 : Below w.heap.size w w4 := by rw [← he4]; exact ((Below.refl _ w).alloc (Nat.le_refl _) _).trans ((hb3.mono (by simp)).alloc (by have := hb3.size; simp at this; omega) _)
  clear he4 hb3
  go_wp2_with fail
  refine (check_65 _ _).mono ?_
  rintro e w5 ⟨rfl, he5⟩
  have hB5 : Below w.heap.size w w5 := by rw [← he5]; exact hB4.alloc hB4.size _
  clear he5 hB4
  go_wp2_with fail
  refine (check_64 _ _).mono ?_
  rintro e w6 ⟨rfl, hb6⟩
  have hB6 : Below w.heap.size w w6 := (hB5.alloc hB5.size _).trans (hb6.mono (by have := hB5.size; simp; omega))
  clear hb6 hB5
  go_wp2_with fail
  go_loopw [17] (fun i W => ∃ k : Nat, k ≤ 10001 ∧ i = .int .i64 k ∧ (∃ cur, W.heap[w6.heap.size]? = some (.cells cur 27 (0, 0)) ∧ cur.toList = sc (fillL k)) ∧ Below w.heap.size w W) (fun i _ => 10001 - (intOf i).toNat)
  case atStart => exact ⟨0, Nat.zero_le _, rfl, ⟨zL, alloc_at _ _, zL_list⟩, hB6.alloc hB6.size _⟩
  case round =>
    obtain ⟨k, hk, rfl, ⟨cur, hcur, hl⟩, hBr⟩ := hrel
    by_cases hlt : k < 10001
    · have kc := fill_cell hcur hl hlt
      have kf : ∀ i, wr.frozen? ⟨w6.heap.size, i, none⟩ = false := fun i => frozen_of_block hcur i
      have hs := fill_set hcur hl hlt
      go_wp2_with fail
      go_roundw
      case rel => exact ⟨k + 1, by omega, by go_num, hs, hBr.setCell hB6.size _⟩
      case measure => simp [intOf]; omega
    · obtain rfl : k = 10001 := by omega
      have hfill : FillAt wr w6.heap.size := ⟨cur, hcur, by rw [hl]; unfold fillL; rw [Nat.sub_self, List.replicate_zero, List.append_nil]⟩
      have hb16 : w.heap.size ≤ w6.heap.size := hB6.size
      clear hl hcur hB6
      go_wp2_with fail
      refine (check_L _ hfill).mono ?_
      rintro e w7 ⟨rfl, he7⟩
      have hB7 : Below w.heap.size w w7 := by rw [← he7]; exact hBr.alloc hBr.size _
      have hF7 : FillAt w7 w6.heap.size := by rw [← he7]; exact hfill.below ((Below.refl wr.heap.size _).alloc (Nat.le_refl _) _) hfill.lt
      clear he7 hBr hfill
      go_wp2_with fail
      refine (run_L _ hF7 (tab_keep HT.out (hB7.block 0 hw0)) (Nat.lt_of_lt_of_le hw0 hB7.size)).mono ?_
      rintro e w8 ⟨oa8, cp8, rfl, hb8⟩
      have hB8 : Below w.heap.size w w8 := hB7.trans (hb8.mono hB7.size)
      clear hB7 hF7 hb8
      clear hlt hk
      go_wp2_with fail
      obtain ⟨W8, hW8⟩ : ∃ W, W = w8.alloc (.cells #[.int .u8 1, .int .i16 0, .int .i64 0, .int .i64 0, .string ⟨#[]⟩, .int .i64 0, .slice oa8 10000 cp8, .int .i64 10000] 32) := ⟨_, rfl⟩
      have hX8 : Below w.heap.size w W8 := by rw [hW8]; exact hB8.alloc hB8.size _
      have hR8 : W8.heap[w8.heap.size]? = some (.cells #[.int .u8 1, .int .i16 0, .int .i64 0, .int .i64 0, .string ⟨#[]⟩, .int .i64 0, .slice oa8 10000 cp8, .int .i64 10000] 32 (0, 0)) := by rw [hW8]; exact alloc_at _ _
      rw [← hW8]
      have hs8 : w8.heap.size + 1 = W8.heap.size := by rw [hW8]; simp
      clear hW8 hB8
      refine (run_jump _ hs8 (tab_keep HT.out (hX8.block 0 hw0)) (Nat.lt_of_lt_of_le hw0 hX8.size)).mono ?_
      rintro e w9 ⟨oa9, cp9, rfl, hb9⟩
      go_wp2_with fail
      obtain ⟨W9, hW9⟩ : ∃ W, W = w9.alloc (.cells #[.int .u8 3, .int .i16 0, .int .i64 0, .int .i64 0, .string ⟨#[]⟩, .int .i64 0, .slice oa9 0 cp9, .int .i64 10000] 32) := ⟨_, rfl⟩
      have hX9 : Below w.heap.size w W9 := by rw [hW9]; exact (hX8.trans (hb9.mono hX8.size)).alloc (Nat.le_trans hX8.size hb9.size) _
      have hR9 : W9.heap[w9.heap.size]? = some (.cells #[.int .u8 3, .int .i16 0, .int .i64 0, .int .i64 0, .string ⟨#[]⟩, .int .i64 0, .slice oa9 0 cp9, .int .i64 10000] 32 (0, 0)) := by rw [hW9]; exact alloc_at _ _
      have hs9 : w9.heap.size + 1 = W9.heap.size := by rw [hW9]; simp
      replace hR8 := row_keep (o := .cells #[.int .u8 3, .int .i16 0, .int .i64 0, .int .i64 0, .string ⟨#[]⟩, .int .i64 0, .slice oa9 0 cp9, .int .i64 10000] 32) hR8 hb9
      rw [← hW9] at hR8
      rw [← hW9]
      clear hW9 hb9 hX8
      refine (run_call _ hs9 (tab_keep HT.out (hX9.block 0 hw0)) (Nat.lt_of_lt_of_le hw0 hX9.size)).mono ?_
      rintro e w10 ⟨oa10, cp10, rfl, hb10⟩
      go_wp2_with fail
      obtain ⟨W10, hW10⟩ : ∃ W, W = w10.alloc (.cells #[.int .u8 2, .int .i16 0, .int .i64 0, .int .i64 2, .string ⟨#[]⟩, .int .i64 0, .slice oa10 0 cp10, .int .i64 64] 32) := ⟨_, rfl⟩
      have hX10 : Below w.heap.size w W10 := by rw [hW10]; exact (hX9.trans (hb10.mono hX9.size)).alloc (Nat.le_trans hX9.size hb10.size) _
      have hR10 : W10.heap[w10.heap.size]? = some (.cells #[.int .u8 2, .int .i16 0, .int .i64 0, .int .i64 2, .string ⟨#[]⟩, .int .i64 0, .slice oa10 0 cp10, .int .i64 64] 32 (0, 0)) := by rw [hW10]; exact alloc_at _ _
      have hs10 : w10.heap.size + 1 = W10.heap.size := by rw [hW10]; simp
      replace hR8 := row_keep (o := .cells #[.int .u8 2, .int .i16 0, .int .i64 0, .int .i64 2, .string ⟨#[]⟩, .int .i64 0, .slice oa10 0 cp10, .int .i64 64] 32) hR8 hb10
      replace hR9 := row_keep (o := .cells #[.int .u8 2, .int .i16 0, .int .i64 0, .int .i64 2, .string ⟨#[]⟩, .int .i64 0, .slice oa10 0 cp10, .int .i64 64] 32) hR9 hb10
      rw [← hW10] at hR8 hR9
      rw [← hW10]
      clear hW10 hb10 hX9
      refine (run_def _ hs10 (tab_keep HT.out (hX10.block 0 hw0)) (Nat.lt_of_lt_of_le hw0 hX10.size)).mono ?_
      rintro e w11 ⟨oa11, cp11, rfl, hb11⟩
      go_wp2_with fail
      obtain ⟨W11, hW11⟩ : ∃ W, W = w11.alloc (.cells #[.int .u8 3, .int .i16 0, .int .i64 0, .int .i64 0, .string ⟨#[]⟩, .int .i64 0, .slice oa11 0 cp11, .int .i64 10000] 32) := ⟨_, rfl⟩
      have hX11 : Below w.heap.size w W11 := by rw [hW11]; exact (hX10.trans (hb11.mono hX10.size)).alloc (Nat.le_trans hX10.size hb11.size) _
      have hR11 : W11.heap[w11.heap.size]? = some (.cells #[.int .u8 3, .int .i16 0, .int .i64 0, .int .i64 0, .string ⟨#[]⟩, .int .i64 0, .slice oa11 0 cp11, .int .i64 10000] 32 (0, 0)) := by rw [hW11]; exact alloc_at _ _
      have hs11 : w11.heap.size + 1 = W11.heap.size := by rw [hW11]; simp
      replace hR8 := row_keep (o := .cells #[.int .u8 3, .int .i16 0, .int .i64 0, .int .i64 0, .string ⟨#[]⟩, .int .i64 0, .slice oa11 0 cp11, .int .i64 10000] 32) hR8 hb11
      replace hR9 := row_keep (o := .cells #[.int .u8 3, .int .i16 0, .int .i64 0, .int .i64 0, .string ⟨#[]⟩, .int .i64 0, .slice oa11 0 cp11, .int .i64 10000] 32) hR9 hb11
      replace hR10 := row_keep (o := .cells #[.int .u8 3, .int .i16 0, .int .i64 0, .int .i64 0, .string ⟨#[]⟩, .int .i64 0, .slice oa11 0 cp11, .int .i64 10000] 32) hR10 hb11
      rw [← hW11] at hR8 hR9 hR10
      rw [← hW11]
      clear hW11 hb11 hX10
      refine (closing_lit _).mono ?_
      rintro e w12 ⟨rfl, hb12⟩
      have hX12 : Below w.heap.size w w12 := hX11.trans (hb12.mono hX11.size)
      obtain ⟨hY8, hn8, hl8⟩ := row_keep0 hR8 hb12
      have k8_0 : w12.cell? ⟨w8.heap.size, 0, none⟩ = some (.int .u8 1) := by rw [cell_of_block hY8]; rfl
      have k8_6 : w12.cell? ⟨w8.heap.size, 6, none⟩ = some (.slice oa8 10000 cp8) := by rw [cell_of_block hY8]; rfl
      have k8_7 : w12.cell? ⟨w8.heap.size, 7, none⟩ = some (.int .i64 10000) := by rw [cell_of_block hY8]; rfl
      obtain ⟨hY9, hn9, hl9⟩ := row_keep0 hR9 hb12
      have k9_0 : w12.cell? ⟨w9.heap.size, 0, none⟩ = some (.int .u8 3) := by rw [cell_of_block hY9]; rfl
      have k9_7 : w12.cell? ⟨w9.heap.size, 7, none⟩ = some (.int .i64 10000) := by rw [cell_of_block hY9]; rfl
      obtain ⟨hY10, hn10, hl10⟩ := row_keep0 hR10 hb12
      have k10_0 : w12.cell? ⟨w10.heap.size, 0, none⟩ = some (.int .u8 2) := by rw [cell_of_block hY10]; rfl
      have k10_3 : w12.cell? ⟨w10.heap.size, 3, none⟩ = some (.int .i64 2) := by rw [cell_of_block hY10]; rfl
      have k10_4 : w12.cell? ⟨w10.heap.size, 4, none⟩ = some (.string ⟨#[]⟩) := by rw [cell_of_block hY10]; rfl
      have k10_5 : w12.cell? ⟨w10.heap.size, 5, none⟩ = some (.int .i64 0) := by rw [cell_of_block hY10]; rfl
      have k10_7 : w12.cell? ⟨w10.heap.size, 7, none⟩ = some (.int .i64 64) := by rw [cell_of_block hY10]; rfl
      obtain ⟨hY11, hn11, hl11⟩ := row_keep0 hR11 hb12
      have k11_0 : w12.cell? ⟨w11.heap.size, 0, none⟩ = some (.int .u8 3) := by rw [cell_of_block hY11]; rfl
      have k11_7 : w12.cell? ⟨w11.heap.size, 7, none⟩ = some (.int .i64 10000) := by rw [cell_of_block hY11]; rfl
      clear hR8 hR9 hR10 hR11 hY8 hY9 hY10 hY11 hb12 hX11 hm1 hm2 hm3 hs8 hs9 hs10 hs11 hb16
      have hq1 : ∀ w, (binOp .neq 29 (.agg #[.int .i64 0, .string ⟨#[]⟩, .int .i64 0]) (.agg #[.int .i64 0, .string ⟨#[]⟩, .int .i64 0])).run Tryd.prog w = .ok (.bool false) w := fun w => by kernel_rfl
      have hq2 : ∀ w, (binOp .eql 29 (.agg #[.int .i64 2, .string ⟨#[]⟩, .int .i64 0]) (.agg #[.int .i64 2, .string ⟨#[]⟩, .int .i64 0])).run Tryd.prog w = .ok (.bool true) w := fun w => by kernel_rfl
      go_wp2_with fail
      go_ret
      exact ⟨rfl, hX12.alloc hX12.size _⟩
end Go.Proofs.YtokfnlfadofmnaaDoor
