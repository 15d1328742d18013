/- grasp.walked of a kind that holds others (16). -/
import Derived.Test.YtfmnbhhpimpjbaaGreatDoorGf
namespace Go.Proofs.YtfmnbhhpimpjbaaGreatDoor
open Go.RowKit
set_option linter.unusedVariables false

set_option maxRecDepth 100000 in
set_option maxHeartbeats 8000000 in
theorem walked_16 {D : Nat → Prop} {base bb : Nat} {v : Value} {rows : List BRow} (h : Int) (w : World) (hB : BookIn D w base bb v rows) (hin : 1 ≤ h ∧ h ≤ rows.length) (hk : (rowAt rows h).sp.kind = 16) (hnil : (rowAt rows h).sp.nil = false) :
    Calls Tryz.prog 63 #[.pointer (some ⟨bb, 0, none⟩), .int .i64 h] w (HandsPost (keepF (rowAt rows h).sp.parts) w) := by
  have HS := Lib.hid (spec_any h w hB)
  have hpl := (row_facts hB h).2.1
  obtain ⟨s, hs⟩ : ∃ s, s = (rowAt rows h).sp := ⟨_, rfl⟩
  rw [← hs] at HS hpl hk hnil ⊢
  have hE0 : madeE rows.length h = 0 := by unfold madeE; rw [if_pos hin]
  rw [hE0] at HS
  clear hB hs hE0 hin
  obtain ⟨kind, nil, text, number, small, re, im, flag, mask, items, parts⟩ := s
  unfold spC at HS
  dsimp only at HS hpl hk hnil ⊢
  subst hk hnil
  go_enter Tryz.func63, Tryz.ntmps63
  go_wp2_with fail
  refine HS.out.mono ?_
  rintro e w2 ⟨ia, ic, pa, pc, rfl, n1, n2, d1, d2, b2⟩
  have B2 := Lib.hid b2
  have D2 := Lib.hid d2
  have HW3 := Lib.hid (alloc_at w2 (.cells #[.int .u8 16, .bool false, .string text, .int .i16 number, .int .i8 small, .float .f64 re, .float .f64 im, .bool flag, .int .u32 mask, .slice ia items.length ic, .slice pa parts.length pc] 34))
  have hcell := fun i => cell_of_block HW3.out i
  have HB3 := Lib.hid (b2.alloc b2.size (.cells #[.int .u8 16, .bool false, .string text, .int .i16 number, .int .i8 small, .float .f64 re, .float .f64 im, .bool flag, .int .u32 mask, .slice ia items.length ic, .slice pa parts.length pc] 34))
  clear b2 d1 d2 n1 HS
  have hp64 : parts.length ≤ 64 := hpl
  have hbs2 := HB3.out.size
  have HIN2 := Lib.hid (show ∀ x, Below w2.heap.size w2 x → PartsIn x pa parts from fun x hx => D2.out.in.below hx)
  obtain ⟨ii, hi0, hi1, hi2, hi3⟩ := info_parts info_int'
  go_wp2_with ((with_reducible refine at_op (.store 34 (.tmp 5) (.tmp 14)) rfl ?_); refine wpList_store_new rfl 34 (.tmp 5) (.tmp 14) rfl w2.heap.size rfl _ _ rfl _ rfl (by kernel_rfl) rfl (by simp [Value.oneCell']) ?_)
  go_loopw [7, 51] (fun v i x => ∃ k : Nat, i = .int .i64 k ∧ k ≤ parts.length ∧ x.ownsRow (w2.heap.size + 1) 3 1 v (keepF (parts.take k)).length ((keepF (parts.take k)).map (Value.int .i64)) ∧ Below w2.heap.size w2 x ∧ w2.heap.size + 1 ≤ x.heap.size) (fun _ i _ => parts.length - (intOf i).toNat)
  case atStart => exact ⟨0, rfl, by omega, ⟨rfl, .inl ⟨rfl, rfl⟩⟩, (Below.refl _ _).alloc (Nat.le_refl _) _, by simp⟩
  case round =>
    obtain ⟨k, rfl, hk, hown, hb, hsz⟩ := hrel
    by_cases hlt : k < parts.length
    · obtain ⟨p, rfl, hq⟩ := (HIN2.out _ hb) (by omega)
      have ck := hq k hlt
      obtain ⟨y, hy⟩ : ∃ y, y = parts.getD k 0 := ⟨_, rfl⟩
      rw [← hy] at ck
      have i1 : (k : Int) < (parts.length : Int) := by omega
      have hl3 : (keepF (parts.take k)).length ≤ k := Nat.le_trans (keepF_len _) (by rw [List.length_take]; omega)
      have HFT := Lib.hid (filter_take parts k hlt)
      by_cases h0 : y = 0
      · have HE := Lib.hid (show keepF (parts.take (k + 1)) = keepF (parts.take k) by rw [HFT.out, if_pos (by rw [← hy]; exact h0), List.append_nil])
        have k0 : (y != 0) = false := by simpa using h0
        have HO := Lib.hid hown
        clear hq hy hown h0
        go_wp2
        go_roundw
        case rel => exact ⟨k + 1, by go_num, by omega, by rw [HE.out]; exact HO.out, hb, hsz⟩
        case measure => simp [intOf]; omega
      · have HE := Lib.hid (show keepF (parts.take (k + 1)) = keepF (parts.take k) ++ [y] by rw [HFT.out, if_neg (by rw [← hy]; exact h0), ← hy])
        have k0 : (y != 0) = true := by simpa using h0
        clear hq hy h0
        go_wp2_with (at_builtin; refine wpList_append_own _ rfl (.tmp 57) (.tmp 59) 27 rfl (w2.heap.size + 1) 3 ii (.int .i64 0) 1 8 Tryz.underlying27 hi0 hi1 hi2 hi3 rfl (by decide) _ _ _ rfl (hown.alloc _) ⟨wr.heap.size, 0, none⟩ 1 1 [.int .i64 y] rfl rfl (by intro m u hu; rcases m with _ | m <;> simp at hu; subst hu; exact cell_of_block (alloc_at _ _) 0) (by intro u hu; simp at hu; subst hu; rfl) (by simp only [maxLen]; omega) (by omega) (by simp; omega) ?_)
        intro v' w4 hown2 hg _
        have HO := Lib.hid hown2
        have hb4 := Lib.hid ((hb.alloc hb.size _).grown hg (by simp; omega) (fun g hg => by have := (own_at hown hg).1; omega))
        have hs4 := hg.size
        clear hown2 hg hown
        go_wp2_with fail
        exact ⟨⟨k + 1, by go_num, by omega, by rw [HE.out, List.length_append, List.map_append]; exact HO.out, hb4.out, by simp at hs4; omega⟩, by simp [intOf]; omega⟩
    · obtain rfl : k = parts.length := by omega
      rw [List.take_length] at hown
      obtain ⟨a', c', hv, hn', hd⟩ := own_cells1 hown
      subst hv
      have HD := Lib.hid hd
      have HN := Lib.hid hn'
      have HB5 := Lib.hid (B2.out.trans (hb.mono B2.out.size))
      have hb2s := B2.out.size
      clear hown hd hn'
      go_wp2
      go_ret
      refine ⟨a', c', rfl, fun h => (HN.out h).2, fun h => ?_, HB5.out⟩
      obtain ⟨g, cs, ha, hge, hh, hc⟩ := HD.out h
      refine ⟨g, 0, cs, _, _, ha, ⟨by omega, lt_of_at hh⟩, by decide, hh, fun j hj => ?_⟩
      rw [hc j hj, List.getElem?_map, List.getElem?_eq_getElem hj, List.getD_eq_getElem?_getD, List.getElem?_eq_getElem hj]
      rfl
end Go.Proofs.YtfmnbhhpimpjbaaGreatDoor
