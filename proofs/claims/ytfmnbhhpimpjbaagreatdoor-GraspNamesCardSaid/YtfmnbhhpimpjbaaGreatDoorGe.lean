/- grasp.walked: the handles of an error's walked parts. -/
import Derived.Test.YtfmnbhhpimpjbaaGreatDoorGh
import Derived.Test.YtfmnbhhpimpjbaaGreatDoorGi
import Derived.Test.YtfmnbhhpimpjbaaGreatDoorGj
import Derived.Test.YtfmnbhhpimpjbaaGreatDoorGk
namespace Go.Proofs.YtfmnbhhpimpjbaaGreatDoor
open Go.RowKit
set_option linter.unusedVariables false

set_option maxRecDepth 100000 in
set_option maxHeartbeats 8000000 in
theorem walked_any {D : Nat → Prop} {base bb : Nat} {v : Value} {rows : List BRow} : ∀ (n : Nat) (h : Int) (w : World), BookIn D w base bb v rows → h ≤ n →
    Calls Tryz.prog 63 #[.pointer (some ⟨bb, 0, none⟩), .int .i64 h] w (HandsPost (walkedF rows n h) w)
  | 0, h, w, hB, hn => by
    have HS := Lib.hid (spec_any h w hB)
    have hme : madeE rows.length h = 50 := by unfold madeE; rw [if_neg (by omega)]
    rw [hme] at HS
    clear hB hme hn
    go_enter Tryz.func63, Tryz.ntmps63
    go_wp2_with fail
    refine HS.out.mono ?_
    rintro e w2 ⟨ia, ic, pa, pc, rfl, n1, n2, d1, d2, b2⟩
    have HB2 := Lib.hid (b2.alloc b2.size (.cells (spC (rowAt rows h).sp ia ic pa pc) 34))
    clear b2 d1 d2
    unfold spC at *
    go_wp2_with ((with_reducible refine at_op (.store 34 (.tmp 5) (.tmp 14)) rfl ?_); refine wpList_store_new rfl 34 (.tmp 5) (.tmp 14) rfl w2.heap.size rfl _ _ rfl _ rfl (by kernel_rfl) rfl (by simp [Value.oneCell']) ?_)
    go_ret
    exact HandsPost.nil _ _ HB2.out
  | n + 1, h, w, hB, hn => by
    have HS := Lib.hid (spec_any h w hB)
    have HF := Lib.hid (show walkedF rows (n + 1) h = if ¬ (1 ≤ h ∧ h ≤ rows.length) ∨ (rowAt rows h).sp.nil = true then [] else if (rowAt rows h).sp.kind = 25 then (if (rowAt rows h).sp.parts.length = 1 ∧ (rowAt rows h).sp.parts.getD 0 0 ≠ 0 then walkedF rows n ((rowAt rows h).sp.parts.getD 0 0) else []) else if holdsK (rowAt rows h).sp.kind then keepF (rowAt rows h).sp.parts else [] from rfl)
    have HIH := Lib.hid (walked_any (D := D) (base := base) (bb := bb) (v := v) (rows := rows) n)
    have hpl := (row_facts hB h).2.1
    have HHA := Lib.hid (show 1 ≤ h ∧ h ≤ rows.length → ∀ x ∈ (rowAt rows h).sp.parts, 0 ≤ x ∧ x ≤ h - 1 from fun hh x hx => by
      have := (hB.ok _ _ (rowAt_in rows h hh.1 hh.2)).hand x hx
      omega)
    have HBK := Lib.hid hB
    by_cases hho : (1 ≤ h ∧ h ≤ rows.length) ∧ (rowAt rows h).sp.nil = false ∧ holdsK (rowAt rows h).sp.kind
    · obtain ⟨hin, hnil, hh⟩ := hho
      have HL : walkedF rows (n + 1) h = keepF (rowAt rows h).sp.parts := by
        rw [HF.out, if_neg (by simp [hnil]; exact hin), if_neg (by unfold holdsK at hh; omega), if_pos hh]
      rw [HL]
      rcases hh with hk | hk | hk | hk
      · exact walked_14 h w hB hin hk hnil
      · exact walked_15 h w hB hin hk hnil
      · exact walked_16 h w hB hin hk hnil
      · exact walked_26 h w hB hin hk hnil
    obtain ⟨s, hs⟩ : ∃ s, s = (rowAt rows h).sp := ⟨_, rfl⟩
    rw [← hs] at HS HF hpl HHA hho
    obtain ⟨E, hE⟩ : ∃ E, E = madeE rows.length h := ⟨_, rfl⟩
    rw [← hE] at HS
    clear hB
    by_cases hin : 1 ≤ h ∧ h ≤ rows.length
    · have hE0 : E = 0 := by rw [hE]; unfold madeE; rw [if_pos hin]
      subst hE0
      have HIN := Lib.hid hin
      have hho : s.nil = false → ¬ holdsK s.kind := fun a b => hho ⟨hin, a, b⟩
      clear hE hs hin
      obtain ⟨kind, nil, text, number, small, re, im, flag, mask, items, parts⟩ := s
      unfold spC at HS
      dsimp only at HS HF hpl HHA hho
      go_enter Tryz.func63, Tryz.ntmps63
      go_wp2_with fail
      refine HS.out.mono ?_
      rintro e w2 ⟨ia, ic, pa, pc, rfl, n1, n2, d1, d2, b2⟩
      have B2 := Lib.hid b2
      have D2 := Lib.hid d2
      have HW3 := Lib.hid (alloc_at w2 (.cells #[.int .u8 kind, .bool nil, .string text, .int .i16 number, .int .i8 small, .float .f64 re, .float .f64 im, .bool flag, .int .u32 mask, .slice ia items.length ic, .slice pa parts.length pc] 34))
      have hcell := fun i => cell_of_block HW3.out i
      have HB3 := Lib.hid (b2.alloc b2.size (.cells #[.int .u8 kind, .bool nil, .string text, .int .i16 number, .int .i8 small, .float .f64 re, .float .f64 im, .bool flag, .int .u32 mask, .slice ia items.length ic, .slice pa parts.length pc] 34))
      have DP := Lib.hid (d2.ev (Ev.of_below ((Below.refl w2.heap.size w2).alloc (Nat.le_refl _) (.cells #[.int .u8 kind, .bool nil, .string text, .int .i16 number, .int .i8 small, .float .f64 re, .float .f64 im, .bool flag, .int .u32 mask, .slice ia items.length ic, .slice pa parts.length pc] 34))))
      clear b2 d1 d2 n1 HS
      cases nil
      · have hh := hho rfl
        clear hho
        by_cases h25 : kind = 25
        · subst h25
          by_cases h1 : parts.length = 1
          · obtain ⟨b, i, cs, t, fr, rfl, hDb, ht, hbb, hcs⟩ := D2.out (by omega)
            have ck := (cell_of_block hbb (i + 0)).trans (hcs 0 (by omega))
            obtain ⟨y, hy⟩ : ∃ y, y = parts.getD 0 0 := ⟨_, rfl⟩
            rw [← hy] at ck
            rw [show i + 0 = i from rfl] at ck
            have hltb : b < w2.heap.size := block_lt ck
            have hneb : ¬ w2.heap.size = b := by omega
            have ck3 : (w2.alloc (.cells #[.int .u8 25, .bool false, .string text, .int .i16 number, .int .i8 small, .float .f64 re, .float .f64 im, .bool flag, .int .u32 mask, .slice ia items.length ic, .slice (some ⟨b, i, none⟩) parts.length pc] 34)).cell? ⟨b, i, none⟩ = some (.int .i64 y) := ((Below.refl w2.heap.size w2).alloc (Nat.le_refl _) _).cell hltb |>.trans ck
            have hym : y ∈ parts := by rw [hy, List.getD_eq_getElem?_getD, List.getElem?_eq_getElem (by omega)]; exact List.getElem_mem (by omega)
            have hyb := HHA.out HIN.out y hym
            have j1 : ((parts.length : Int) == 1) = true := by simp; omega
            have j2 : (0 : Int) < (parts.length : Int) := by omega
            have j3 : 0 < parts.length := by omega
            have HH1 := Lib.hid h1
            clear h1
            by_cases hy0 : y = 0
            · have HL := Lib.hid (show walkedF rows (n + 1) h = [] by
                rw [HF.out, if_neg (by simp; exact HIN.out), if_pos rfl, if_neg (by rw [← hy]; simp [hy0])])
              have k0 : (y != 0) = false := by simpa using hy0
              clear hbb hcs hy hym hyb HF hy0
              go_wp2_with ((with_reducible refine at_op (.store 34 (.tmp 5) (.tmp 14)) rfl ?_); refine wpList_store_new rfl 34 (.tmp 5) (.tmp 14) rfl w2.heap.size rfl _ _ rfl _ rfl (by kernel_rfl) rfl (by simp [Value.oneCell']) ?_)
              go_ret
              exact HL.out ▸ HandsPost.nil _ _ HB3.out
            · have HL := Lib.hid (show walkedF rows (n + 1) h = walkedF rows n y by
                rw [HF.out, if_neg (by simp; exact HIN.out), if_pos rfl, if_pos ⟨HH1.out, by rw [← hy]; exact hy0⟩, ← hy])
              have k0 : (y != 0) = true := by simpa using hy0
              have KI := Lib.hid (HIH.out y _ (HBK.out.below HB3.out) (by omega))
              clear hbb hcs hy hym hyb HF hy0
              go_wp2_with ((with_reducible refine at_op (.store 34 (.tmp 5) (.tmp 14)) rfl ?_); refine wpList_store_new rfl 34 (.tmp 5) (.tmp 14) rfl w2.heap.size rfl _ _ rfl _ rfl (by kernel_rfl) rfl (by simp [Value.oneCell']) ?_)
              refine KI.out.mono ?_
              rintro e w5 ⟨a, c, rfl, hna, hpd, hb5⟩
              have HN := Lib.hid hna
              have HP5 := Lib.hid (hpd.mono (Fresh.mono' (w := w) HB3.out.size))
              have HB5 := Lib.hid (HB3.out.trans (hb5.mono HB3.out.size))
              clear hna hpd hb5
              go_wp2
              go_ret
              rw [HL.out]
              exact ⟨a, c, rfl, HN.out, HP5.out, HB5.out⟩
          · have HL := Lib.hid (show walkedF rows (n + 1) h = [] by
              rw [HF.out, if_neg (by simp; exact HIN.out), if_pos rfl, if_neg (by simp [h1])])
            have j1 : ((parts.length : Int) == 1) = false := by simp; omega
            clear h1
            clear HF
            go_wp2_with ((with_reducible refine at_op (.store 34 (.tmp 5) (.tmp 14)) rfl ?_); refine wpList_store_new rfl 34 (.tmp 5) (.tmp 14) rfl w2.heap.size rfl _ _ rfl _ rfl (by kernel_rfl) rfl (by simp [Value.oneCell']) ?_)
            go_ret
            exact HL.out ▸ HandsPost.nil _ _ HB3.out
        · have i25 : (kind == 25) = false := by simpa using h25
          have HL := Lib.hid (show walkedF rows (n + 1) h = [] by
            rw [HF.out, if_neg (by simp; exact HIN.out), if_neg h25, if_neg hh])
          unfold holdsK at hh
          have i14 : (kind == 14) = false := by simp; omega
          have i15 : (kind == 15) = false := by simp; omega
          have i16 : (kind == 16) = false := by simp; omega
          have i26 : (kind == 26) = false := by simp; omega
          clear HF h25 hh
          go_wp2_with ((with_reducible refine at_op (.store 34 (.tmp 5) (.tmp 14)) rfl ?_); refine wpList_store_new rfl 34 (.tmp 5) (.tmp 14) rfl w2.heap.size rfl _ _ rfl _ rfl (by kernel_rfl) rfl (by simp [Value.oneCell']) ?_)
          go_ret
          exact HL.out ▸ HandsPost.nil _ _ HB3.out
      · have HL := Lib.hid (show walkedF rows (n + 1) h = [] by rw [HF.out, if_pos (.inr rfl)])
        clear HF hho
        go_wp2_with ((with_reducible refine at_op (.store 34 (.tmp 5) (.tmp 14)) rfl ?_); refine wpList_store_new rfl 34 (.tmp 5) (.tmp 14) rfl w2.heap.size rfl _ _ rfl _ rfl (by kernel_rfl) rfl (by simp [Value.oneCell']) ?_)
        go_ret
        exact HL.out ▸ HandsPost.nil _ _ HB3.out
    · clear hho
      have hE50 : E = 50 := by rw [hE]; unfold madeE; rw [if_neg hin]
      subst hE50
      have HL := Lib.hid (show walkedF rows (n + 1) h = [] by rw [HF.out, if_pos (.inl hin)])
      clear hE hs hin HF
      go_enter Tryz.func63, Tryz.ntmps63
      go_wp2_with fail
      refine HS.out.mono ?_
      rintro e w2 ⟨ia, ic, pa, pc, rfl, n1, n2, d1, d2, b2⟩
      have HB2 := Lib.hid (b2.alloc b2.size (.cells (spC s ia ic pa pc) 34))
      clear b2 d1 d2
      unfold spC at *
      go_wp2_with ((with_reducible refine at_op (.store 34 (.tmp 5) (.tmp 14)) rfl ?_); refine wpList_store_new rfl 34 (.tmp 5) (.tmp 14) rfl w2.heap.size rfl _ _ rfl _ rfl (by kernel_rfl) rfl (by simp [Value.oneCell']) ?_)
      go_ret
      exact HL.out ▸ HandsPost.nil _ _ HB2.out
end Go.Proofs.YtfmnbhhpimpjbaaGreatDoor
