/- Book.Make, where all may be: the rows' numbers, the error, its length. -/
import Derived.Test.YtfmnbhhpimpjbaaGreatDoorVka
import Derived.Deep.Cut
import Derived.Deep.CutRange
namespace Go.Proofs.YtfmnbhhpimpjbaaGreatDoor
open Go.RowKit
set_option linter.unusedVariables false
set_option linter.unusedSimpArgs false

set_option maxRecDepth 100000 in
set_option maxHeartbeats 16000000 in
theorem bmake_ok (W : World) (T : Txt) {D : Nat → Prop} {base bb : Nat} {v : Value} {rows : List BRow} (s : Sp) (hs : s.Ok) (hko : KindOk W T s) (ia : Option Addr) (ic : Nat) (pa : Option Addr) (pc : Nat) (hia : NilOk ia ic) (hpa : NilOk pa pc) (w : World) (hW : Below W.heap.size W w) (hB : BookIn D w base bb v rows) (hDl : ∀ b, D b → b < w.heap.size)
    (hI : ItemsIn w ia s.items) (hP : PartsIn w pa s.parts) (hh : handsOk rows s) (hc : checkF s = 0) :
    Calls Tryz.prog 6 #[.pointer (some ⟨bb, 0, none⟩), .agg (spC s ia ic pa pc)] w (MkPost T D base bb v rows s w) := by
  have HX := Lib.hid (alloc_at w (.cells (spC s ia ic pa pc) 34))
  have hb0 : Below w.heap.size w (w.alloc (.cells (spC s ia ic pa pc) 34)) := (Below.refl _ _).alloc (Nat.le_refl _) _
  have hcell := fun i => cell_of_block HX.out i
  have HB := Lib.hid hB
  have HDL := Lib.hid hDl
  clear hDl
  have HI := Lib.hid hI
  have HP := Lib.hid hP
  have HS := Lib.hid hs
  have HH := Lib.hid hh
  have HCF := Lib.hid hc
  have HW := Lib.hid hW
  have HKO := Lib.hid hko
  obtain ⟨hp64, ht4, hi64⟩ := checkF_parts hc
  obtain ⟨ie, he0, he1, he2, he3⟩ := info_parts info_err
  obtain ⟨ii, hi0, hi1, hi2, hi3⟩ := info_parts info_int'
  have HB0 := Lib.hid hb0
  clear hB hI hP hs hh hc hW hko
  unfold spC at *
  go_enter Tryz.func6, Tryz.ntmps6
  go_wp2_with fail
  go_loopw [27] (fun i x => ∃ k : Nat, i = .int .i64 k ∧ k ≤ s.parts.length ∧ (∀ j, j < k → 0 ≤ s.parts.getD j 0 ∧ s.parts.getD j 0 ≤ rows.length) ∧ Below w.heap.size w x ∧ x.heap[w.heap.size]? = some (.cells #[.int .u8 s.kind, .bool s.nil, .string s.text, .int .i16 s.number, .int .i8 s.small, .float .f64 s.re, .float .f64 s.im, .bool s.flag, .int .u32 s.mask, .slice ia s.items.length ic, .slice pa s.parts.length pc] 34 (0, 0))) (fun i _ => s.parts.length - (intOf i).toNat)
  case atStart => exact ⟨0, rfl, by omega, fun j hj => by omega, HB0.out, HX.out⟩
  case round =>
    obtain ⟨k, rfl, hk, hall, hb, hx⟩ := hrel
    clear hcell
    by_cases hlt : k < s.parts.length
    · obtain ⟨p, rfl, hq⟩ := (HP.out.below hb) (by omega)
      have ck := hq k hlt
      have i1 : (k : Int) < (s.parts.length : Int) := by omega
      obtain ⟨y, hy⟩ : ∃ y, y = s.parts.getD k 0 := ⟨_, rfl⟩
      have HA := Lib.hid (at_any y wr (HB.out.below hb))
      rw [← hy] at ck
      have HY := Lib.hid hy
      have HALL := Lib.hid hall
      have HXR := Lib.hid hx
      have hin : 0 ≤ y ∧ y ≤ rows.length := HH.out y (by rw [hy, List.getD_eq_getElem?_getD, List.getElem?_eq_getElem hlt]; exact List.getElem_mem hlt)
      have hE : atE rows.length y = 0 := by unfold atE; rw [if_pos hin]
      rw [hE] at HA
      have HIN := Lib.hid hin
      clear hq hall hx hin hE hy
      go_wp2_with fail
      refine HA.out.mono ?_
      rintro e w3 ⟨g, o, rfl, _, b3, _⟩
      have HB3 := Lib.hid (hb.trans (b3.mono hb.size))
      have HX3 := Lib.hid ((b3.block _ (lt_of_at HXR.out)).trans HXR.out)
      clear b3 HA
      go_wp2
      go_roundw
      case rel => exact ⟨k + 1, by go_num, by omega, fun j hj => by
        by_cases e : j = k
        · subst e; rw [← HY.out]; exact HIN.out
        · exact HALL.out j (by omega), HB3.out, HX3.out⟩
      case measure => simp [intOf]; omega
    · obtain rfl : k = s.parts.length := by omega
      have HXR := Lib.hid hx
      have HC := Lib.hid (check_any s HS.out ia ic pa pc wr (HI.out.below hb))
      unfold spC at HC
      rw [HCF.out] at HC
      clear hall hx hlt
      go_wp2_with ((with_reducible refine at_op (.load 34 (.tmp 3)) rfl ?_); refine wpList_load_row rfl 34 (.tmp 3) rfl w.heap.size rfl 34 _ (0, 0) _ HXR.out Tryz.underlying34 rfl (by kernel_rfl) ?_)
      refine HC.out.mono ?_
      rintro e w3 ⟨rfl, b3⟩
      have HB3 := Lib.hid (hb.trans (b3.mono hb.size))
      have HX3 := Lib.hid ((b3.block _ (lt_of_at HXR.out)).trans HXR.out)
      clear b3 HC HXR hb
      go_wp2_with fail
      refine wp_region_held_drew (S := fun w' => w'.heap[w.heap.size]? = some (.cells #[.int .u8 s.kind, .bool s.nil, .string s.text, .int .i16 s.number, .int .i8 s.small, .float .f64 s.re, .float .f64 s.im, .bool s.flag, .int .u32 s.mask, .slice ia s.items.length ic, .slice pa s.parts.length pc] 34 (0, 0))) (by kernel_rfl) (HX3.out) (fun hHeld => ?_)
      refine take_at (i := 0) (d := some 46) rfl rfl (by kernel_rfl) (by kernel_rfl) (by kernel_rfl) (fun _ _ _ h => h) (Or.inl ⟨by rfl, fun w hSw => exec_load_row 34 (.tmp 3) rfl _ rfl _ _ _ _ hSw Tryz.underlying34 rfl (by kernel_rfl)⟩) hHeld ?_
      try simp only [Act.put, List.setIfInBounds_toArray, List.set_cons_zero, List.set_cons_succ]
      refine take_at (i := 2) (d := some 48) (v := ?_) rfl rfl (by kernel_rfl) (by kernel_rfl) (by kernel_rfl) (fun _ _ _ h => h) (Or.inl ⟨by rfl, fun w hSw => ?_⟩) hHeld ?_
      rotate_left
      · (try dsimp only at hSw); go_simp; try with_reducible rfl
      try simp only [Act.put, List.setIfInBounds_toArray, List.set_cons_zero, List.set_cons_succ]
      refine take_at (i := 3) (d := some 49) rfl rfl (by kernel_rfl) (by kernel_rfl) (by kernel_rfl) (fun _ _ _ h => h) (Or.inl ⟨by rfl, fun w hSw => exec_load_cell 9 (.tmp 48) rfl _ rfl _ (cell_of_block hSw 2) _ Tryz.underlying9 rfl⟩) hHeld ?_
      try simp only [Act.put, List.setIfInBounds_toArray, List.set_cons_zero, List.set_cons_succ]
      refine take_at (i := 4) (d := some 50) (v := ?_) rfl rfl (by kernel_rfl) (by kernel_rfl) (by kernel_rfl) (fun _ _ _ h => h) (Or.inl ⟨by rfl, fun w hSw => ?_⟩) hHeld ?_
      rotate_left
      · (try dsimp only at hSw); go_simp; try with_reducible rfl
      try simp only [Act.put, List.setIfInBounds_toArray, List.set_cons_zero, List.set_cons_succ]
      refine wpAnyH_ready (rs := [1, 6]) (by kernel_rfl) (by simp) ?_
      refine ready_two (d := some 47) (e := some 11) rfl rfl (by rfl) rfl rfl (by rfl) (fun K hK => ?gA) (fun K hK => ?gB)
      case' gA =>
        go_simp
        go_at_call 26
        refine (twin_any s (by omega) (by omega) ia ic pa pc hia hpa w3.drew (HI.out.below HB3.out.drew) (HP.out.below HB3.out.drew)).mono ?_
        rintro e w4 ⟨ia2, ic2, pa2, pc2, rfl, n1, n2, d1, d2, b4⟩
        have N1 := Lib.hid n1
        have N2 := Lib.hid n2
        have D1 := Lib.hid d1
        have D2 := Lib.hid d2
        have B4 := Lib.hid b4
        have hH4 := (b4.block _ (lt_of_at hHeld)).trans hHeld
        clear n1 n2 d1 d2 b4
        unfold spC
        go_wp2_with fail
        refine hK.out _ _ (hH4) (fun hHeld2 => ?_)
        clear hK K hHeld
        have hHeld := hHeld2
        clear hHeld2
        try simp only [Act.put, List.setIfInBounds_toArray, List.set_cons_zero, List.set_cons_succ]
        refine take_at (i := 5) (d := some 51) (v := ?_) rfl rfl (by kernel_rfl) (by kernel_rfl) (by kernel_rfl) (fun _ _ _ h => h) (Or.inl ⟨by rfl, fun w hSw => ?_⟩) hHeld ?_
        rotate_left
        · (try dsimp only at hSw); go_simp; try with_reducible rfl
        try simp only [Act.put, List.setIfInBounds_toArray, List.set_cons_zero, List.set_cons_succ]
        refine wpAnyH_ready (rs := [6]) (by kernel_rfl) (by simp) ?_
        refine ready_at (d := some 11) rfl rfl (by rfl) (fun K hK => ?_)
        go_simp
        refine hK.out _ _ ((alloc_old _ _ _ (lt_of_at hHeld)).trans hHeld) (fun hHeld2 => ?_)
        clear hK K hHeld
        have hHeld := hHeld2
        clear hHeld2
        try simp only [Act.put, List.setIfInBounds_toArray, List.set_cons_zero, List.set_cons_succ]
        refine wpAnyH_ready (rs := [7]) (by kernel_rfl) (by simp) ?_
        refine ready_at (d := none) rfl rfl (by rfl) (fun K hK => ?_)
        have hcur := alloc_at w4 (.cells rowZ 68)
        refine wp_store_row 68 (.tmp 11) (.tmp 51) rfl (w4.heap.size) rfl _ rfl 68 _ hcur (by kernel_rfl) rfl (by simp [Value.oneCell']) ?_
        refine hK.out _ _ ((setRow_other _ _ _ _ (by have := HB3.out.size; have := lt_of_at HX3.out; have := B4.out.size; simp at *; omega)).trans hHeld) (fun hHeld2 => ?_)
        clear hK K hHeld
        have hHeld := hHeld2
        clear hHeld2
        try simp only [Act.put, List.setIfInBounds_toArray, List.set_cons_zero, List.set_cons_succ]
        refine wpAnyH_done (by kernel_rfl) ?_ _
        have RR := row_new N1.out N2.out D1.out D2.out B4.out
        unfold nrow rowZ at RR
        generalize (w4.alloc _).setRow w4.heap.size _ = w5 at RR hHeld ⊢
        generalize w4.heap.size = nb at RR ⊢
      case' gB =>
        go_simp
        refine hK.out _ _ ((alloc_old _ _ _ (lt_of_at hHeld)).trans hHeld) (fun hHeld2 => ?_)
        clear hK K hHeld
        have hHeld := hHeld2
        clear hHeld2
        try simp only [Act.put, List.setIfInBounds_toArray, List.set_cons_zero, List.set_cons_succ]
        refine wpAnyH_ready (rs := [1]) (by kernel_rfl) (by simp) ?_
        refine ready_at (d := some 47) rfl rfl (by rfl) (fun K hK => ?_)
        go_simp
        go_at_call 26
        refine (twin_any s (by omega) (by omega) ia ic pa pc hia hpa _ (HI.out.below (HB3.out.alloc HB3.out.size _).drew) (HP.out.below (HB3.out.alloc HB3.out.size _).drew)).mono ?_
        rintro e w4 ⟨ia2, ic2, pa2, pc2, rfl, n1, n2, d1, d2, b4⟩
        have N1 := Lib.hid n1
        have N2 := Lib.hid n2
        have D1 := Lib.hid d1
        have D2 := Lib.hid d2
        have B4 := Lib.hid b4
        have hH4 := (b4.block _ (lt_of_at hHeld)).trans hHeld
        clear n1 n2 d1 d2 b4
        unfold spC
        go_wp2_with fail
        refine hK.out _ _ (hH4) (fun hHeld2 => ?_)
        clear hK K hHeld
        have hHeld := hHeld2
        clear hHeld2
        try simp only [Act.put, List.setIfInBounds_toArray, List.set_cons_zero, List.set_cons_succ]
        refine take_at (i := 5) (d := some 51) (v := ?_) rfl rfl (by kernel_rfl) (by kernel_rfl) (by kernel_rfl) (fun _ _ _ h => h) (Or.inl ⟨by rfl, fun w hSw => ?_⟩) hHeld ?_
        rotate_left
        · (try dsimp only at hSw); go_simp; try with_reducible rfl
        try simp only [Act.put, List.setIfInBounds_toArray, List.set_cons_zero, List.set_cons_succ]
        refine wpAnyH_ready (rs := [7]) (by kernel_rfl) (by simp) ?_
        refine ready_at (d := none) rfl rfl (by rfl) (fun K hK => ?_)
        have hcur := (B4.out.block w3.heap.size (by simp)).trans (alloc_at w3 (.cells rowZ 68))
        refine wp_store_row 68 (.tmp 11) (.tmp 51) rfl (w3.heap.size) rfl _ rfl 68 _ hcur (by kernel_rfl) rfl (by simp [Value.oneCell']) ?_
        refine hK.out _ _ ((setRow_other _ _ _ _ (by have := HB3.out.size; have := lt_of_at HX3.out; have := B4.out.size; simp at *; omega)).trans hHeld) (fun hHeld2 => ?_)
        clear hK K hHeld
        have hHeld := hHeld2
        clear hHeld2
        try simp only [Act.put, List.setIfInBounds_toArray, List.set_cons_zero, List.set_cons_succ]
        refine wpAnyH_done (by kernel_rfl) ?_ _
        have RR := row_old N1.out N2.out D1.out D2.out B4.out
        unfold nrow at RR
        generalize w4.setRow w3.heap.size _ = w5 at RR hHeld ⊢
        generalize w3.heap.size = nb at RR ⊢
      all_goals
        have HR := Lib.hid RR
        have HX5 := Lib.hid hHeld
        clear RR hHeld hH4 hcur N1 N2 D1 D2 B4
        have HB5 := Lib.hid (HB3.out.trans (HR.out.bel.mono HB3.out.size))
        have hnb : w.heap.size ≤ nb := by have := HR.out.lo; have := HB3.out.size; omega
        have hnw : w.heap.size ≠ nb := by have := HR.out.lo; have := lt_of_at HX3.out; omega
        have k2 : w5.cell? ⟨w.heap.size, 9, none⟩ = some (.slice ia s.items.length ic) := cell_of_block HX5.out 9
        have hlenW : ∀ x ∈ s.items, x.size ≤ 4096 := items_small HCF.out
        have HLW := Lib.hid hlenW
        clear hlenW
        go_wp2_with fail
        clear k2
        go_loopw [55] (fun i x => ∃ k : Nat, i = .int .i64 k ∧ k ≤ s.items.length ∧ x.heap[nb]? = some (.cells (nrow s ia2 ic2 pa2 pc2 .nilIface 1 1 0 (s.text.size + itemsTo s.items k)) 68 (0, 0)) ∧ Ex (fun b => b = nb) w5 x) (fun i _ => s.items.length - (intOf i).toNat)
        case atStart => exact ⟨0, rfl, by omega, by simpa [itemsTo] using HR.out.row, Ex.refl _ _⟩
        case round =>
          obtain ⟨k, rfl, hk, hrow, hex⟩ := hrel
          have HEX := Lib.hid hex
          have HROW := Lib.hid hrow
          have hcn : ∀ i, wr.cell? ⟨nb, i, none⟩ = (nrow s ia2 ic2 pa2 pc2 .nilIface 1 1 0 (s.text.size + itemsTo s.items k))[i]? := fun i => cell_of_block hrow i
          have hfz : ∀ i, wr.frozen? ⟨nb, i, none⟩ = false := fun i => frozen_of_block hrow i
          have hit := itemsTo_bound s.items HLW.out k
          clear hrow hex
          by_cases hlt : k < s.items.length
          · have hbx : Below w.heap.size w wr := HB5.out.trans (HEX.out.below (by rintro b rfl; exact hnb) HB5.out.size)
            obtain ⟨p, rfl, hq⟩ := (HI.out.below hbx) (by omega)
            have ck := hq k hlt
            have i1 : (k : Int) < (s.items.length : Int) := by omega
            have HSU := Lib.hid (itemsTo_succ s.items k hlt)
            have hxs : (s.items.getD k ⟨#[]⟩).size ≤ 4096 := HLW.out _ (by rw [List.getD_eq_getElem?_getD, List.getElem?_eq_getElem hlt]; exact List.getElem_mem hlt)
            have cw : wr.cell? ⟨nb, 15, none⟩ = some (.int .i64 (s.text.size + itemsTo s.items k)) := hcn 15
            have HST := Lib.hid (heap_setCell_same _ nb 15 _ _ (.int .i64 (s.text.size + itemsTo s.items k + ((s.items.getD k ⟨#[]⟩).size : Int))) HROW.out)
            have HEX2 := Lib.hid (HEX.out.setCell ⟨nb, 15, none⟩ (.int .i64 (s.text.size + itemsTo s.items k + ((s.items.getD k ⟨#[]⟩).size : Int))) (.inl rfl))
            generalize s.items.getD k ⟨#[]⟩ = x at *
            generalize itemsTo s.items k = z at *
            clear hcn hq hbx HLW
            go_wp2
            go_roundw
            case rel => exact ⟨k + 1, by go_num, by omega, by rw [HSU.out, ← Int.add_assoc]; exact HST.out, HEX2.out⟩
            case measure => simp [intOf]; omega
          · obtain rfl : k = s.items.length := by omega
            have hcb := fun i => cell_of_block ((HEX.out.at HX5.out hnw)) i
            clear hlt hk
            go_wp2_with (first
              | ((with_reducible refine at_op (.makeSlice 47 (.tmp 68) (.tmp 68)) rfl ?_); refine wpList_make_full _ rfl (.tmp 68) (.tmp 68) 47 rfl wr.heap.size 39 ie .nilIface 1 Tryz.underlying47 he0 he1 he2 .i64 .i64 _ _ s.parts.length rfl rfl rfl rfl (by rw [he3]; omega) (by simp only [maxLen]; omega) (Nat.le_refl _) ?_; intro w6 hown6 hg6; have O6 := Lib.hid hown6; have G6 := Lib.hid (make_below (Nat.le_refl _) hg6); have hcb6 : ∀ i, w6.cell? ⟨w.heap.size, i, none⟩ = _ := fun i => cell_of_block ((G6.out.block _ (lt_of_at (HEX.out.at HX5.out hnw))).trans (HEX.out.at HX5.out hnw)) i; clear hown6 hg6 hcb)
              | ((with_reducible refine at_op (.makeSlice 27 (.tmp 72) (.tmp 72)) rfl ?_); refine wpList_make_full _ rfl (.tmp 72) (.tmp 72) 27 rfl w6.heap.size 3 ii (.int .i64 0) 1 Tryz.underlying27 hi0 hi1 hi2 .i64 .i64 _ _ s.parts.length rfl rfl rfl rfl (by rw [hi3]; omega) (by simp only [maxLen]; omega) (Nat.le_refl _) ?_; intro w7 hown7 hg7; have O7 := Lib.hid hown7; have G7 := Lib.hid (make_below (Nat.le_refl _) hg7); have hcb7 : ∀ i, w7.cell? ⟨w.heap.size, i, none⟩ = _ := fun i => cell_of_block ((G7.out.block _ (by have := G6.out.size; have := lt_of_at (HEX.out.at HX5.out hnw); omega)).trans ((G6.out.block _ (lt_of_at (HEX.out.at HX5.out hnw))).trans (HEX.out.at HX5.out hnw))) i; clear hown7 hg7 hcb6))
            have hnlt := lt_of_at HROW.out
            obtain ⟨ec, hec, hecs⟩ := make_cells O6.out
            obtain ⟨lc, hlc, hlcs⟩ := make_cells O7.out
            have HRN0 := Lib.hid (show Rnd rows s nb wr.heap.size w6.heap.size ia2 ic2 pa2 pc2 w7 w7 1 1 (s.text.size + itemsTo s.items s.items.length) 0 0 from ⟨Ex.refl _ _, (G7.out.block _ (by have := G6.out.size; omega)).trans ((G6.out.block _ hnlt).trans HROW.out), ⟨ec, (G7.out.block _ (lt_of_at hec)).trans hec, hecs, fun j hj => by omega⟩, ⟨lc, hlc, hlcs, fun j hj => by omega⟩, by have := G6.out.size; have := lt_of_at hec; omega, by have := G6.out.size; omega, by have := lt_of_at hec; omega⟩)
            have HBX7 := Lib.hid ((HB5.out.trans (HEX.out.below (by rintro b rfl; exact hnb) HB5.out.size)).trans ((G6.out.trans (G7.out.mono G6.out.size)).mono (HB5.out.trans (HEX.out.below (by rintro b rfl; exact hnb) HB5.out.size)).size))
            have hele : w.heap.size ≤ wr.heap.size := (HB5.out.trans (HEX.out.below (by rintro b rfl; exact hnb) HB5.out.size)).size
            have hllt : w.heap.size ≤ w6.heap.size := Nat.le_trans hele G6.out.size
            have hx6 := HEX.out.at HX5.out hnw
            have hele1 := lt_of_at hx6
            have hllt1 : w.heap.size < w6.heap.size := by have := G6.out.size; omega
            have HXX := Lib.hid ((G7.out.block _ hllt1).trans ((G6.out.block _ hele1).trans hx6))
            clear hx6
            have HE57 := Lib.hid ((HEX.out.trans (Ex.of_below (S := fun b => b = nb) G6.out) (fun _ _ h => h)).trans (Ex.of_below (S := fun b => b = nb) G7.out) (fun _ _ h => h))
            have he5 := HEX.out.size
            have hl5 : w5.heap.size ≤ w6.heap.size := Nat.le_trans he5 G6.out.size
            clear hec hecs hlc hlcs hnlt O6 O7
            generalize wr.heap.size = eb at *
            generalize w6.heap.size = lb at *
            clear G6 G7
            generalize hIT : itemsTo s.items s.items.length = it at *
            go_loopw [77] (fun i x => ∃ k : Nat, i = .int .i64 k ∧ k ≤ s.parts.length ∧ Rnd rows s nb eb lb ia2 ic2 pa2 pc2 w7 x (1 + sumTo (fun h => (rowAt rows h).size) s.parts k) (maxTo (fun h => (rowAt rows h).depth) s.parts k) (s.text.size + it + sumTo (fun h => (rowAt rows h).words) s.parts k) k k) (fun i _ => s.parts.length - (intOf i).toNat)
            case atStart => exact ⟨0, rfl, by omega, by simpa [sumTo, maxTo] using HRN0.out⟩
            case round =>
              obtain ⟨k, rfl, hk, hrn⟩ := hrel
              have HRN := Lib.hid hrn
              have hbx : Below w.heap.size w wr := HBX7.out.trans (hrn.ex.below (by rintro b (rfl | rfl | rfl) <;> omega) HBX7.out.size)
              by_cases hlt : k < s.parts.length
              · obtain ⟨p, rfl, hq⟩ := (HP.out.below hbx) (by omega)
                have ck := hq k hlt
                have i1 : (k : Int) < (s.parts.length : Int) := by omega
                obtain ⟨y, hy⟩ : ∃ y, y = s.parts.getD k 0 := ⟨_, rfl⟩
                have HA := Lib.hid (at_any y wr (HB.out.below hbx))
                rw [← hy] at ck
                have HY := Lib.hid hy
                have hin : 0 ≤ y ∧ y ≤ rows.length := HH.out y (by rw [hy, List.getD_eq_getElem?_getD, List.getElem?_eq_getElem hlt]; exact List.getElem_mem hlt)
                rw [show atE rows.length y = 0 by unfold atE; rw [if_pos hin]] at HA
                have HBX := Lib.hid hbx
                have HSZ := Lib.hid (sumTo_succ (fun h => (rowAt rows h).size) s.parts k hlt)
                have HWD := Lib.hid (sumTo_succ (fun h => (rowAt rows h).words) s.parts k hlt)
                have hsz := sumTo_bound (fun h => (rowAt rows h).size) s.parts 4096 (fun x => (rowAt_bounds HB.out x).1) k
                have hwd := sumTo_bound (fun h => (rowAt rows h).words) s.parts 1048576 (fun x => (rowAt_bounds HB.out x).2.2.2) k
                have hdp := maxTo_bound (fun h => (rowAt rows h).depth) s.parts 64 (by omega) (fun x => (rowAt_bounds HB.out x).2.1) k
                have HDP := Lib.hid (show maxTo (fun h => (rowAt rows h).depth) s.parts (k + 1) = max (maxTo (fun h => (rowAt rows h).depth) s.parts k) ((rowAt rows y).depth + 1) by rw [hy]; rfl)
                have hrb := rowAt_bounds HB.out y
                have HEV := Lib.hid (errAt_ev HB.out y)
                generalize sumTo (fun h => (rowAt rows h).size) s.parts k = zs at *
                generalize sumTo (fun h => (rowAt rows h).words) s.parts k = zw at *
                generalize maxTo (fun h => (rowAt rows h).depth) s.parts k = zd at *
                clear hq hrn hin hy hbx
                go_wp2_with fail
                refine HA.out.mono ?_
                rintro e w9 ⟨g, o, rfl, hrc, b9, hg⟩
                have hgg : nb ≠ g ∧ eb ≠ g ∧ lb ≠ g := by
                  have q1 := lt_of_at HRN.out.row
                  obtain ⟨_, q2, _⟩ := HRN.out.errs
                  obtain ⟨_, q3, _⟩ := HRN.out.lens
                  have q2 := lt_of_at q2
                  have q3 := lt_of_at q3
                  rcases hg with hg | hg
                  · have := (own_at HB.out.own hg).2.1; omega
                  · omega
                have RN9 := Lib.hid (HRN.out.below b9)
                have RC9 := Lib.hid (show RowRead w9 g o (rowAt rows y) from hrc)
                have RE := Lib.hid (rowAt_err rows y)
                have HB9 := Lib.hid (HBX.out.trans (b9.mono HBX.out.size))
                clear hrc b9 hg HA
                have e0 : w9.cell? ⟨g, o, none⟩ = some (errAt rows y) := (RC9.out 0 (by omega)).trans (by rw [← RE.out]; rfl)
                have e14 : w9.cell? ⟨g, o + 14, none⟩ = some (.int .i64 (rowAt rows y).long) := RC9.out 14 (by omega)
                obtain ⟨ec, hec, hecs, _⟩ := RN9.out.errs
                obtain ⟨lc, hlc, hlcs, _⟩ := RN9.out.lens
                go_wp2_with fail
                refine wp_region_held_drew (S := fun w' => w'.cell? ⟨g, o, none⟩ = some (errAt rows y) ∧ w'.cell? ⟨g, o + 14, none⟩ = some (.int .i64 (rowAt rows y).long)) (by kernel_rfl) (⟨e0, e14⟩) (fun hHeld => ?_)
                refine take_at (i := 0) (d := some 88) (v := ?_) rfl rfl (by kernel_rfl) (by kernel_rfl) (by kernel_rfl) (fun _ _ _ h => h) (Or.inl ⟨by rfl, fun w hSw => ?_⟩) hHeld ?_
                rotate_left
                · (try dsimp only at hSw); go_simp; try with_reducible rfl
                try simp only [Act.put, List.setIfInBounds_toArray, List.set_cons_zero, List.set_cons_succ]
                refine take_at (i := 1) (d := some 89) (v := ?_) rfl rfl (by kernel_rfl) (by kernel_rfl) (by kernel_rfl) (fun _ _ _ h => h) (Or.inl ⟨by rfl, fun w hSw => ?_⟩) hHeld ?_
                rotate_left
                · (try dsimp only at hSw); go_simp; try with_reducible rfl
                try simp only [Act.put, List.setIfInBounds_toArray, List.set_cons_zero, List.set_cons_succ]
                refine take_at (i := 2) (d := some 90) (v := ?_) rfl rfl (by kernel_rfl) (by kernel_rfl) (by kernel_rfl) (fun _ _ _ h => h) (Or.inl ⟨by rfl, fun w hSw => ?_⟩) hHeld ?_
                rotate_left
                · (try dsimp only at hSw); go_simp; try with_reducible rfl
                try simp only [Act.put, List.setIfInBounds_toArray, List.set_cons_zero, List.set_cons_succ]
                refine take_at (i := 3) (d := some 91) (v := ?_) rfl rfl (by kernel_rfl) (by kernel_rfl) (by kernel_rfl) (fun _ _ _ h => h) (Or.inl ⟨by rfl, fun w hSw => ?_⟩) hHeld ?_
                rotate_left
                · (try dsimp only at hSw); go_simp; try with_reducible rfl
                try simp only [Act.put, List.setIfInBounds_toArray, List.set_cons_zero, List.set_cons_succ]
                refine take_at (i := 4) (d := some 92) (v := ?_) rfl rfl (by kernel_rfl) (by kernel_rfl) (by kernel_rfl) (fun _ _ _ h => h) (Or.inl ⟨by rfl, fun w hSw => ?_⟩) hHeld ?_
                rotate_left
                · (try dsimp only at hSw); go_simp; try with_reducible rfl
                try simp only [Act.put, List.setIfInBounds_toArray, List.set_cons_zero, List.set_cons_succ]
                refine take_at (i := 5) (d := some 93) (v := ?_) rfl rfl (by kernel_rfl) (by kernel_rfl) (by kernel_rfl) (fun _ _ _ h => h) (Or.inl ⟨by rfl, fun w hSw => ?_⟩) hHeld ?_
                rotate_left
                · (try dsimp only at hSw); go_simp; try with_reducible rfl
                try simp only [Act.put, List.setIfInBounds_toArray, List.set_cons_zero, List.set_cons_succ]
                refine take_at (i := 6) (d := some 94) (v := ?_) rfl rfl (by kernel_rfl) (by kernel_rfl) (by kernel_rfl) (fun _ _ _ h => h) (Or.inl ⟨by rfl, fun w hSw => ?_⟩) hHeld ?_
                rotate_left
                · (try dsimp only at hSw); go_simp; try with_reducible rfl
                try simp only [Act.put, List.setIfInBounds_toArray, List.set_cons_zero, List.set_cons_succ]
                refine take_at (i := 7) (d := some 95) rfl rfl (by kernel_rfl) (by kernel_rfl) (by kernel_rfl) (fun _ _ _ h => h) (Or.inl ⟨by rfl, fun w hSw => exec_load_cell 39 (.tmp 94) rfl _ rfl _ (hSw.1) _ Tryz.underlying39 rfl⟩) hHeld ?_
                try simp only [Act.put, List.setIfInBounds_toArray, List.set_cons_zero, List.set_cons_succ]
                refine take_at (i := 8) (d := some 96) (v := ?_) rfl rfl (by kernel_rfl) (by kernel_rfl) (by kernel_rfl) (fun _ _ _ h => h) (Or.inl ⟨by rfl, fun w hSw => ?_⟩) hHeld ?_
                rotate_left
                · (try dsimp only at hSw); go_simp; try with_reducible rfl
                try simp only [Act.put, List.setIfInBounds_toArray, List.set_cons_zero, List.set_cons_succ]
                refine take_at (i := 9) (d := some 97) (v := ?_) rfl rfl (by kernel_rfl) (by kernel_rfl) (by kernel_rfl) (fun _ _ _ h => h) (Or.inl ⟨by rfl, fun w hSw => ?_⟩) hHeld ?_
                rotate_left
                · (try dsimp only at hSw); go_simp; try with_reducible rfl
                try simp only [Act.put, List.setIfInBounds_toArray, List.set_cons_zero, List.set_cons_succ]
                refine take_at (i := 10) (d := some 98) (v := ?_) rfl rfl (by kernel_rfl) (by kernel_rfl) (by kernel_rfl) (fun _ _ _ h => h) (Or.inl ⟨by rfl, fun w hSw => ?_⟩) hHeld ?_
                rotate_left
                · (try dsimp only at hSw); go_simp; try with_reducible rfl
                try simp only [Act.put, List.setIfInBounds_toArray, List.set_cons_zero, List.set_cons_succ]
                refine take_at (i := 11) (d := some 99) rfl rfl (by kernel_rfl) (by kernel_rfl) (by kernel_rfl) (fun _ _ _ h => h) (Or.inl ⟨by rfl, fun w hSw => exec_load_cell 3 (.tmp 98) rfl _ rfl _ (hSw.2) _ Tryz.underlying3 rfl⟩) hHeld ?_
                try simp only [Act.put, List.setIfInBounds_toArray, List.set_cons_zero, List.set_cons_succ]
                refine take_at (i := 12) (d := some 100) (v := ?_) rfl rfl (by kernel_rfl) (by kernel_rfl) (by kernel_rfl) (fun _ _ _ h => h) (Or.inl ⟨by rfl, fun w hSw => ?_⟩) hHeld ?_
                rotate_left
                · (try dsimp only at hSw); go_simp; try with_reducible rfl
                try simp only [Act.put, List.setIfInBounds_toArray, List.set_cons_zero, List.set_cons_succ]
                refine wpAnyH_ready (rs := [13]) (by kernel_rfl) (by simp) ?_
                refine ready_at (d := none) rfl rfl (by rfl) (fun K hK => ?_)
                refine wp_store_cell 39 (.tmp 100) (.tmp 95) rfl ⟨eb, k, none⟩ (ec.getD k .nilIface) (errAt rows y) rfl rfl (by kernel_rfl) HEV.out.cells HEV.out.one ((cell_of_block hec k).trans (by simp [hecs, hlt])) (frozen_of_block hec k) ?_
                refine hK.out _ _ (⟨(World.cell?_setCell_far _ _ _ _ (by simp only; omega)).trans hHeld.1, (World.cell?_setCell_far _ _ _ _ (by simp only; omega)).trans hHeld.2⟩) (fun hHeld2 => ?_)
                clear hK K hHeld
                have hHeld := hHeld2
                clear hHeld2
                try simp only [Act.put, List.setIfInBounds_toArray, List.set_cons_zero, List.set_cons_succ]
                refine take_at (i := 14) (d := some 101) (v := ?_) rfl rfl (by kernel_rfl) (by kernel_rfl) (by kernel_rfl) (fun _ _ _ h => h) (Or.inl ⟨by rfl, fun w hSw => ?_⟩) hHeld ?_
                rotate_left
                · (try dsimp only at hSw); go_simp; try with_reducible rfl
                try simp only [Act.put, List.setIfInBounds_toArray, List.set_cons_zero, List.set_cons_succ]
                refine wpAnyH_ready (rs := [15]) (by kernel_rfl) (by simp) ?_
                refine ready_at (d := none) rfl rfl (by rfl) (fun K hK => ?_)
                refine wp_store_cell 3 (.tmp 101) (.tmp 99) rfl ⟨lb, k, none⟩ (lc.getD k .nilIface) (.int .i64 (rowAt rows y).long) rfl rfl (by kernel_rfl) rfl rfl ((World.cell?_setCell_far _ _ _ _ (by have := RN9.out.ne; simp only; omega)).trans ((cell_of_block hlc k).trans (by simp [hlcs, hlt]))) (by rw [World.frozen?_setCell]; exact frozen_of_block hlc k) ?_
                refine hK.out _ _ (⟨(World.cell?_setCell_far _ _ _ _ (by simp only; omega)).trans hHeld.1, (World.cell?_setCell_far _ _ _ _ (by simp only; omega)).trans hHeld.2⟩) (fun hHeld2 => ?_)
                clear hK K hHeld
                have hHeld := hHeld2
                clear hHeld2
                try simp only [Act.put, List.setIfInBounds_toArray, List.set_cons_zero, List.set_cons_succ]
                refine wpAnyH_done (by kernel_rfl) ?_ _
                have RN10 := Rnd.len (v := .int .i64 (rowAt rows y).long) (Rnd.err (v := errAt rows y) (RN9.out.below ((Below.refl _ _).drew)) hlt (by rw [HY.out])) hlt (by rw [HY.out])
                have RC10 := RowRead.set (RowRead.set (show RowRead w9.drew g o (rowAt rows y) from RC9.out) ⟨eb, k, none⟩ (errAt rows y) hgg.2.1) ⟨lb, k, none⟩ (.int .i64 (rowAt rows y).long) hgg.2.2
                have HB10 := ((HB9.out.drew.setCell (p := ⟨eb, k, none⟩) hele (errAt rows y)).setCell (p := ⟨lb, k, none⟩) hllt (.int .i64 (rowAt rows y).long))
                clear RN9 RC9 HB9 hHeld e0 e14 hec hecs hlc hlcs RE
                generalize (w9.drew.setCell ⟨eb, k, none⟩ (errAt rows y)).setCell ⟨lb, k, none⟩ (.int .i64 (rowAt rows y).long) = w10 at RN10 RC10 HB10 ⊢
                have RN10h := Lib.hid RN10
                have RC10h := Lib.hid RC10
                have HB10h := Lib.hid HB10
                have e1 : w10.cell? ⟨g, o + 12, none⟩ = some (.int .i64 (rowAt rows y).size) := RC10h.out 12 (by omega)
                have n1 : w10.cell? ⟨nb, 12, none⟩ = some (.int .i64 (1 + zs)) := cell_of_block RN10h.out.row 12
                clear RN10 RC10 HB10
                go_wp2_with fail
                refine wp_region_held_drew (S := fun w' => w'.cell? ⟨g, o + 12, none⟩ = some (.int .i64 (rowAt rows y).size)) (by kernel_rfl) (e1) (fun hHeld => ?_)
                refine take_at (i := 0) (d := some 102) (v := ?_) rfl rfl (by kernel_rfl) (by kernel_rfl) (by kernel_rfl) (fun _ _ _ h => h) (Or.inl ⟨by rfl, fun w hSw => ?_⟩) hHeld ?_
                rotate_left
                · (try dsimp only at hSw); go_simp; try with_reducible rfl
                try simp only [Act.put, List.setIfInBounds_toArray, List.set_cons_zero, List.set_cons_succ]
                refine take_at (i := 2) (d := some 104) (v := ?_) rfl rfl (by kernel_rfl) (by kernel_rfl) (by kernel_rfl) (fun _ _ _ h => h) (Or.inl ⟨by rfl, fun w hSw => ?_⟩) hHeld ?_
                rotate_left
                · (try dsimp only at hSw); go_simp; try with_reducible rfl
                try simp only [Act.put, List.setIfInBounds_toArray, List.set_cons_zero, List.set_cons_succ]
                refine take_at (i := 3) (d := some 105) (v := ?_) rfl rfl (by kernel_rfl) (by kernel_rfl) (by kernel_rfl) (fun _ _ _ h => h) (Or.inl ⟨by rfl, fun w hSw => ?_⟩) hHeld ?_
                rotate_left
                · (try dsimp only at hSw); go_simp; try with_reducible rfl
                try simp only [Act.put, List.setIfInBounds_toArray, List.set_cons_zero, List.set_cons_succ]
                refine take_at (i := 4) (d := some 106) (v := ?_) rfl rfl (by kernel_rfl) (by kernel_rfl) (by kernel_rfl) (fun _ _ _ h => h) (Or.inl ⟨by rfl, fun w hSw => ?_⟩) hHeld ?_
                rotate_left
                · (try dsimp only at hSw); go_simp; try with_reducible rfl
                try simp only [Act.put, List.setIfInBounds_toArray, List.set_cons_zero, List.set_cons_succ]
                refine take_at (i := 5) (d := some 107) rfl rfl (by kernel_rfl) (by kernel_rfl) (by kernel_rfl) (fun _ _ _ h => h) (Or.inl ⟨by rfl, fun w hSw => exec_load_cell 3 (.tmp 106) rfl _ rfl _ (hSw) _ Tryz.underlying3 rfl⟩) hHeld ?_
                try simp only [Act.put, List.setIfInBounds_toArray, List.set_cons_zero, List.set_cons_succ]
                refine wpAnyH_ready (rs := [1]) (by kernel_rfl) (by simp) ?_
                refine ready_at (d := some 103) rfl rfl (by rfl) (fun K hK => ?_)
                refine wp_load_cell 3 (.tmp 102) rfl ⟨nb, 12, none⟩ rfl _ n1 _ Tryz.underlying3 rfl ?_
                refine hK.out _ _ (hHeld) (fun hHeld2 => ?_)
                clear hK K hHeld
                have hHeld := hHeld2
                clear hHeld2
                try simp only [Act.put, List.setIfInBounds_toArray, List.set_cons_zero, List.set_cons_succ]
                refine take_at (i := 6) (d := some 108) (v := ?_) rfl rfl (by kernel_rfl) (by kernel_rfl) (by kernel_rfl) (fun _ _ _ h => h) (Or.inl ⟨by rfl, fun w hSw => ?_⟩) hHeld ?_
                rotate_left
                · (try dsimp only at hSw); go_simp; rw [Go.IntWalk.i64_in _ (by omega)]
                try simp only [Act.put, List.setIfInBounds_toArray, List.set_cons_zero, List.set_cons_succ]
                refine take_at (i := 7) (d := some 109) (v := ?_) rfl rfl (by kernel_rfl) (by kernel_rfl) (by kernel_rfl) (fun _ _ _ h => h) (Or.inl ⟨by rfl, fun w hSw => ?_⟩) hHeld ?_
                rotate_left
                · (try dsimp only at hSw); go_simp; try with_reducible rfl
                try simp only [Act.put, List.setIfInBounds_toArray, List.set_cons_zero, List.set_cons_succ]
                refine wpAnyH_ready (rs := [8]) (by kernel_rfl) (by simp) ?_
                refine ready_at (d := none) rfl rfl (by rfl) (fun K hK => ?_)
                refine wp_store_cell 3 (.tmp 109) (.tmp 108) rfl ⟨nb, 12, none⟩ (.int .i64 (1 + zs)) (.int .i64 (1 + zs + (rowAt rows y).size)) rfl rfl (by kernel_rfl) rfl rfl n1 (frozen_of_block RN10h.out.row 12) ?_
                refine hK.out _ _ ((World.cell?_setCell_far _ _ _ _ (by simp only; omega)).trans hHeld) (fun hHeld2 => ?_)
                clear hK K hHeld
                have hHeld := hHeld2
                clear hHeld2
                try simp only [Act.put, List.setIfInBounds_toArray, List.set_cons_zero, List.set_cons_succ]
                refine wpAnyH_done (by kernel_rfl) ?_ _
                have RN11 := (RN10h.out.below ((Below.refl _ _).drew)).size (1 + zs + (rowAt rows y).size)
                have RC11 := RowRead.set (show RowRead w10.drew g o (rowAt rows y) from RC10h.out) ⟨nb, 12, none⟩ (.int .i64 (1 + zs + (rowAt rows y).size)) hgg.1
                have HB11 := HB10h.out.drew.setCell (p := ⟨nb, 12, none⟩) hnb (.int .i64 (1 + zs + (rowAt rows y).size))
                clear RN10h RC10h HB10h hHeld e1 n1
                generalize w10.drew.setCell ⟨nb, 12, none⟩ (.int .i64 (1 + zs + (rowAt rows y).size)) = w11 at RN11 RC11 HB11 ⊢
                have RN11h := Lib.hid RN11
                have RC11h := Lib.hid RC11
                have HB11h := Lib.hid HB11
                have e1 : w11.cell? ⟨g, o + 15, none⟩ = some (.int .i64 (rowAt rows y).words) := RC11h.out 15 (by omega)
                have n1 : w11.cell? ⟨nb, 15, none⟩ = some (.int .i64 (↑s.text.size + it + zw)) := cell_of_block RN11h.out.row 15
                clear RN11 RC11 HB11
                go_wp2_with fail
                refine wp_region_held_drew (S := fun w' => w'.cell? ⟨g, o + 15, none⟩ = some (.int .i64 (rowAt rows y).words)) (by kernel_rfl) (e1) (fun hHeld => ?_)
                refine take_at (i := 0) (d := some 110) (v := ?_) rfl rfl (by kernel_rfl) (by kernel_rfl) (by kernel_rfl) (fun _ _ _ h => h) (Or.inl ⟨by rfl, fun w hSw => ?_⟩) hHeld ?_
                rotate_left
                · (try dsimp only at hSw); go_simp; try with_reducible rfl
                try simp only [Act.put, List.setIfInBounds_toArray, List.set_cons_zero, List.set_cons_succ]
                refine take_at (i := 2) (d := some 112) (v := ?_) rfl rfl (by kernel_rfl) (by kernel_rfl) (by kernel_rfl) (fun _ _ _ h => h) (Or.inl ⟨by rfl, fun w hSw => ?_⟩) hHeld ?_
                rotate_left
                · (try dsimp only at hSw); go_simp; try with_reducible rfl
                try simp only [Act.put, List.setIfInBounds_toArray, List.set_cons_zero, List.set_cons_succ]
                refine take_at (i := 3) (d := some 113) (v := ?_) rfl rfl (by kernel_rfl) (by kernel_rfl) (by kernel_rfl) (fun _ _ _ h => h) (Or.inl ⟨by rfl, fun w hSw => ?_⟩) hHeld ?_
                rotate_left
                · (try dsimp only at hSw); go_simp; try with_reducible rfl
                try simp only [Act.put, List.setIfInBounds_toArray, List.set_cons_zero, List.set_cons_succ]
                refine take_at (i := 4) (d := some 114) (v := ?_) rfl rfl (by kernel_rfl) (by kernel_rfl) (by kernel_rfl) (fun _ _ _ h => h) (Or.inl ⟨by rfl, fun w hSw => ?_⟩) hHeld ?_
                rotate_left
                · (try dsimp only at hSw); go_simp; try with_reducible rfl
                try simp only [Act.put, List.setIfInBounds_toArray, List.set_cons_zero, List.set_cons_succ]
                refine take_at (i := 5) (d := some 115) rfl rfl (by kernel_rfl) (by kernel_rfl) (by kernel_rfl) (fun _ _ _ h => h) (Or.inl ⟨by rfl, fun w hSw => exec_load_cell 3 (.tmp 114) rfl _ rfl _ (hSw) _ Tryz.underlying3 rfl⟩) hHeld ?_
                try simp only [Act.put, List.setIfInBounds_toArray, List.set_cons_zero, List.set_cons_succ]
                refine wpAnyH_ready (rs := [1]) (by kernel_rfl) (by simp) ?_
                refine ready_at (d := some 111) rfl rfl (by rfl) (fun K hK => ?_)
                refine wp_load_cell 3 (.tmp 110) rfl ⟨nb, 15, none⟩ rfl _ n1 _ Tryz.underlying3 rfl ?_
                refine hK.out _ _ (hHeld) (fun hHeld2 => ?_)
                clear hK K hHeld
                have hHeld := hHeld2
                clear hHeld2
                try simp only [Act.put, List.setIfInBounds_toArray, List.set_cons_zero, List.set_cons_succ]
                refine take_at (i := 6) (d := some 116) (v := ?_) rfl rfl (by kernel_rfl) (by kernel_rfl) (by kernel_rfl) (fun _ _ _ h => h) (Or.inl ⟨by rfl, fun w hSw => ?_⟩) hHeld ?_
                rotate_left
                · (try dsimp only at hSw); go_simp; rw [Go.IntWalk.i64_in _ (by omega)]
                try simp only [Act.put, List.setIfInBounds_toArray, List.set_cons_zero, List.set_cons_succ]
                refine take_at (i := 7) (d := some 117) (v := ?_) rfl rfl (by kernel_rfl) (by kernel_rfl) (by kernel_rfl) (fun _ _ _ h => h) (Or.inl ⟨by rfl, fun w hSw => ?_⟩) hHeld ?_
                rotate_left
                · (try dsimp only at hSw); go_simp; try with_reducible rfl
                try simp only [Act.put, List.setIfInBounds_toArray, List.set_cons_zero, List.set_cons_succ]
                refine wpAnyH_ready (rs := [8]) (by kernel_rfl) (by simp) ?_
                refine ready_at (d := none) rfl rfl (by rfl) (fun K hK => ?_)
                refine wp_store_cell 3 (.tmp 117) (.tmp 116) rfl ⟨nb, 15, none⟩ (.int .i64 (↑s.text.size + it + zw)) (.int .i64 (↑s.text.size + it + zw + (rowAt rows y).words)) rfl rfl (by kernel_rfl) rfl rfl n1 (frozen_of_block RN11h.out.row 15) ?_
                refine hK.out _ _ ((World.cell?_setCell_far _ _ _ _ (by simp only; omega)).trans hHeld) (fun hHeld2 => ?_)
                clear hK K hHeld
                have hHeld := hHeld2
                clear hHeld2
                try simp only [Act.put, List.setIfInBounds_toArray, List.set_cons_zero, List.set_cons_succ]
                refine wpAnyH_done (by kernel_rfl) ?_ _
                have RN12 := (RN11h.out.below ((Below.refl _ _).drew)).words (↑s.text.size + it + zw + (rowAt rows y).words)
                have RC12 := RowRead.set (show RowRead w11.drew g o (rowAt rows y) from RC11h.out) ⟨nb, 15, none⟩ (.int .i64 (↑s.text.size + it + zw + (rowAt rows y).words)) hgg.1
                have HB12 := HB11h.out.drew.setCell (p := ⟨nb, 15, none⟩) hnb (.int .i64 (↑s.text.size + it + zw + (rowAt rows y).words))
                clear RN11h RC11h HB11h hHeld e1 n1
                generalize w11.drew.setCell ⟨nb, 15, none⟩ (.int .i64 (↑s.text.size + it + zw + (rowAt rows y).words)) = w12 at RN12 RC12 HB12 ⊢
                have RN12h := Lib.hid RN12
                have RC12h := Lib.hid RC12
                have HB12h := Lib.hid HB12
                have e1 : w12.cell? ⟨g, o + 13, none⟩ = some (.int .i64 (rowAt rows y).depth) := RC12h.out 13 (by omega)
                have n1 : w12.cell? ⟨nb, 13, none⟩ = some (.int .i64 (zd)) := cell_of_block RN12h.out.row 13
                clear RN12 RC12 HB12
                go_wp2_with fail
                refine wp_region_held_drew (S := fun w' => w'.cell? ⟨g, o + 13, none⟩ = some (.int .i64 (rowAt rows y).depth)) (by kernel_rfl) (e1) (fun hHeld => ?_)
                refine take_at (i := 0) (d := some 118) (v := ?_) rfl rfl (by kernel_rfl) (by kernel_rfl) (by kernel_rfl) (fun _ _ _ h => h) (Or.inl ⟨by rfl, fun w hSw => ?_⟩) hHeld ?_
                rotate_left
                · (try dsimp only at hSw); go_simp; try with_reducible rfl
                try simp only [Act.put, List.setIfInBounds_toArray, List.set_cons_zero, List.set_cons_succ]
                refine take_at (i := 2) (d := some 120) (v := ?_) rfl rfl (by kernel_rfl) (by kernel_rfl) (by kernel_rfl) (fun _ _ _ h => h) (Or.inl ⟨by rfl, fun w hSw => ?_⟩) hHeld ?_
                rotate_left
                · (try dsimp only at hSw); go_simp; try with_reducible rfl
                try simp only [Act.put, List.setIfInBounds_toArray, List.set_cons_zero, List.set_cons_succ]
                refine take_at (i := 3) (d := some 121) (v := ?_) rfl rfl (by kernel_rfl) (by kernel_rfl) (by kernel_rfl) (fun _ _ _ h => h) (Or.inl ⟨by rfl, fun w hSw => ?_⟩) hHeld ?_
                rotate_left
                · (try dsimp only at hSw); go_simp; try with_reducible rfl
                try simp only [Act.put, List.setIfInBounds_toArray, List.set_cons_zero, List.set_cons_succ]
                refine take_at (i := 4) (d := some 122) (v := ?_) rfl rfl (by kernel_rfl) (by kernel_rfl) (by kernel_rfl) (fun _ _ _ h => h) (Or.inl ⟨by rfl, fun w hSw => ?_⟩) hHeld ?_
                rotate_left
                · (try dsimp only at hSw); go_simp; try with_reducible rfl
                try simp only [Act.put, List.setIfInBounds_toArray, List.set_cons_zero, List.set_cons_succ]
                refine take_at (i := 5) (d := some 123) rfl rfl (by kernel_rfl) (by kernel_rfl) (by kernel_rfl) (fun _ _ _ h => h) (Or.inl ⟨by rfl, fun w hSw => exec_load_cell 3 (.tmp 122) rfl _ rfl _ (hSw) _ Tryz.underlying3 rfl⟩) hHeld ?_
                try simp only [Act.put, List.setIfInBounds_toArray, List.set_cons_zero, List.set_cons_succ]
                refine take_at (i := 6) (d := some 124) (v := ?_) rfl rfl (by kernel_rfl) (by kernel_rfl) (by kernel_rfl) (fun _ _ _ h => h) (Or.inl ⟨by rfl, fun w hSw => ?_⟩) hHeld ?_
                rotate_left
                · (try dsimp only at hSw); go_simp; rw [Go.IntWalk.i64_in _ (by omega)]
                try simp only [Act.put, List.setIfInBounds_toArray, List.set_cons_zero, List.set_cons_succ]
                refine wpAnyH_ready (rs := [1]) (by kernel_rfl) (by simp) ?_
                refine ready_at (d := some 119) rfl rfl (by rfl) (fun K hK => ?_)
                refine wp_load_cell 3 (.tmp 118) rfl ⟨nb, 13, none⟩ rfl _ n1 _ Tryz.underlying3 rfl ?_
                refine hK.out _ _ (hHeld) (fun hHeld2 => ?_)
                clear hK K hHeld
                have hHeld := hHeld2
                clear hHeld2
                try simp only [Act.put, List.setIfInBounds_toArray, List.set_cons_zero, List.set_cons_succ]
                refine take_at (i := 7) (d := some 125) (v := ?_) rfl rfl (by kernel_rfl) (by kernel_rfl) (by kernel_rfl) (fun _ _ _ h => h) (Or.inl ⟨by rfl, fun w hSw => ?_⟩) hHeld ?_
                rotate_left
                · (try dsimp only at hSw); go_simp; rw [show (if zd < (rowAt rows y).depth + 1 then (rowAt rows y).depth + 1 else zd) = max zd ((rowAt rows y).depth + 1) by split <;> omega]
                try simp only [Act.put, List.setIfInBounds_toArray, List.set_cons_zero, List.set_cons_succ]
                refine take_at (i := 8) (d := some 126) (v := ?_) rfl rfl (by kernel_rfl) (by kernel_rfl) (by kernel_rfl) (fun _ _ _ h => h) (Or.inl ⟨by rfl, fun w hSw => ?_⟩) hHeld ?_
                rotate_left
                · (try dsimp only at hSw); go_simp; try with_reducible rfl
                try simp only [Act.put, List.setIfInBounds_toArray, List.set_cons_zero, List.set_cons_succ]
                refine wpAnyH_ready (rs := [9]) (by kernel_rfl) (by simp) ?_
                refine ready_at (d := none) rfl rfl (by rfl) (fun K hK => ?_)
                refine wp_store_cell 3 (.tmp 126) (.tmp 125) rfl ⟨nb, 13, none⟩ (.int .i64 (zd)) (.int .i64 (max zd ((rowAt rows y).depth + 1))) rfl rfl (by kernel_rfl) rfl rfl n1 (frozen_of_block RN12h.out.row 13) ?_
                refine hK.out _ _ ((World.cell?_setCell_far _ _ _ _ (by simp only; omega)).trans hHeld) (fun hHeld2 => ?_)
                clear hK K hHeld
                have hHeld := hHeld2
                clear hHeld2
                try simp only [Act.put, List.setIfInBounds_toArray, List.set_cons_zero, List.set_cons_succ]
                refine wpAnyH_done (by kernel_rfl) ?_ _
                have RN13 := (RN12h.out.below ((Below.refl _ _).drew)).depth (max zd ((rowAt rows y).depth + 1))
                clear RN12h RC12h HB12h hHeld e1 n1
                generalize w12.drew.setCell ⟨nb, 13, none⟩ (.int .i64 (max zd ((rowAt rows y).depth + 1))) = w13 at RN13 ⊢
                have RN13h := Lib.hid RN13
                clear RN13
                go_wp2
                go_roundw
                case rel => exact ⟨k + 1, by go_num, by omega, by rw [HSZ.out, HWD.out, HDP.out, ← HY.out, show 1 + (zs + (rowAt rows y).size) = 1 + zs + (rowAt rows y).size by omega, show ↑s.text.size + it + (zw + (rowAt rows y).words) = ↑s.text.size + it + zw + (rowAt rows y).words by omega]; exact RN13h.out⟩
                case measure => simp [intOf]; omega
              · obtain rfl : k = s.parts.length := by omega
                have HX7 := Lib.hid (show wr.heap[w.heap.size]? = some (.cells #[.int .u8 s.kind, .bool s.nil, .string s.text, .int .i16 s.number, .int .i8 s.small, .float .f64 s.re, .float .f64 s.im, .bool s.flag, .int .u32 s.mask, .slice ia s.items.length ic, .slice pa s.parts.length pc] 34 (0, 0)) from hrn.ex.at HXX.out (by omega))
                have HTW := Lib.hid (twin_any s (by omega) (by omega) ia ic pa pc hia hpa wr (HI.out.below hbx) (HP.out.below hbx))
                have HBX := Lib.hid hbx
                clear hlt hk hrn hbx
                unfold spC at HTW
                go_wp2_with ((with_reducible refine at_op (.load 34 (.tmp 3)) rfl ?_); refine wpList_load_row rfl 34 (.tmp 3) rfl w.heap.size rfl 34 _ (0, 0) _ HX7.out Tryz.underlying34 rfl (by kernel_rfl) ?_)
                refine HTW.out.mono ?_
                rintro e w8 ⟨ia3, ic3, pa3, pc3, rfl, n1, n2, d1, d2, b8⟩
                have RN8 := Lib.hid (HRN.out.below b8)
                have HB8 := Lib.hid (HBX.out.trans (b8.mono HBX.out.size))
                have HX8 := Lib.hid ((b8.block _ (lt_of_at HX7.out)).trans HX7.out)
                obtain ⟨ec, hec, hecs, hecv⟩ := RN8.out.errs
                have HE8 := Lib.hid (show ErrsIn w8 (some ⟨eb, 0, none⟩) (s.parts.map (errAt rows)) from errs_in hec hecv)
                have HMK := Lib.hid (HKO.out.make ia3 ic3 pa3 pc3 (s.parts.map (errAt rows)) (some ⟨eb, 0, none⟩) s.parts.length w8 n1 (fun h => by cases h) (by simp) (fun v hv => by obtain ⟨h, _, rfl⟩ := List.mem_map.1 hv; exact errAt_ev HB.out h) d1.in HE8.out)
                rw [List.length_map] at HMK
                unfold spC at HMK
                clear HTW HX7 HBX HRN n1 n2 d1 d2 b8 hec hecs hecv
                go_wp2_with fail
                refine HMK.out.mono ?_
                rintro e w10 ⟨x, rfl, hT, he, b10⟩
                obtain ⟨TT, uu, rfl⟩ := hT
                have RN10 := Lib.hid (RN8.out.below b10)
                have HB10 := Lib.hid (HB8.out.trans (b10.mono HB8.out.size))
                have HX10 := Lib.hid ((b10.block _ (lt_of_at HX8.out)).trans HX8.out)
                have HER := Lib.hid he
                have h8n := lt_of_at RN8.out.row
                have h810 := b10.size
                obtain ⟨lc, hlc, hlcs, hlcv⟩ := RN10.out.lens
                have HLG := Lib.hid (HKO.out.long ia ic pa pc (longsOf rows s) (some ⟨lb, 0, none⟩) s.parts.length w10 (HW.out.trans (HB10.out.mono HW.out.size)) (by simp [longsOf]) (fun y hy => by obtain ⟨h, _, rfl⟩ := List.mem_map.1 hy; exact (rowAt_bounds HB.out h).2.2.1) (HI.out.below HB10.out) (HP.out.below HB10.out) (lens_in hlc hlcv))
                rw [show (longsOf rows s).length = s.parts.length by simp [longsOf]] at HLG
                rw [show longOf T s (longsOf rows s) = longT T rows s from rfl] at HLG
                unfold spC at HLG
                clear HMK he b10 RN8 HB8 HX8 HE8 hlc hlcs hlcv
                go_wp2_with ((with_reducible refine at_op (.load 34 (.tmp 3)) rfl ?_); refine wpList_load_row rfl 34 (.tmp 3) rfl w.heap.size rfl 34 _ (0, 0) _ HX10.out Tryz.underlying34 rfl (by kernel_rfl) ?_)
                refine HLG.out.mono ?_
                rintro e w11 ⟨rfl, b11⟩
                have RN11 := Lib.hid (show Rnd rows s nb eb lb ia2 ic2 pa2 pc2 w7 w11 (sizeF rows s) (depthF rows s) (wordsF rows s) s.parts.length s.parts.length from by subst hIT; exact RN10.out.below b11)
                have HB11 := Lib.hid (HB10.out.trans (b11.mono HB10.out.size))
                have HER11 := Lib.hid (HER.out.ev (Ev.of_below b11))
                have h1011 := b11.size
                clear HLG b11 RN10 HB10 HX10 HER
                have MKE := Lib.hid (show mkE T rows s = if 4096 < sizeF rows s then 51 else if 64 < depthF rows s then 52 else if 65536 < longT T rows s ∨ 1048576 < wordsF rows s then 53 else if 65536 ≤ rows.length then 3 else 0 from rfl)
                obtain ⟨lng, hlng⟩ : ∃ l, l = longT T rows s := ⟨_, rfl⟩
                obtain ⟨sz, hsz⟩ : ∃ l, l = sizeF rows s := ⟨_, rfl⟩
                obtain ⟨dp, hdp⟩ : ∃ l, l = depthF rows s := ⟨_, rfl⟩
                obtain ⟨wd, hwd⟩ : ∃ l, l = wordsF rows s := ⟨_, rfl⟩
                rw [← hlng, ← hsz, ← hdp, ← hwd] at MKE
                rw [← hsz, ← hdp, ← hwd] at RN11
                rw [← hlng]
                have HLNG := Lib.hid hlng
                have HSZ := Lib.hid hsz
                have HDP := Lib.hid hdp
                have HWD := Lib.hid hwd
                clear hlng hsz hdp hwd
                have n0 : w11.cell? ⟨nb, 0, none⟩ = some .nilIface := cell_of_block RN11.out.row 0
                have n12 : w11.cell? ⟨nb, 12, none⟩ = some (.int .i64 sz) := cell_of_block RN11.out.row 12
                have n13 : w11.cell? ⟨nb, 13, none⟩ = some (.int .i64 dp) := cell_of_block RN11.out.row 13
                have n14 : w11.cell? ⟨nb, 14, none⟩ = some (.int .i64 0) := cell_of_block RN11.out.row 14
                have n15 : w11.cell? ⟨nb, 15, none⟩ = some (.int .i64 wd) := cell_of_block RN11.out.row 15
                have nf : ∀ i, w11.frozen? ⟨nb, i, none⟩ = false := fun i => frozen_of_block RN11.out.row i
                have HB12 := Lib.hid ((HB11.out.setCell (p := ⟨nb, 0, none⟩) hnb (.iface TT uu)).setCell (p := ⟨nb, 14, none⟩) hnb (.int .i64 lng))
                have hbox := HB.out.box
                have hbb := lt_of_at hbox
                have hbn : ¬ nb = bb := by omega
                have hbn2 : ¬ bb = nb := by omega
                obtain ⟨va, vc, hva⟩ : ∃ a c, v = .slice a rows.length c := by
                  rcases HB.out.own.2 with ⟨h1, h2⟩ | ⟨g, cap, cur, h1, _⟩
                  · exact ⟨none, 0, by rw [h1, h2]⟩
                  · exact ⟨_, _, h1⟩
                have c0 : w11.cell? ⟨bb, 0, none⟩ = some (.slice va rows.length vc) := by rw [← hva]; exact cell_of_block ((HB11.out.block bb hbb).trans hbox) 0
                have hlen := HB.out.len
                clear hbox hbb
                by_cases t1 : 4096 < sz
                · go_wp2_with ((with_reducible refine at_op (.store 39 (.tmp 142) (.tmp 138)) rfl ?_); refine wpList_store_cell rfl 39 (.tmp 142) (.tmp 138) rfl ⟨nb, 0, none⟩ _ (.iface TT uu) rfl rfl (by kernel_rfl) rfl rfl n0 (nf 0) ?_)
                  go_ret2
                  exact .inl (by rw [MKE.out, if_pos t1]; exact ⟨by decide, rfl, HB12.out⟩)
                · by_cases t2 : 64 < dp
                  · go_wp2_with ((with_reducible refine at_op (.store 39 (.tmp 142) (.tmp 138)) rfl ?_); refine wpList_store_cell rfl 39 (.tmp 142) (.tmp 138) rfl ⟨nb, 0, none⟩ _ (.iface TT uu) rfl rfl (by kernel_rfl) rfl rfl n0 (nf 0) ?_)
                    go_ret2
                    exact .inl (by rw [MKE.out, if_neg (by omega), if_pos (by omega)]; exact ⟨by decide, rfl, HB12.out⟩)
                  · by_cases t3 : 65536 < lng
                    · go_wp2_with ((with_reducible refine at_op (.store 39 (.tmp 142) (.tmp 138)) rfl ?_); refine wpList_store_cell rfl 39 (.tmp 142) (.tmp 138) rfl ⟨nb, 0, none⟩ _ (.iface TT uu) rfl rfl (by kernel_rfl) rfl rfl n0 (nf 0) ?_)
                      go_ret2
                      exact .inl (by rw [MKE.out, if_neg (by omega), if_neg (by omega), if_pos (by omega)]; exact ⟨by decide, rfl, HB12.out⟩)
                    · by_cases t5 : 1048576 < wd
                      · go_wp2_with ((with_reducible refine at_op (.store 39 (.tmp 142) (.tmp 138)) rfl ?_); refine wpList_store_cell rfl 39 (.tmp 142) (.tmp 138) rfl ⟨nb, 0, none⟩ _ (.iface TT uu) rfl rfl (by kernel_rfl) rfl rfl n0 (nf 0) ?_)
                        go_ret2
                        exact .inl (by rw [MKE.out, if_neg (by omega), if_neg (by omega), if_pos (by omega)]; exact ⟨by decide, rfl, HB12.out⟩)
                      · by_cases t4 : 65536 ≤ (rows.length : Int)
                        · go_wp2_with ((with_reducible refine at_op (.store 39 (.tmp 142) (.tmp 138)) rfl ?_); refine wpList_store_cell rfl 39 (.tmp 142) (.tmp 138) rfl ⟨nb, 0, none⟩ _ (.iface TT uu) rfl rfl (by kernel_rfl) rfl rfl n0 (nf 0) ?_)
                          go_ret2
                          exact .inl (by rw [MKE.out, if_neg (by omega), if_neg (by omega), if_neg (by omega), if_pos (by omega)]; exact ⟨by decide, rfl, HB12.out⟩)
                        · have TS : Tests sz dp lng wd rows.length := ⟨by omega, by omega, by omega, by omega, t4, hlen⟩
                          clear hlen t1 t2 t3 t4 t5
                          go_upto_region 34 with ((with_reducible refine at_op (.store 39 (.tmp 142) (.tmp 138)) rfl ?_); refine wpList_store_cell rfl 39 (.tmp 142) (.tmp 138) rfl ⟨nb, 0, none⟩ _ (.iface TT uu) rfl rfl (by kernel_rfl) rfl rfl n0 (nf 0) ?_)
                          have t1 := TS.t1
                          go_upto_region 36 with fail
                          clear t1
                          have t2 := TS.t2
                          go_upto_region 38 with fail
                          clear t2
                          have t3 := TS.t3
                          have t5 := TS.t5
                          go_upto_region 40 with fail
                          clear t3 t5
                          have t4 := TS.t4
                          go_upto_region 42 with fail
                          clear t4
                          have ROW12 := heap_setCell_same _ nb 14 _ _ (.int .i64 lng) (heap_setCell_same _ nb 0 _ _ (.iface TT uu) RN11.out.row)
                          have EX12 : Ex (fun b => b = nb) w5 ((w11.setCell ⟨nb, 0, none⟩ (.iface TT uu)).setCell ⟨nb, 14, none⟩ (.int .i64 lng)) := ((HE57.out.trans RN11.out.ex (by rintro b hb (rfl | rfl | rfl) <;> first | rfl | omega)).setCell ⟨nb, 0, none⟩ (.iface TT uu) (.inl rfl)).setCell ⟨nb, 14, none⟩ (.int .i64 lng) (.inl rfl)
                          have B12 := HB.out.below HB12.out
                          have ER12 : ErrIn (Fresh w8 w10) ((w11.setCell ⟨nb, 0, none⟩ (.iface TT uu)).setCell ⟨nb, 14, none⟩ (.int .i64 lng)) (.iface TT uu) s (s.parts.map (errAt rows)) := HER11.out.ev (Ev.of_ex (S := fun b => b = nb) (((Ex.refl (fun b => b = nb) w11).setCell ⟨nb, 0, none⟩ (.iface TT uu) (.inl rfl)).setCell ⟨nb, 14, none⟩ (.int .i64 lng) (.inl rfl)) fun b _ hF hS => by have := hF.1; omega)
                          have c12 : ((w11.setCell ⟨nb, 0, none⟩ (.iface TT uu)).setCell ⟨nb, 14, none⟩ (.int .i64 lng)).cell? ⟨bb, 0, none⟩ = some (.slice va rows.length vc) := by rw [← hva]; exact cell_of_block B12.box 0
                          have h1012 : w10.heap.size ≤ ((w11.setCell ⟨nb, 0, none⟩ (.iface TT uu)).setCell ⟨nb, 14, none⟩ (.int .i64 lng)).heap.size := by simpa using h1011
                          have hnb12 := lt_of_at ROW12
                          have HB12' := HB12.out
                          clear n0 n12 n13 n14 n15 nf HB12 RN11 HER11 HB11 c0
                          generalize (w11.setCell ⟨nb, 0, none⟩ (.iface TT uu)).setCell ⟨nb, 14, none⟩ (.int .i64 lng) = w12 at ROW12 EX12 B12 ER12 c12 h1012 hnb12 HB12' ⊢
                          have H12 := Lib.hid HB12'
                          have HEX12 := Lib.hid EX12
                          have HBK := Lib.hid B12
                          have HER12 := Lib.hid ER12
                          have HROW12 := Lib.hid (show w12.heap[nb]? = some (.cells #[.iface TT uu, .int .u8 s.kind, .bool s.nil, .string s.text, .int .i16 s.number, .int .i8 s.small, .float .f64 s.re, .float .f64 s.im, .bool s.flag, .int .u32 s.mask, .slice ia2 s.items.length ic2, .slice pa2 s.parts.length pc2, .int .i64 sz, .int .i64 dp, .int .i64 lng, .int .i64 wd] 68 (0, 0)) from ROW12)
                          clear HB12' EX12 B12 ER12 ROW12
                          refine wp_region_held_drew (S := fun w' => w'.heap[nb]? = some (.cells #[.iface TT uu, .int .u8 s.kind, .bool s.nil, .string s.text, .int .i16 s.number, .int .i8 s.small, .float .f64 s.re, .float .f64 s.im, .bool s.flag, .int .u32 s.mask, .slice ia2 s.items.length ic2, .slice pa2 s.parts.length pc2, .int .i64 sz, .int .i64 dp, .int .i64 lng, .int .i64 wd] 68 (0, 0))) (by kernel_rfl) (HROW12.out) (fun hHeld => ?_)
                          refine take_at (i := 0) (d := some 168) (v := ?_) rfl rfl (by kernel_rfl) (by kernel_rfl) (by kernel_rfl) (fun _ _ _ h => h) (Or.inl ⟨by rfl, fun w hSw => ?_⟩) hHeld ?_
                          rotate_left
                          · (try dsimp only at hSw); go_simp; try with_reducible rfl
                          try simp only [Act.put, List.setIfInBounds_toArray, List.set_cons_zero, List.set_cons_succ]
                          refine take_at (i := 1) (d := some 169) (v := ?_) rfl rfl (by kernel_rfl) (by kernel_rfl) (by kernel_rfl) (fun _ _ _ h => h) (Or.inl ⟨by rfl, fun w hSw => ?_⟩) hHeld ?_
                          rotate_left
                          · (try dsimp only at hSw); go_simp; try with_reducible rfl
                          try simp only [Act.put, List.setIfInBounds_toArray, List.set_cons_zero, List.set_cons_succ]
                          refine take_at (i := 2) (d := some 170) (v := ?_) rfl rfl (by kernel_rfl) (by kernel_rfl) (by kernel_rfl) (fun _ _ _ h => h) (Or.inl ⟨by rfl, fun w hSw => ?_⟩) hHeld ?_
                          rotate_left
                          · (try dsimp only at hSw); go_simp; try with_reducible rfl
                          try simp only [Act.put, List.setIfInBounds_toArray, List.set_cons_zero, List.set_cons_succ]
                          refine take_at (i := 3) (d := some 171) (v := ?_) rfl rfl (by kernel_rfl) (by kernel_rfl) (by kernel_rfl) (fun _ _ _ h => h) (Or.inl ⟨by rfl, fun w hSw => ?_⟩) hHeld ?_
                          rotate_left
                          · (try dsimp only at hSw); go_simp; try with_reducible rfl
                          try simp only [Act.put, List.setIfInBounds_toArray, List.set_cons_zero, List.set_cons_succ]
                          refine take_at (i := 5) (d := some 173) rfl rfl (by kernel_rfl) (by kernel_rfl) (by kernel_rfl) (fun _ _ _ h => h) (Or.inl ⟨by rfl, fun w hSw => exec_load_row 68 (.tmp 11) rfl _ rfl _ _ _ _ hSw Tryz.underlying68 rfl (by kernel_rfl)⟩) hHeld ?_
                          try simp only [Act.put, List.setIfInBounds_toArray, List.set_cons_zero, List.set_cons_succ]
                          refine wpAnyH_ready (rs := [4, 6]) (by kernel_rfl) (by simp) ?_
                          refine ready_two (d := some 172) (e := some 174) rfl rfl (by rfl) rfl rfl (by rfl) (fun K hK => ?_) (fun K hK => ?_)
                          · refine wp_load_cell 59 (.tmp 171) rfl ⟨bb, 0, none⟩ rfl _ (c12) _ Tryz.underlying59 rfl ?_
                            refine hK.out _ _ (hHeld) (fun hHeld2 => ?_)
                            clear hK K hHeld
                            have hHeld := hHeld2
                            clear hHeld2
                            try simp only [Act.put, List.setIfInBounds_toArray, List.set_cons_zero, List.set_cons_succ]
                            refine wpAnyH_ready (rs := [6]) (by kernel_rfl) (by simp) ?_
                            refine ready_at (d := some 174) rfl rfl (by rfl) (fun K hK => ?_)
                            go_simp
                            refine hK.out _ _ ((alloc_old _ _ _ (lt_of_at hHeld)).trans hHeld) (fun hHeld2 => ?_)
                            clear hK K hHeld
                            have hHeld := hHeld2
                            clear hHeld2
                            try simp only [Act.put, List.setIfInBounds_toArray, List.set_cons_zero, List.set_cons_succ]
                            have hTS1 := TS.t1
                            have hTS2 := TS.t2
                            have hTS3 := TS.t3
                            have hTS4 := TS.t4
                            have hTS5 := TS.t5
                            have hvb : ∀ g, v.ownBlock = some g → g < w.heap.size := fun g hg => (own_at HB.out.own hg).2.1
                            have hbbw := lt_of_at HB.out.box
                            have hw3 := HB3.out.size
                            have hlo := HR.out.lo
                            have h12w := H12.out.size
                            have own13 : (w12.alloc (.cells #[.iface TT uu, .int .u8 s.kind, .bool s.nil, .string s.text, .int .i16 s.number, .int .i8 s.small, .float .f64 s.re, .float .f64 s.im, .bool s.flag, .int .u32 s.mask, .slice ia2 s.items.length ic2, .slice pa2 s.parts.length pc2, .int .i64 sz, .int .i64 dp, .int .i64 lng, .int .i64 wd] 68)).drew.ownsRow base 68 16 (.slice va rows.length vc) rows.length (rowsC rows) := by rw [← hva]; exact ownsRow_drew (HBK.out.own.alloc _)
                            have hnews : ∀ j u, (rowC (⟨.iface TT uu, s, ia2, ic2, pa2, pc2, sz, dp, lng, wd⟩ : BRow))[j]? = some u → (w12.alloc (.cells #[.iface TT uu, .int .u8 s.kind, .bool s.nil, .string s.text, .int .i16 s.number, .int .i8 s.small, .float .f64 s.re, .float .f64 s.im, .bool s.flag, .int .u32 s.mask, .slice ia2 s.items.length ic2, .slice pa2 s.parts.length pc2, .int .i64 sz, .int .i64 dp, .int .i64 lng, .int .i64 wd] 68)).drew.cell? ((⟨w12.heap.size, 0, none⟩ : Addr).add j) = some u := fun j u hu => by
                              have := cell_of_block (alloc_at w12 (.cells #[.iface TT uu, .int .u8 s.kind, .bool s.nil, .string s.text, .int .i16 s.number, .int .i8 s.small, .float .f64 s.re, .float .f64 s.im, .bool s.flag, .int .u32 s.mask, .slice ia2 s.items.length ic2, .slice pa2 s.parts.length pc2, .int .i64 sz, .int .i64 dp, .int .i64 lng, .int .i64 wd] 68)) j
                              rw [show ((⟨w12.heap.size, 0, none⟩ : Addr).add j) = ⟨w12.heap.size, j, none⟩ by unfold Addr.add; split <;> simp_all]
                              exact this.trans (by rw [← hu]; simp [rowC])
                            obtain ⟨ir, hr0, hr1, hr2, hr3⟩ := info_parts info_row
                            have hlow := HBK.out.low
                            obtain ⟨v', w14, hrun, own14, hg14, hpl⟩ := run_append_place (P := Tryz.prog) (w12.alloc (.cells #[.iface TT uu, .int .u8 s.kind, .bool s.nil, .string s.text, .int .i16 s.number, .int .i8 s.small, .float .f64 s.re, .float .f64 s.im, .bool s.flag, .int .u32 s.mask, .slice ia2 s.items.length ic2, .slice pa2 s.parts.length pc2, .int .i64 sz, .int .i64 dp, .int .i64 lng, .int .i64 wd] 68)).drew base 59 59 68 ir (.agg rowZ) 16 152 Tryz.underlying59 hr0 hr1 hr2 hr3 rfl (by decide) (.slice va rows.length vc) rows.length (rowsC rows) own13 ⟨w12.heap.size, 0, none⟩ 1 1 (rowC (⟨.iface TT uu, s, ia2, ic2, pa2, pc2, sz, dp, lng, wd⟩ : BRow)) rfl hnews (by intro u hu; simp [rowC] at hu; rcases hu with rfl | rfl | rfl | rfl | rfl | rfl | rfl | rfl | rfl | rfl | rfl | rfl | rfl | rfl | rfl | rfl <;> rfl) (by simp only [maxLen]; omega) (by omega) (by simp; omega) (by decide)
                            obtain ⟨a', c', rfl⟩ : ∃ a c, v' = .slice a (rows.length + 1) c := by
                              rcases own14.2 with ⟨h1, h2⟩ | ⟨g, cap, cur, h1, _⟩
                              · omega
                              · exact ⟨_, _, h1⟩
                            rw [← hva] at hg14 hpl
                            have h13 : Ex (fun _ => False) w12 (w12.alloc (.cells #[.iface TT uu, .int .u8 s.kind, .bool s.nil, .string s.text, .int .i16 s.number, .int .i8 s.small, .float .f64 s.re, .float .f64 s.im, .bool s.flag, .int .u32 s.mask, .slice ia2 s.items.length ic2, .slice pa2 s.parts.length pc2, .int .i64 sz, .int .i64 dp, .int .i64 lng, .int .i64 wd] 68)).drew := ((Ex.refl _ _).alloc _).drew
                            have hszb := sumTo_bound (fun h => (rowAt rows h).size) s.parts 4096 (fun x => (rowAt_bounds HB.out x).1) s.parts.length
                            have hwdb := sumTo_bound (fun h => (rowAt rows h).words) s.parts 1048576 (fun x => (rowAt_bounds HB.out x).2.2.2) s.parts.length
                            have hdpb := maxTo_bound (fun h => (rowAt rows h).depth) s.parts 64 (by omega) (fun x => (rowAt_bounds HB.out x).2.1) s.parts.length
                            have hitb := itemsTo_bound s.items HLW.out s.items.length
                            have hlgb := longT_nonneg T rows s
                            have e1 := HSZ.out
                            have e2 := HDP.out
                            have e3 := HWD.out
                            have e4 := HLNG.out
                            unfold sizeF at e1
                            unfold depthF at e2
                            unfold wordsF at e3
                            have hok : RowOk (fun b => w3.heap.size ≤ b ∧ b < w12.heap.size ∧ b ≠ nb) w12 rows rows.length (⟨.iface TT uu, s, ia2, ic2, pa2, pc2, sz, dp, lng, wd⟩ : BRow) := ⟨HS.out, HCF.out, (HR.out.items.ev (Ev.of_ex HEX12.out fun b _ hD hS => hD.2 hS)).mono (fun b hD => ⟨hD.1.1, Nat.lt_of_lt_of_le hD.1.2 HEX12.out.size, hD.2⟩), (HR.out.parts.ev (Ev.of_ex HEX12.out fun b _ hD hS => hD.2 hS)).mono (fun b hD => ⟨hD.1.1, Nat.lt_of_lt_of_le hD.1.2 HEX12.out.size, hD.2⟩), HH.out, HER12.out.mono (fun b hF => ⟨by have := hF.1; omega, by have := hF.2; omega, by have := hF.1; omega⟩), ⟨by show 1 ≤ sz; omega, by show sz ≤ 4096; omega⟩, ⟨by show 1 ≤ dp; omega, by show dp ≤ 64; omega⟩, ⟨by show 0 ≤ lng; omega, by show lng ≤ 65536; omega⟩, ⟨by show 0 ≤ wd; omega, by show wd ≤ 1048576; omega⟩, HR.out.n1, HR.out.n2⟩
                            obtain ⟨D', hbk', hex', hD1, hD2, hD3⟩ := book_snoc (w3 := w3) (nb := nb) (r := (⟨.iface TT uu, s, ia2, ic2, pa2, pc2, sz, dp, lng, wd⟩ : BRow)) HBK.out (fun b hb => Nat.lt_of_lt_of_le (HDL.out b hb) hw3) (by omega) (fun g hg => Nat.lt_of_lt_of_le (hvb g hg) hw3) h13 own14 hg14 hpl hok (by omega) (by omega)
                            have hcb14 : w14.heap[bb]? = some (.cells #[v] 61 (0, 0)) := (hg14.block bb (by simp; omega) (fun e => by
                              obtain ⟨_, _, cur, hc⟩ := own_at HB.out.own e.symm
                              rw [HB.out.box] at hc; cases hc)).trans ((alloc_old _ _ _ (by omega)).trans HBK.out.box)
                            have hnb14 := (hg14.block nb (by simp; omega) (fun e => by have := hvb nb e.symm; omega)).trans hHeld
                            have FIN := Lib.hid (show MkPost T D base bb v rows s w (.returned (.tuple #[.int .i64 ((rows.length : Int) + 1), .int .i64 0])) (w14.setCell ⟨bb, 0, none⟩ (.slice a' (rows.length + 1) c')) from .inr ⟨by rw [MKE.out, if_neg (by omega), if_neg (by omega), if_neg (by omega), if_neg (by omega)], rfl, _, D', _, hbk', rfl, HSZ.out, HDP.out, HLNG.out, HWD.out, (Ex.of_below H12.out).trans hex' (fun _ _ h => h), hD1, fun b hb => hD2 b (by omega), hD3⟩)
                            have c15 := Lib.hid (show (w14.setCell ⟨bb, 0, none⟩ (.slice a' (rows.length + 1) c')).cell? ⟨bb, 0, none⟩ = some (.slice a' (rows.length + 1) c') from cell_of_block hbk'.box 0)
                            clear hTS1 hTS2 hTS3 hTS4 hTS5 hvb hbbw hw3 hlo h12w own13 hnews hlow own14 hg14 hpl h13 hszb hwdb hdpb hitb hlgb e1 e2 e3 e4 hok hbk' hex' hD1 hD2 hD3
                            refine wpAnyH_ready (rs := [7]) (by kernel_rfl) (by simp) ?_
                            refine ready_at (d := some 175) rfl rfl (by rfl) (fun K hK => ?_)
                            refine append_wp (.tmp 172) (.tmp 174) 59 rfl (.slice va rows.length vc) (.slice (some ⟨w12.heap.size, 0, none⟩) 1 1) (.slice a' (rows.length + 1) c') w14 rfl rfl hrun ?_
                            refine hK.out _ _ (hnb14) (fun hHeld2 => ?_)
                            clear hK K hHeld
                            have hHeld := hHeld2
                            clear hHeld2
                            try simp only [Act.put, List.setIfInBounds_toArray, List.set_cons_zero, List.set_cons_succ]
                            refine take_at (i := 8) (d := some 176) (v := ?_) rfl rfl (by kernel_rfl) (by kernel_rfl) (by kernel_rfl) (fun _ _ _ h => h) (Or.inl ⟨by rfl, fun w hSw => ?_⟩) hHeld ?_
                            rotate_left
                            · (try dsimp only at hSw); go_simp; try with_reducible rfl
                            try simp only [Act.put, List.setIfInBounds_toArray, List.set_cons_zero, List.set_cons_succ]
                            refine take_at (i := 9) (d := some 177) (v := ?_) rfl rfl (by kernel_rfl) (by kernel_rfl) (by kernel_rfl) (fun _ _ _ h => h) (Or.inl ⟨by rfl, fun w hSw => ?_⟩) hHeld ?_
                            rotate_left
                            · (try dsimp only at hSw); go_simp; try with_reducible rfl
                            try simp only [Act.put, List.setIfInBounds_toArray, List.set_cons_zero, List.set_cons_succ]
                            refine wpAnyH_ready (rs := [10]) (by kernel_rfl) (by simp) ?_
                            refine ready_at (d := none) rfl rfl (by rfl) (fun K hK => ?_)
                            refine wp_store_cell 59 (.tmp 177) (.tmp 175) rfl ⟨bb, 0, none⟩ v (.slice a' (rows.length + 1) c') rfl rfl (by kernel_rfl) rfl rfl (cell_of_block hcb14 0) (frozen_of_block hcb14 0) ?_
                            refine hK.out _ _ ((Below.heap_setCell _ _ _ _ (by show nb ≠ bb; omega)).trans hHeld) (fun hHeld2 => ?_)
                            clear hK K hHeld
                            have hHeld := hHeld2
                            clear hHeld2
                            try simp only [Act.put, List.setIfInBounds_toArray, List.set_cons_zero, List.set_cons_succ]
                            refine wpAnyH_done (by kernel_rfl) ?_ _
                            clear hHeld hnb14 hcb14 hrun
                            generalize w14.setCell ⟨bb, 0, none⟩ (.slice a' (rows.length + 1) c') = w15 at FIN c15 ⊢
                            have c16 := c15.out
                            go_wp2
                            go_ret2
                            exact FIN.out
                          · go_simp
                            refine hK.out _ _ ((alloc_old _ _ _ (lt_of_at hHeld)).trans hHeld) (fun hHeld2 => ?_)
                            clear hK K hHeld
                            have hHeld := hHeld2
                            clear hHeld2
                            try simp only [Act.put, List.setIfInBounds_toArray, List.set_cons_zero, List.set_cons_succ]
                            refine wpAnyH_ready (rs := [4]) (by kernel_rfl) (by simp) ?_
                            refine ready_at (d := some 172) rfl rfl (by rfl) (fun K hK => ?_)
                            refine wp_load_cell 59 (.tmp 171) rfl ⟨bb, 0, none⟩ rfl _ (((Below.refl _ _).alloc (Nat.le_refl _) _).cell (block_lt c12) |>.trans c12) _ Tryz.underlying59 rfl ?_
                            refine hK.out _ _ (hHeld) (fun hHeld2 => ?_)
                            clear hK K hHeld
                            have hHeld := hHeld2
                            clear hHeld2
                            try simp only [Act.put, List.setIfInBounds_toArray, List.set_cons_zero, List.set_cons_succ]
                            have hTS1 := TS.t1
                            have hTS2 := TS.t2
                            have hTS3 := TS.t3
                            have hTS4 := TS.t4
                            have hTS5 := TS.t5
                            have hvb : ∀ g, v.ownBlock = some g → g < w.heap.size := fun g hg => (own_at HB.out.own hg).2.1
                            have hbbw := lt_of_at HB.out.box
                            have hw3 := HB3.out.size
                            have hlo := HR.out.lo
                            have h12w := H12.out.size
                            have own13 : (w12.alloc (.cells #[.iface TT uu, .int .u8 s.kind, .bool s.nil, .string s.text, .int .i16 s.number, .int .i8 s.small, .float .f64 s.re, .float .f64 s.im, .bool s.flag, .int .u32 s.mask, .slice ia2 s.items.length ic2, .slice pa2 s.parts.length pc2, .int .i64 sz, .int .i64 dp, .int .i64 lng, .int .i64 wd] 68)).drew.ownsRow base 68 16 (.slice va rows.length vc) rows.length (rowsC rows) := by rw [← hva]; exact ownsRow_drew (HBK.out.own.alloc _)
                            have hnews : ∀ j u, (rowC (⟨.iface TT uu, s, ia2, ic2, pa2, pc2, sz, dp, lng, wd⟩ : BRow))[j]? = some u → (w12.alloc (.cells #[.iface TT uu, .int .u8 s.kind, .bool s.nil, .string s.text, .int .i16 s.number, .int .i8 s.small, .float .f64 s.re, .float .f64 s.im, .bool s.flag, .int .u32 s.mask, .slice ia2 s.items.length ic2, .slice pa2 s.parts.length pc2, .int .i64 sz, .int .i64 dp, .int .i64 lng, .int .i64 wd] 68)).drew.cell? ((⟨w12.heap.size, 0, none⟩ : Addr).add j) = some u := fun j u hu => by
                              have := cell_of_block (alloc_at w12 (.cells #[.iface TT uu, .int .u8 s.kind, .bool s.nil, .string s.text, .int .i16 s.number, .int .i8 s.small, .float .f64 s.re, .float .f64 s.im, .bool s.flag, .int .u32 s.mask, .slice ia2 s.items.length ic2, .slice pa2 s.parts.length pc2, .int .i64 sz, .int .i64 dp, .int .i64 lng, .int .i64 wd] 68)) j
                              rw [show ((⟨w12.heap.size, 0, none⟩ : Addr).add j) = ⟨w12.heap.size, j, none⟩ by unfold Addr.add; split <;> simp_all]
                              exact this.trans (by rw [← hu]; simp [rowC])
                            obtain ⟨ir, hr0, hr1, hr2, hr3⟩ := info_parts info_row
                            have hlow := HBK.out.low
                            obtain ⟨v', w14, hrun, own14, hg14, hpl⟩ := run_append_place (P := Tryz.prog) (w12.alloc (.cells #[.iface TT uu, .int .u8 s.kind, .bool s.nil, .string s.text, .int .i16 s.number, .int .i8 s.small, .float .f64 s.re, .float .f64 s.im, .bool s.flag, .int .u32 s.mask, .slice ia2 s.items.length ic2, .slice pa2 s.parts.length pc2, .int .i64 sz, .int .i64 dp, .int .i64 lng, .int .i64 wd] 68)).drew base 59 59 68 ir (.agg rowZ) 16 152 Tryz.underlying59 hr0 hr1 hr2 hr3 rfl (by decide) (.slice va rows.length vc) rows.length (rowsC rows) own13 ⟨w12.heap.size, 0, none⟩ 1 1 (rowC (⟨.iface TT uu, s, ia2, ic2, pa2, pc2, sz, dp, lng, wd⟩ : BRow)) rfl hnews (by intro u hu; simp [rowC] at hu; rcases hu with rfl | rfl | rfl | rfl | rfl | rfl | rfl | rfl | rfl | rfl | rfl | rfl | rfl | rfl | rfl | rfl <;> rfl) (by simp only [maxLen]; omega) (by omega) (by simp; omega) (by decide)
                            obtain ⟨a', c', rfl⟩ : ∃ a c, v' = .slice a (rows.length + 1) c := by
                              rcases own14.2 with ⟨h1, h2⟩ | ⟨g, cap, cur, h1, _⟩
                              · omega
                              · exact ⟨_, _, h1⟩
                            rw [← hva] at hg14 hpl
                            have h13 : Ex (fun _ => False) w12 (w12.alloc (.cells #[.iface TT uu, .int .u8 s.kind, .bool s.nil, .string s.text, .int .i16 s.number, .int .i8 s.small, .float .f64 s.re, .float .f64 s.im, .bool s.flag, .int .u32 s.mask, .slice ia2 s.items.length ic2, .slice pa2 s.parts.length pc2, .int .i64 sz, .int .i64 dp, .int .i64 lng, .int .i64 wd] 68)).drew := ((Ex.refl _ _).alloc _).drew
                            have hszb := sumTo_bound (fun h => (rowAt rows h).size) s.parts 4096 (fun x => (rowAt_bounds HB.out x).1) s.parts.length
                            have hwdb := sumTo_bound (fun h => (rowAt rows h).words) s.parts 1048576 (fun x => (rowAt_bounds HB.out x).2.2.2) s.parts.length
                            have hdpb := maxTo_bound (fun h => (rowAt rows h).depth) s.parts 64 (by omega) (fun x => (rowAt_bounds HB.out x).2.1) s.parts.length
                            have hitb := itemsTo_bound s.items HLW.out s.items.length
                            have hlgb := longT_nonneg T rows s
                            have e1 := HSZ.out
                            have e2 := HDP.out
                            have e3 := HWD.out
                            have e4 := HLNG.out
                            unfold sizeF at e1
                            unfold depthF at e2
                            unfold wordsF at e3
                            have hok : RowOk (fun b => w3.heap.size ≤ b ∧ b < w12.heap.size ∧ b ≠ nb) w12 rows rows.length (⟨.iface TT uu, s, ia2, ic2, pa2, pc2, sz, dp, lng, wd⟩ : BRow) := ⟨HS.out, HCF.out, (HR.out.items.ev (Ev.of_ex HEX12.out fun b _ hD hS => hD.2 hS)).mono (fun b hD => ⟨hD.1.1, Nat.lt_of_lt_of_le hD.1.2 HEX12.out.size, hD.2⟩), (HR.out.parts.ev (Ev.of_ex HEX12.out fun b _ hD hS => hD.2 hS)).mono (fun b hD => ⟨hD.1.1, Nat.lt_of_lt_of_le hD.1.2 HEX12.out.size, hD.2⟩), HH.out, HER12.out.mono (fun b hF => ⟨by have := hF.1; omega, by have := hF.2; omega, by have := hF.1; omega⟩), ⟨by show 1 ≤ sz; omega, by show sz ≤ 4096; omega⟩, ⟨by show 1 ≤ dp; omega, by show dp ≤ 64; omega⟩, ⟨by show 0 ≤ lng; omega, by show lng ≤ 65536; omega⟩, ⟨by show 0 ≤ wd; omega, by show wd ≤ 1048576; omega⟩, HR.out.n1, HR.out.n2⟩
                            obtain ⟨D', hbk', hex', hD1, hD2, hD3⟩ := book_snoc (w3 := w3) (nb := nb) (r := (⟨.iface TT uu, s, ia2, ic2, pa2, pc2, sz, dp, lng, wd⟩ : BRow)) HBK.out (fun b hb => Nat.lt_of_lt_of_le (HDL.out b hb) hw3) (by omega) (fun g hg => Nat.lt_of_lt_of_le (hvb g hg) hw3) h13 own14 hg14 hpl hok (by omega) (by omega)
                            have hcb14 : w14.heap[bb]? = some (.cells #[v] 61 (0, 0)) := (hg14.block bb (by simp; omega) (fun e => by
                              obtain ⟨_, _, cur, hc⟩ := own_at HB.out.own e.symm
                              rw [HB.out.box] at hc; cases hc)).trans ((alloc_old _ _ _ (by omega)).trans HBK.out.box)
                            have hnb14 := (hg14.block nb (by simp; omega) (fun e => by have := hvb nb e.symm; omega)).trans hHeld
                            have FIN := Lib.hid (show MkPost T D base bb v rows s w (.returned (.tuple #[.int .i64 ((rows.length : Int) + 1), .int .i64 0])) (w14.setCell ⟨bb, 0, none⟩ (.slice a' (rows.length + 1) c')) from .inr ⟨by rw [MKE.out, if_neg (by omega), if_neg (by omega), if_neg (by omega), if_neg (by omega)], rfl, _, D', _, hbk', rfl, HSZ.out, HDP.out, HLNG.out, HWD.out, (Ex.of_below H12.out).trans hex' (fun _ _ h => h), hD1, fun b hb => hD2 b (by omega), hD3⟩)
                            have c15 := Lib.hid (show (w14.setCell ⟨bb, 0, none⟩ (.slice a' (rows.length + 1) c')).cell? ⟨bb, 0, none⟩ = some (.slice a' (rows.length + 1) c') from cell_of_block hbk'.box 0)
                            clear hTS1 hTS2 hTS3 hTS4 hTS5 hvb hbbw hw3 hlo h12w own13 hnews hlow own14 hg14 hpl h13 hszb hwdb hdpb hitb hlgb e1 e2 e3 e4 hok hbk' hex' hD1 hD2 hD3
                            refine wpAnyH_ready (rs := [7]) (by kernel_rfl) (by simp) ?_
                            refine ready_at (d := some 175) rfl rfl (by rfl) (fun K hK => ?_)
                            refine append_wp (.tmp 172) (.tmp 174) 59 rfl (.slice va rows.length vc) (.slice (some ⟨w12.heap.size, 0, none⟩) 1 1) (.slice a' (rows.length + 1) c') w14 rfl rfl hrun ?_
                            refine hK.out _ _ (hnb14) (fun hHeld2 => ?_)
                            clear hK K hHeld
                            have hHeld := hHeld2
                            clear hHeld2
                            try simp only [Act.put, List.setIfInBounds_toArray, List.set_cons_zero, List.set_cons_succ]
                            refine take_at (i := 8) (d := some 176) (v := ?_) rfl rfl (by kernel_rfl) (by kernel_rfl) (by kernel_rfl) (fun _ _ _ h => h) (Or.inl ⟨by rfl, fun w hSw => ?_⟩) hHeld ?_
                            rotate_left
                            · (try dsimp only at hSw); go_simp; try with_reducible rfl
                            try simp only [Act.put, List.setIfInBounds_toArray, List.set_cons_zero, List.set_cons_succ]
                            refine take_at (i := 9) (d := some 177) (v := ?_) rfl rfl (by kernel_rfl) (by kernel_rfl) (by kernel_rfl) (fun _ _ _ h => h) (Or.inl ⟨by rfl, fun w hSw => ?_⟩) hHeld ?_
                            rotate_left
                            · (try dsimp only at hSw); go_simp; try with_reducible rfl
                            try simp only [Act.put, List.setIfInBounds_toArray, List.set_cons_zero, List.set_cons_succ]
                            refine wpAnyH_ready (rs := [10]) (by kernel_rfl) (by simp) ?_
                            refine ready_at (d := none) rfl rfl (by rfl) (fun K hK => ?_)
                            refine wp_store_cell 59 (.tmp 177) (.tmp 175) rfl ⟨bb, 0, none⟩ v (.slice a' (rows.length + 1) c') rfl rfl (by kernel_rfl) rfl rfl (cell_of_block hcb14 0) (frozen_of_block hcb14 0) ?_
                            refine hK.out _ _ ((Below.heap_setCell _ _ _ _ (by show nb ≠ bb; omega)).trans hHeld) (fun hHeld2 => ?_)
                            clear hK K hHeld
                            have hHeld := hHeld2
                            clear hHeld2
                            try simp only [Act.put, List.setIfInBounds_toArray, List.set_cons_zero, List.set_cons_succ]
                            refine wpAnyH_done (by kernel_rfl) ?_ _
                            clear hHeld hnb14 hcb14 hrun
                            generalize w14.setCell ⟨bb, 0, none⟩ (.slice a' (rows.length + 1) c') = w15 at FIN c15 ⊢
                            have c16 := c15.out
                            go_wp2
                            go_ret2
                            exact FIN.out
end Go.Proofs.YtfmnbhhpimpjbaaGreatDoor
