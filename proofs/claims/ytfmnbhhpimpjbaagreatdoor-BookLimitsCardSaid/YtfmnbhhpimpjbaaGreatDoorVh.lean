/- kinds.Make of an error around another one. -/
import Derived.Test.YtfmnbhhpimpjbaaGreatDoorVg
import Derived.Test.YtfmnbhhpimpjbaaGreatDoorRg
namespace Go.Proofs.YtfmnbhhpimpjbaaGreatDoor
open Go.RowKit
set_option linter.unusedVariables false

set_option maxRecDepth 100000 in
set_option maxHeartbeats 8000000 in
theorem make_around (s : Sp) (hs : s.Ok) (hc : checkF s = 0) (hk : aroundK s.kind) (hnil : s.nil = false) (ia : Option Addr) (ic : Nat) (pa : Option Addr) (pc : Nat) (ps : List Value) (hev : EV (ps.headD .nilIface)) (a : Option Addr) (c : Nat) (hl : ps.length = s.parts.length)
    (w : World) (hI : ItemsIn w ia s.items) (hP : ErrsIn w a ps) :
    Calls Tryz.prog 27 #[.agg (spC s ia ic pa pc), .slice a ps.length c] w (Made w s ps) := by
  have HX := Lib.hid (alloc_at w (.cells (spC s ia ic pa pc) 34))
  have hb0 : Below w.heap.size w (w.alloc (.cells (spC s ia ic pa pc) 34)) := (Below.refl _ _).alloc (Nat.le_refl _) _
  have HC := Lib.hid (check_any s hs ia ic pa pc _ (hI.below hb0))
  obtain ⟨hp64, ht4, hi64⟩ := checkF_parts hc
  rw [hc] at HC
  obtain ⟨v0, hv0⟩ : ∃ v0, v0 = ps.headD .nilIface := ⟨_, rfl⟩
  have HA := Lib.hid (fun w' => around_any s hk hnil v0 ps hv0.symm (by rw [hv0]; exact hev) ia ic pa pc w')
  have HP := Lib.hid hP
  have HN := Lib.hid (fun w' h => part_any a c ps (by omega) w' h)
  have hn : ((s.parts.length : Int) != (s.parts.length : Int)) = false := by simp
  rw [hl] at HN
  rw [← hv0] at HN
  clear hev hv0
  rw [hl]
  obtain ⟨kind, nil, text, number, small, re, im, flag, mask, items, parts⟩ := s
  simp only at hnil hk
  subst hnil
  unfold spC at *
  clear hc hI hs
  go_enter Tryz.func27, Tryz.ntmps27
  go_wp2_with ((with_reducible refine at_op (.load 34 (.tmp 2)) rfl ?_); refine wpList_load_row rfl 34 (.tmp 2) rfl w.heap.size rfl 34 _ (0, 0) _ HX.out Tryz.underlying34 rfl (by kernel_rfl) ?_)
  refine HC.out.mono ?_
  rintro e w2 ⟨rfl, b2⟩
  have bel2 : Below w.heap.size w w2 := ((Below.refl _ _).alloc (Nat.le_refl _) _).trans (b2.mono (by simp))
  have H2 := Lib.hid ((b2.block w.heap.size (by simp)).trans HX.out)
  have H2d := Lib.hid (show w2.drew.heap[w.heap.size]? = _ from H2.out)
  have hcell := fun i => cell_of_block H2.out i
  have KN := Lib.hid (HN.out w2.drew (HP.out.below bel2.drew))
  have KA := Lib.hid (HA.out w2.drew)
  clear HC b2 HX hb0 HN HA
  have HX := H2d
  rcases hk with rfl | rfl | rfl | rfl | rfl
  · go_wp2_with fail
    refine wp_region_held_drew (S := fun w' => w'.heap[w.heap.size]? = some (.cells #[.int .u8 13, .bool false, .string text, .int .i16 number, .int .i8 small, .float .f64 re, .float .f64 im, .bool flag, .int .u32 mask, .slice ia items.length ic, .slice pa parts.length pc] 34 (0, 0))) (by kernel_rfl) (H2d.out) (fun hHeld => ?_)
    refine take_at (i := 0) (d := some 67) rfl rfl (by kernel_rfl) (by kernel_rfl) (by kernel_rfl) (fun _ _ _ h => h) (Or.inl ⟨by rfl, fun w hSw => exec_load_row 34 (.tmp 2) rfl _ rfl _ _ _ _ hSw Tryz.underlying34 rfl (by kernel_rfl)⟩) hHeld ?_
    try simp only [Act.put, List.setIfInBounds_toArray, List.set_cons_zero, List.set_cons_succ]
    refine take_at (i := 1) (d := some 68) rfl rfl (by kernel_rfl) (by kernel_rfl) (by kernel_rfl) (fun _ _ _ h => h) (Or.inl ⟨by rfl, fun w hSw => exec_move (.tmp 1) rfl⟩) hHeld ?_
    try simp only [Act.put, List.setIfInBounds_toArray, List.set_cons_zero, List.set_cons_succ]
    refine wpAnyH_ready (rs := [2]) (by kernel_rfl) (by simp) ?_
    refine ready_at (d := some 69) rfl rfl (by rfl) (fun K hK => ?_)
    go_simp
    go_at_call 51
    refine KN.out.mono ?_
    rintro e w' ⟨rfl, rfl⟩
    go_wp2_with fail
    refine hK.out _ _ (hHeld) (fun hHeld2 => ?_)
    clear hK K hHeld
    have hHeld := hHeld2
    clear hHeld2
    try simp only [Act.put, List.setIfInBounds_toArray, List.set_cons_zero, List.set_cons_succ]
    refine wpAnyH_ready (rs := [3]) (by kernel_rfl) (by simp) ?_
    refine ready_at (d := some 70) rfl rfl (by rfl) (fun K hK => ?_)
    go_simp
    go_at_call 53
    refine KA.out.mono ?_
    rintro e w3 ⟨x, rfl, hT, he, b3⟩
    have HE := Lib.hid he
    have B3 := Lib.hid b3
    have hH3 := (b3.block _ (by exact lt_of_at hHeld)).trans hHeld
    clear he b3
    go_wp2_with fail
    refine hK.out _ _ (hH3) (fun hHeld2 => ?_)
    clear hK K hHeld
    have hHeld := hHeld2
    clear hHeld2
    try simp only [Act.put, List.setIfInBounds_toArray, List.set_cons_zero, List.set_cons_succ]
    refine wpAnyH_ready (rs := [4]) (by kernel_rfl) (by simp) ?_
    refine ready_at (d := some 4) rfl rfl (by rfl) (fun K hK => ?_)
    go_simp
    refine hK.out _ _ (hHeld) (fun hHeld2 => ?_)
    clear hK K hHeld2
    try simp only [Act.put, List.setIfInBounds_toArray, List.set_cons_zero, List.set_cons_succ]
    refine wpAnyH_ready (rs := [5]) (by kernel_rfl) (by simp) ?_
    refine ready_at (d := some 5) rfl rfl (by rfl) (fun K hK => ?_)
    go_simp
    refine hK.out _ _ (hHeld) (fun hHeld2 => ?_)
    clear hK K hHeld2
    try simp only [Act.put, List.setIfInBounds_toArray, List.set_cons_zero, List.set_cons_succ]
    refine wpAnyH_done (by kernel_rfl) ?_ _
    have bel3 := Lib.hid (bel2.trans (show Below w.heap.size w2 w3 from (Below.refl _ _).drew.trans (B3.out.mono bel2.size)))
    have HE3 := Lib.hid (HE.out.mono (Fresh.mono (w := w) (w1 := w2.drew) bel2.size))
    clear HE B3 hHeld hH3
    go_wp2
    go_ret2
    exact ⟨x, rfl, hT, HE3.out, bel3.out⟩
  · go_wp2_with fail
    refine wp_region_held_drew (S := fun w' => w'.heap[w.heap.size]? = some (.cells #[.int .u8 14, .bool false, .string text, .int .i16 number, .int .i8 small, .float .f64 re, .float .f64 im, .bool flag, .int .u32 mask, .slice ia items.length ic, .slice pa parts.length pc] 34 (0, 0))) (by kernel_rfl) (H2d.out) (fun hHeld => ?_)
    refine take_at (i := 0) (d := some 67) rfl rfl (by kernel_rfl) (by kernel_rfl) (by kernel_rfl) (fun _ _ _ h => h) (Or.inl ⟨by rfl, fun w hSw => exec_load_row 34 (.tmp 2) rfl _ rfl _ _ _ _ hSw Tryz.underlying34 rfl (by kernel_rfl)⟩) hHeld ?_
    try simp only [Act.put, List.setIfInBounds_toArray, List.set_cons_zero, List.set_cons_succ]
    refine take_at (i := 1) (d := some 68) rfl rfl (by kernel_rfl) (by kernel_rfl) (by kernel_rfl) (fun _ _ _ h => h) (Or.inl ⟨by rfl, fun w hSw => exec_move (.tmp 1) rfl⟩) hHeld ?_
    try simp only [Act.put, List.setIfInBounds_toArray, List.set_cons_zero, List.set_cons_succ]
    refine wpAnyH_ready (rs := [2]) (by kernel_rfl) (by simp) ?_
    refine ready_at (d := some 69) rfl rfl (by rfl) (fun K hK => ?_)
    go_simp
    go_at_call 51
    refine KN.out.mono ?_
    rintro e w' ⟨rfl, rfl⟩
    go_wp2_with fail
    refine hK.out _ _ (hHeld) (fun hHeld2 => ?_)
    clear hK K hHeld
    have hHeld := hHeld2
    clear hHeld2
    try simp only [Act.put, List.setIfInBounds_toArray, List.set_cons_zero, List.set_cons_succ]
    refine wpAnyH_ready (rs := [3]) (by kernel_rfl) (by simp) ?_
    refine ready_at (d := some 70) rfl rfl (by rfl) (fun K hK => ?_)
    go_simp
    go_at_call 53
    refine KA.out.mono ?_
    rintro e w3 ⟨x, rfl, hT, he, b3⟩
    have HE := Lib.hid he
    have B3 := Lib.hid b3
    have hH3 := (b3.block _ (by exact lt_of_at hHeld)).trans hHeld
    clear he b3
    go_wp2_with fail
    refine hK.out _ _ (hH3) (fun hHeld2 => ?_)
    clear hK K hHeld
    have hHeld := hHeld2
    clear hHeld2
    try simp only [Act.put, List.setIfInBounds_toArray, List.set_cons_zero, List.set_cons_succ]
    refine wpAnyH_ready (rs := [4]) (by kernel_rfl) (by simp) ?_
    refine ready_at (d := some 4) rfl rfl (by rfl) (fun K hK => ?_)
    go_simp
    refine hK.out _ _ (hHeld) (fun hHeld2 => ?_)
    clear hK K hHeld2
    try simp only [Act.put, List.setIfInBounds_toArray, List.set_cons_zero, List.set_cons_succ]
    refine wpAnyH_ready (rs := [5]) (by kernel_rfl) (by simp) ?_
    refine ready_at (d := some 5) rfl rfl (by rfl) (fun K hK => ?_)
    go_simp
    refine hK.out _ _ (hHeld) (fun hHeld2 => ?_)
    clear hK K hHeld2
    try simp only [Act.put, List.setIfInBounds_toArray, List.set_cons_zero, List.set_cons_succ]
    refine wpAnyH_done (by kernel_rfl) ?_ _
    have bel3 := Lib.hid (bel2.trans (show Below w.heap.size w2 w3 from (Below.refl _ _).drew.trans (B3.out.mono bel2.size)))
    have HE3 := Lib.hid (HE.out.mono (Fresh.mono (w := w) (w1 := w2.drew) bel2.size))
    clear HE B3 hHeld hH3
    go_wp2
    go_ret2
    exact ⟨x, rfl, hT, HE3.out, bel3.out⟩
  · go_wp2_with fail
    refine wp_region_held_drew (S := fun w' => w'.heap[w.heap.size]? = some (.cells #[.int .u8 15, .bool false, .string text, .int .i16 number, .int .i8 small, .float .f64 re, .float .f64 im, .bool flag, .int .u32 mask, .slice ia items.length ic, .slice pa parts.length pc] 34 (0, 0))) (by kernel_rfl) (H2d.out) (fun hHeld => ?_)
    refine take_at (i := 0) (d := some 67) rfl rfl (by kernel_rfl) (by kernel_rfl) (by kernel_rfl) (fun _ _ _ h => h) (Or.inl ⟨by rfl, fun w hSw => exec_load_row 34 (.tmp 2) rfl _ rfl _ _ _ _ hSw Tryz.underlying34 rfl (by kernel_rfl)⟩) hHeld ?_
    try simp only [Act.put, List.setIfInBounds_toArray, List.set_cons_zero, List.set_cons_succ]
    refine take_at (i := 1) (d := some 68) rfl rfl (by kernel_rfl) (by kernel_rfl) (by kernel_rfl) (fun _ _ _ h => h) (Or.inl ⟨by rfl, fun w hSw => exec_move (.tmp 1) rfl⟩) hHeld ?_
    try simp only [Act.put, List.setIfInBounds_toArray, List.set_cons_zero, List.set_cons_succ]
    refine wpAnyH_ready (rs := [2]) (by kernel_rfl) (by simp) ?_
    refine ready_at (d := some 69) rfl rfl (by rfl) (fun K hK => ?_)
    go_simp
    go_at_call 51
    refine KN.out.mono ?_
    rintro e w' ⟨rfl, rfl⟩
    go_wp2_with fail
    refine hK.out _ _ (hHeld) (fun hHeld2 => ?_)
    clear hK K hHeld
    have hHeld := hHeld2
    clear hHeld2
    try simp only [Act.put, List.setIfInBounds_toArray, List.set_cons_zero, List.set_cons_succ]
    refine wpAnyH_ready (rs := [3]) (by kernel_rfl) (by simp) ?_
    refine ready_at (d := some 70) rfl rfl (by rfl) (fun K hK => ?_)
    go_simp
    go_at_call 53
    refine KA.out.mono ?_
    rintro e w3 ⟨x, rfl, hT, he, b3⟩
    have HE := Lib.hid he
    have B3 := Lib.hid b3
    have hH3 := (b3.block _ (by exact lt_of_at hHeld)).trans hHeld
    clear he b3
    go_wp2_with fail
    refine hK.out _ _ (hH3) (fun hHeld2 => ?_)
    clear hK K hHeld
    have hHeld := hHeld2
    clear hHeld2
    try simp only [Act.put, List.setIfInBounds_toArray, List.set_cons_zero, List.set_cons_succ]
    refine wpAnyH_ready (rs := [4]) (by kernel_rfl) (by simp) ?_
    refine ready_at (d := some 4) rfl rfl (by rfl) (fun K hK => ?_)
    go_simp
    refine hK.out _ _ (hHeld) (fun hHeld2 => ?_)
    clear hK K hHeld2
    try simp only [Act.put, List.setIfInBounds_toArray, List.set_cons_zero, List.set_cons_succ]
    refine wpAnyH_ready (rs := [5]) (by kernel_rfl) (by simp) ?_
    refine ready_at (d := some 5) rfl rfl (by rfl) (fun K hK => ?_)
    go_simp
    refine hK.out _ _ (hHeld) (fun hHeld2 => ?_)
    clear hK K hHeld2
    try simp only [Act.put, List.setIfInBounds_toArray, List.set_cons_zero, List.set_cons_succ]
    refine wpAnyH_done (by kernel_rfl) ?_ _
    have bel3 := Lib.hid (bel2.trans (show Below w.heap.size w2 w3 from (Below.refl _ _).drew.trans (B3.out.mono bel2.size)))
    have HE3 := Lib.hid (HE.out.mono (Fresh.mono (w := w) (w1 := w2.drew) bel2.size))
    clear HE B3 hHeld hH3
    go_wp2
    go_ret2
    exact ⟨x, rfl, hT, HE3.out, bel3.out⟩
  · go_wp2_with fail
    refine wp_region_held_drew (S := fun w' => w'.heap[w.heap.size]? = some (.cells #[.int .u8 17, .bool false, .string text, .int .i16 number, .int .i8 small, .float .f64 re, .float .f64 im, .bool flag, .int .u32 mask, .slice ia items.length ic, .slice pa parts.length pc] 34 (0, 0))) (by kernel_rfl) (H2d.out) (fun hHeld => ?_)
    refine take_at (i := 0) (d := some 67) rfl rfl (by kernel_rfl) (by kernel_rfl) (by kernel_rfl) (fun _ _ _ h => h) (Or.inl ⟨by rfl, fun w hSw => exec_load_row 34 (.tmp 2) rfl _ rfl _ _ _ _ hSw Tryz.underlying34 rfl (by kernel_rfl)⟩) hHeld ?_
    try simp only [Act.put, List.setIfInBounds_toArray, List.set_cons_zero, List.set_cons_succ]
    refine take_at (i := 1) (d := some 68) rfl rfl (by kernel_rfl) (by kernel_rfl) (by kernel_rfl) (fun _ _ _ h => h) (Or.inl ⟨by rfl, fun w hSw => exec_move (.tmp 1) rfl⟩) hHeld ?_
    try simp only [Act.put, List.setIfInBounds_toArray, List.set_cons_zero, List.set_cons_succ]
    refine wpAnyH_ready (rs := [2]) (by kernel_rfl) (by simp) ?_
    refine ready_at (d := some 69) rfl rfl (by rfl) (fun K hK => ?_)
    go_simp
    go_at_call 51
    refine KN.out.mono ?_
    rintro e w' ⟨rfl, rfl⟩
    go_wp2_with fail
    refine hK.out _ _ (hHeld) (fun hHeld2 => ?_)
    clear hK K hHeld
    have hHeld := hHeld2
    clear hHeld2
    try simp only [Act.put, List.setIfInBounds_toArray, List.set_cons_zero, List.set_cons_succ]
    refine wpAnyH_ready (rs := [3]) (by kernel_rfl) (by simp) ?_
    refine ready_at (d := some 70) rfl rfl (by rfl) (fun K hK => ?_)
    go_simp
    go_at_call 53
    refine KA.out.mono ?_
    rintro e w3 ⟨x, rfl, hT, he, b3⟩
    have HE := Lib.hid he
    have B3 := Lib.hid b3
    have hH3 := (b3.block _ (by exact lt_of_at hHeld)).trans hHeld
    clear he b3
    go_wp2_with fail
    refine hK.out _ _ (hH3) (fun hHeld2 => ?_)
    clear hK K hHeld
    have hHeld := hHeld2
    clear hHeld2
    try simp only [Act.put, List.setIfInBounds_toArray, List.set_cons_zero, List.set_cons_succ]
    refine wpAnyH_ready (rs := [4]) (by kernel_rfl) (by simp) ?_
    refine ready_at (d := some 4) rfl rfl (by rfl) (fun K hK => ?_)
    go_simp
    refine hK.out _ _ (hHeld) (fun hHeld2 => ?_)
    clear hK K hHeld2
    try simp only [Act.put, List.setIfInBounds_toArray, List.set_cons_zero, List.set_cons_succ]
    refine wpAnyH_ready (rs := [5]) (by kernel_rfl) (by simp) ?_
    refine ready_at (d := some 5) rfl rfl (by rfl) (fun K hK => ?_)
    go_simp
    refine hK.out _ _ (hHeld) (fun hHeld2 => ?_)
    clear hK K hHeld2
    try simp only [Act.put, List.setIfInBounds_toArray, List.set_cons_zero, List.set_cons_succ]
    refine wpAnyH_done (by kernel_rfl) ?_ _
    have bel3 := Lib.hid (bel2.trans (show Below w.heap.size w2 w3 from (Below.refl _ _).drew.trans (B3.out.mono bel2.size)))
    have HE3 := Lib.hid (HE.out.mono (Fresh.mono (w := w) (w1 := w2.drew) bel2.size))
    clear HE B3 hHeld hH3
    go_wp2
    go_ret2
    exact ⟨x, rfl, hT, HE3.out, bel3.out⟩
  · go_wp2_with fail
    refine wp_region_held_drew (S := fun w' => w'.heap[w.heap.size]? = some (.cells #[.int .u8 20, .bool false, .string text, .int .i16 number, .int .i8 small, .float .f64 re, .float .f64 im, .bool flag, .int .u32 mask, .slice ia items.length ic, .slice pa parts.length pc] 34 (0, 0))) (by kernel_rfl) (H2d.out) (fun hHeld => ?_)
    refine take_at (i := 0) (d := some 67) rfl rfl (by kernel_rfl) (by kernel_rfl) (by kernel_rfl) (fun _ _ _ h => h) (Or.inl ⟨by rfl, fun w hSw => exec_load_row 34 (.tmp 2) rfl _ rfl _ _ _ _ hSw Tryz.underlying34 rfl (by kernel_rfl)⟩) hHeld ?_
    try simp only [Act.put, List.setIfInBounds_toArray, List.set_cons_zero, List.set_cons_succ]
    refine take_at (i := 1) (d := some 68) rfl rfl (by kernel_rfl) (by kernel_rfl) (by kernel_rfl) (fun _ _ _ h => h) (Or.inl ⟨by rfl, fun w hSw => exec_move (.tmp 1) rfl⟩) hHeld ?_
    try simp only [Act.put, List.setIfInBounds_toArray, List.set_cons_zero, List.set_cons_succ]
    refine wpAnyH_ready (rs := [2]) (by kernel_rfl) (by simp) ?_
    refine ready_at (d := some 69) rfl rfl (by rfl) (fun K hK => ?_)
    go_simp
    go_at_call 51
    refine KN.out.mono ?_
    rintro e w' ⟨rfl, rfl⟩
    go_wp2_with fail
    refine hK.out _ _ (hHeld) (fun hHeld2 => ?_)
    clear hK K hHeld
    have hHeld := hHeld2
    clear hHeld2
    try simp only [Act.put, List.setIfInBounds_toArray, List.set_cons_zero, List.set_cons_succ]
    refine wpAnyH_ready (rs := [3]) (by kernel_rfl) (by simp) ?_
    refine ready_at (d := some 70) rfl rfl (by rfl) (fun K hK => ?_)
    go_simp
    go_at_call 53
    refine KA.out.mono ?_
    rintro e w3 ⟨x, rfl, hT, he, b3⟩
    have HE := Lib.hid he
    have B3 := Lib.hid b3
    have hH3 := (b3.block _ (by exact lt_of_at hHeld)).trans hHeld
    clear he b3
    go_wp2_with fail
    refine hK.out _ _ (hH3) (fun hHeld2 => ?_)
    clear hK K hHeld
    have hHeld := hHeld2
    clear hHeld2
    try simp only [Act.put, List.setIfInBounds_toArray, List.set_cons_zero, List.set_cons_succ]
    refine wpAnyH_ready (rs := [4]) (by kernel_rfl) (by simp) ?_
    refine ready_at (d := some 4) rfl rfl (by rfl) (fun K hK => ?_)
    go_simp
    refine hK.out _ _ (hHeld) (fun hHeld2 => ?_)
    clear hK K hHeld2
    try simp only [Act.put, List.setIfInBounds_toArray, List.set_cons_zero, List.set_cons_succ]
    refine wpAnyH_ready (rs := [5]) (by kernel_rfl) (by simp) ?_
    refine ready_at (d := some 5) rfl rfl (by rfl) (fun K hK => ?_)
    go_simp
    refine hK.out _ _ (hHeld) (fun hHeld2 => ?_)
    clear hK K hHeld2
    try simp only [Act.put, List.setIfInBounds_toArray, List.set_cons_zero, List.set_cons_succ]
    refine wpAnyH_done (by kernel_rfl) ?_ _
    have bel3 := Lib.hid (bel2.trans (show Below w.heap.size w2 w3 from (Below.refl _ _).drew.trans (B3.out.mono bel2.size)))
    have HE3 := Lib.hid (HE.out.mono (Fresh.mono (w := w) (w1 := w2.drew) bel2.size))
    clear HE B3 hHeld hH3
    go_wp2
    go_ret2
    exact ⟨x, rfl, hT, HE3.out, bel3.out⟩
end Go.Proofs.YtfmnbhhpimpjbaaGreatDoor
