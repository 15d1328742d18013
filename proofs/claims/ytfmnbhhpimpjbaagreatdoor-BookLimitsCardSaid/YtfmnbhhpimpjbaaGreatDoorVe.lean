/- slices.Clone of texts, of numbers, of errors; twin: a spec in memory of its own. -/
import Derived.Test.YtfmnbhhpimpjbaaGreatDoorVc
namespace Go.Proofs.YtfmnbhhpimpjbaaGreatDoor
open Go.RowKit
set_option linter.unusedVariables false

/-- Blocks made since. -/
def Fresh (w w' : World) : Nat → Prop := fun b => w.heap.size ≤ b ∧ b < w'.heap.size
theorem info_str : (Tryz.prog.info? 9).map (fun i => (i.zero, i.size, i.bytes)) = some (some (.string ⟨#[]⟩), 1, 16) := by kernel_rfl
theorem info_int' : (Tryz.prog.info? 3).map (fun i => (i.zero, i.size, i.bytes)) = some (some (.int .i64 0), 1, 8) := by kernel_rfl
theorem info_err : (Tryz.prog.info? 39).map (fun i => (i.zero, i.size, i.bytes)) = some (some .nilIface, 1, 16) := by kernel_rfl
/-- What an own row of one-cell elements gives. -/
theorem own_cells1 {w : World} {base : Nat} {e : TypeId} {v : Value} {n : Nat} {xs : List Value} (h : w.ownsRow base e 1 v n xs) : ∃ a c, v = .slice a n c ∧ (a = none → n = 0 ∧ c = 0) ∧
    (0 < n → ∃ g cs, a = some ⟨g, 0, none⟩ ∧ base ≤ g ∧ w.heap[g]? = some (.cells cs e (0, 0)) ∧ ∀ j, j < n → cs[0 + j]? = xs[j]?) := by
  have hl := h.1
  rcases h.2 with ⟨rfl, rfl⟩ | ⟨g, cap, cur, rfl, hbg, hh, hnc, hcm, hcs, htk⟩
  · exact ⟨none, 0, rfl, fun _ => ⟨rfl, rfl⟩, fun h => by omega⟩
  · refine ⟨_, _, rfl, (fun h => by cases h), fun _ => ⟨g, cur, rfl, hbg, hh, fun j hj => ?_⟩⟩
    rw [Nat.zero_add, ← htk, Nat.mul_one, List.getElem?_take_of_lt hj, Array.getElem?_toList]

set_option maxRecDepth 100000 in
theorem clone_str (a : Option Addr) (c : Nat) (l : List ByteArray) (hl : l.length ≤ 1000000) (hn : a = none → c = 0) (w : World) (hI : ItemsIn w a l) :
    Calls Tryz.prog 47 #[.slice a l.length c] w fun e w' => ∃ a' c', e = .returned (.slice a' l.length c') ∧ (a' = none → c' = 0) ∧ ItemsD (Fresh w w') w' a' l ∧ Below w.heap.size w w' := by
  cases a with
  | none =>
    have h0 : l = [] := by
      cases l with
      | nil => rfl
      | cons x l => obtain ⟨p, hp, _⟩ := hI (by simp); cases hp
    subst h0
    have hc := hn rfl
    subst hc
    refine (clone_str_nil w).mono ?_
    rintro e w' ⟨rfl, rfl⟩
    exact ⟨none, 0, rfl, fun _ => rfl, fun h => by simp at h, Below.refl _ _⟩
  | some p =>
    obtain ⟨i0, hi, hz0, hz1, hz2⟩ := info_parts info_str
    have hneq : ∀ w, (binOp .eql 32 (.slice (some p) l.length c) (.slice none 0 0)).run Tryz.prog w = .ok (.bool false) w := fun w => by rfl
    have HC := Lib.hid (show ∀ j u, (l.map Value.string)[j]? = some u → (w.alloc (.cells #[] 9)).cell? (p.add j) = some u from fun j u hu => by
      rw [List.getElem?_map] at hu
      obtain ⟨x, hx, rfl⟩ := Option.map_eq_some_iff.1 hu
      have hj := (List.getElem?_eq_some_iff.1 hx).1
      obtain ⟨q, hq, hc⟩ := hI (by omega)
      cases hq
      have := hc j hj
      rw [List.getD_eq_getElem?_getD, hx] at this
      exact ((Below.refl w.heap.size w).alloc (Nat.le_refl _) _).cell (block_lt this) |>.trans this)
    clear hI hn
    go_enter Tryz.func47, Tryz.ntmps47
    go_wp2_with (at_builtin; refine wpList_append_own _ rfl (.tmp 5) (.tmp 6) 32 rfl w.heap.size 9 i0 (.string ⟨#[]⟩) 1 16 Tryz.underlying32 hi hz0 hz1 hz2 rfl (by decide) _ _ _ rfl (own_empty w w.heap.size w.heap.size 9 1 rfl (Nat.le_refl _)) p l.length c (l.map Value.string) rfl (by simp) HC.out ?c2 ?c3 ?c4 ?c5 ?_)
    case c2 => intro u hu; simp at hu; obtain ⟨x, _, rfl⟩ := hu; rfl
    case c3 => simp only [maxLen]; omega
    case c4 => omega
    case c5 => simp
    intro v' w2 hown hg _
    have HB := Lib.hid (((Below.refl w.heap.size w).alloc (Nat.le_refl _) (.cells #[] 9)).grown hg (by simp) (fun k hk => by simp [Value.ownBlock] at hk; omega))
    obtain ⟨a', c', hv, hn', hd⟩ := own_cells1 hown
    subst hv
    have HD := Lib.hid hd
    have HN := Lib.hid hn'
    clear hown hg hd hn'
    go_wp2
    go_ret
    refine ⟨_, _, rfl, fun h => (HN.out h).2, fun h => ?_, HB.out⟩
    obtain ⟨g, cs, ha, hge, hh, hc⟩ := HD.out h
    refine ⟨g, 0, cs, _, _, ha, ⟨hge, lt_of_at hh⟩, by decide, hh, fun j hj => ?_⟩
    rw [hc j hj, List.getElem?_map, List.getElem?_eq_getElem hj, List.getD_eq_getElem?_getD, List.getElem?_eq_getElem hj]
    rfl
set_option maxRecDepth 100000 in
theorem clone_int (a : Option Addr) (c : Nat) (l : List Int) (hl : l.length ≤ 1000000) (hn : a = none → c = 0) (w : World) (hI : PartsIn w a l) :
    Calls Tryz.prog 48 #[.slice a l.length c] w fun e w' => ∃ a' c', e = .returned (.slice a' l.length c') ∧ (a' = none → c' = 0) ∧ PartsD (Fresh w w') w' a' l ∧ Below w.heap.size w w' := by
  cases a with
  | none =>
    have h0 : l = [] := by
      cases l with
      | nil => rfl
      | cons x l => obtain ⟨p, hp, _⟩ := hI (by simp); cases hp
    subst h0
    have hc := hn rfl
    subst hc
    refine (clone_int_nil w).mono ?_
    rintro e w' ⟨rfl, rfl⟩
    exact ⟨none, 0, rfl, fun _ => rfl, fun h => by simp at h, Below.refl _ _⟩
  | some p =>
    obtain ⟨i0, hi, hz0, hz1, hz2⟩ := info_parts info_int'
    have hneq : ∀ w, (binOp .eql 27 (.slice (some p) l.length c) (.slice none 0 0)).run Tryz.prog w = .ok (.bool false) w := fun w => by rfl
    have HC := Lib.hid (show ∀ j u, (l.map (Value.int .i64))[j]? = some u → (w.alloc (.cells #[] 3)).cell? (p.add j) = some u from fun j u hu => by
      rw [List.getElem?_map] at hu
      obtain ⟨x, hx, rfl⟩ := Option.map_eq_some_iff.1 hu
      have hj := (List.getElem?_eq_some_iff.1 hx).1
      obtain ⟨q, hq, hc⟩ := hI (by omega)
      cases hq
      have := hc j hj
      rw [List.getD_eq_getElem?_getD, hx] at this
      exact ((Below.refl w.heap.size w).alloc (Nat.le_refl _) _).cell (block_lt this) |>.trans this)
    clear hI hn
    go_enter Tryz.func48, Tryz.ntmps48
    go_wp2_with (at_builtin; refine wpList_append_own _ rfl (.tmp 5) (.tmp 6) 27 rfl w.heap.size 3 i0 (.int .i64 0) 1 8 Tryz.underlying27 hi hz0 hz1 hz2 rfl (by decide) _ _ _ rfl (own_empty w w.heap.size w.heap.size 3 1 rfl (Nat.le_refl _)) p l.length c (l.map (Value.int .i64)) rfl (by simp) HC.out ?c2 ?c3 ?c4 ?c5 ?_)
    case c2 => intro u hu; simp at hu; obtain ⟨x, _, rfl⟩ := hu; rfl
    case c3 => simp only [maxLen]; omega
    case c4 => omega
    case c5 => simp
    intro v' w2 hown hg _
    have HB := Lib.hid (((Below.refl w.heap.size w).alloc (Nat.le_refl _) (.cells #[] 3)).grown hg (by simp) (fun k hk => by simp [Value.ownBlock] at hk; omega))
    obtain ⟨a', c', hv, hn', hd⟩ := own_cells1 hown
    subst hv
    have HD := Lib.hid hd
    have HN := Lib.hid hn'
    clear hown hg hd hn'
    go_wp2
    go_ret
    refine ⟨_, _, rfl, fun h => (HN.out h).2, fun h => ?_, HB.out⟩
    obtain ⟨g, cs, ha, hge, hh, hc⟩ := HD.out h
    refine ⟨g, 0, cs, _, _, ha, ⟨hge, lt_of_at hh⟩, by decide, hh, fun j hj => ?_⟩
    rw [hc j hj, List.getElem?_map, List.getElem?_eq_getElem hj, List.getD_eq_getElem?_getD, List.getElem?_eq_getElem hj]
    rfl
/-- The errors lie there. -/
def ErrsIn (w : World) (a : Option Addr) (l : List Value) : Prop := 0 < l.length → ∃ p, a = some p ∧ ∀ i, i < l.length → w.cell? (p.add i) = some (l.getD i .nilIface)
theorem ErrsIn.below {w w' : World} {a : Option Addr} {l : List Value} (h : ErrsIn w a l) (hb : Below w.heap.size w w') : ErrsIn w' a l := by
  intro hn
  obtain ⟨p, hp, h1⟩ := h hn
  exact ⟨p, hp, fun i hi => (hb.cell (block_lt (h1 i hi))).trans (h1 i hi)⟩
set_option maxRecDepth 100000 in
theorem clone_err_nil (w : World) : Calls Tryz.prog 54 #[.slice none 0 0] w fun e w' => e = .returned (.slice none 0 0) ∧ w = w' := by
  have hnil : ∀ w, (binOp .eql 47 (.slice none 0 0) (.slice none 0 0)).run Tryz.prog w = .ok (.bool true) w := fun w => by rfl
  go_enter Tryz.func54, Tryz.ntmps54
  go_wp2
  go_ret
  exact ⟨rfl, rfl⟩
set_option maxRecDepth 100000 in
theorem clone_err (a : Option Addr) (c : Nat) (l : List Value) (hl : l.length ≤ 1000000) (hn : a = none → c = 0) (w : World) (h1 : ∀ u ∈ l, u.oneCell' = true) (hI : ErrsIn w a l) :
    Calls Tryz.prog 54 #[.slice a l.length c] w fun e w' => ∃ a' c', e = .returned (.slice a' l.length c') ∧ (a' = none → c' = 0) ∧ ErrsD (Fresh w w') w' a' l ∧ Below w.heap.size w w' := by
  cases a with
  | none =>
    have h0 : l = [] := by
      cases l with
      | nil => rfl
      | cons x l => obtain ⟨p, hp, _⟩ := hI (by simp); cases hp
    subst h0
    have hc := hn rfl
    subst hc
    refine (clone_err_nil w).mono ?_
    rintro e w' ⟨rfl, rfl⟩
    exact ⟨none, 0, rfl, fun _ => rfl, fun h => by simp at h, Below.refl _ _⟩
  | some p =>
    obtain ⟨i0, hi, hz0, hz1, hz2⟩ := info_parts info_err
    have hneq : ∀ w, (binOp .eql 47 (.slice (some p) l.length c) (.slice none 0 0)).run Tryz.prog w = .ok (.bool false) w := fun w => by rfl
    have HC := Lib.hid (show ∀ j u, l[j]? = some u → (w.alloc (.cells #[] 39)).cell? (p.add j) = some u from fun j u hu => by
      have hj := (List.getElem?_eq_some_iff.1 hu).1
      obtain ⟨q, hq, hc⟩ := hI (by omega)
      cases hq
      have := hc j hj
      rw [List.getD_eq_getElem?_getD, hu] at this
      exact ((Below.refl w.heap.size w).alloc (Nat.le_refl _) _).cell (block_lt this) |>.trans this)
    clear hI hn
    go_enter Tryz.func54, Tryz.ntmps54
    go_wp2_with (at_builtin; refine wpList_append_own _ rfl (.tmp 5) (.tmp 6) 47 rfl w.heap.size 39 i0 .nilIface 1 16 Tryz.underlying47 hi hz0 hz1 hz2 rfl (by decide) _ _ _ rfl (own_empty w w.heap.size w.heap.size 39 1 rfl (Nat.le_refl _)) p l.length c l rfl (by simp) HC.out h1 ?c3 ?c4 ?c5 ?_)
    case c3 => simp only [maxLen]; omega
    case c4 => omega
    case c5 => simp
    intro v' w2 hown hg _
    have HB := Lib.hid (((Below.refl w.heap.size w).alloc (Nat.le_refl _) (.cells #[] 39)).grown hg (by simp) (fun k hk => by simp [Value.ownBlock] at hk; omega))
    obtain ⟨a', c', hv, hn', hd⟩ := own_cells1 hown
    subst hv
    have HD := Lib.hid hd
    have HN := Lib.hid hn'
    clear hown hg hd hn'
    go_wp2
    go_ret
    refine ⟨_, _, rfl, fun h => (HN.out h).2, fun h => ?_, HB.out⟩
    obtain ⟨g, cs, ha, hge, hh, hc⟩ := HD.out h
    refine ⟨g, 0, cs, _, _, ha, ⟨hge, lt_of_at hh⟩, by decide, hh, fun j hj => ?_⟩
    rw [hc j hj, List.getElem?_eq_getElem hj, List.getD_eq_getElem?_getD, List.getElem?_eq_getElem hj]
    rfl

set_option maxRecDepth 100000 in
set_option maxHeartbeats 8000000 in
theorem twin_any (s : Sp) (hit : s.items.length ≤ 1000000) (hpt : s.parts.length ≤ 1000000) (ia : Option Addr) (ic : Nat) (pa : Option Addr) (pc : Nat) (hia : NilOk ia ic) (hpa : NilOk pa pc) (w : World) (hI : ItemsIn w ia s.items) (hP : PartsIn w pa s.parts) :
    Calls Tryz.prog 26 #[.agg (spC s ia ic pa pc)] w fun e w' => ∃ ia' ic' pa' pc', e = .returned (.agg (spC s ia' ic' pa' pc')) ∧ NilOk ia' ic' ∧ NilOk pa' pc' ∧ ItemsD (Fresh w w') w' ia' s.items ∧ PartsD (Fresh w w') w' pa' s.parts ∧ Below w.heap.size w w' := by
  have HI := Lib.hid hI
  have HP := Lib.hid hP
  clear hI hP
  obtain ⟨w1, hw1⟩ : ∃ w1, w1 = (w.alloc (.cells (spC s ia ic pa pc) 34)).alloc (.cells spZ 34) := ⟨_, rfl⟩
  have HW1 := Lib.hid hw1
  clear hw1
  unfold spC spZ at *
  go_enter Tryz.func26, Tryz.ntmps26
  go_wp2
  have hs1 : w1.heap.size = w.heap.size + 2 := by rw [HW1.out]; simp
  have hbw : Below w.heap.size w w1 := by rw [HW1.out]; exact ((Below.refl _ _).alloc (Nat.le_refl _) _).alloc (by simp) _
  have hx1 : w1.heap[w.heap.size]? = some (.cells #[.int .u8 s.kind, .bool s.nil, .string s.text, .int .i16 s.number, .int .i8 s.small, .float .f64 s.re, .float .f64 s.im, .bool s.flag, .int .u32 s.mask, .slice ia s.items.length ic, .slice pa s.parts.length pc] 34 (0, 0)) := by
    rw [HW1.out]; exact (alloc_old _ _ _ (by simp)).trans (alloc_at _ _)
  have hx2 : w1.heap[w.heap.size + 1]? = some (.cells spZ 34 (0, 0)) := by
    rw [HW1.out]; exact alloc_at' _ _ _ (by simp)
  rw [← HW1.out]
  have HI1 := Lib.hid (show ItemsIn w1.drew ia s.items from HI.out.below hbw.drew)
  have HP1 := Lib.hid (show ∀ w2, Below w1.drew.heap.size w1.drew w2 → PartsIn w2 pa s.parts from fun w2 h => (HP.out.below hbw.drew).below h)
  have HBW := Lib.hid hbw
  have HX := Lib.hid (show ∀ w2, Below w1.drew.heap.size w1.drew w2 → w2.heap[w.heap.size]? = some (.cells #[.int .u8 s.kind, .bool s.nil, .string s.text, .int .i16 s.number, .int .i8 s.small, .float .f64 s.re, .float .f64 s.im, .bool s.flag, .int .u32 s.mask, .slice ia s.items.length ic, .slice pa s.parts.length pc] 34 (0, 0)) from fun w2 h => (h.block _ (by simp; omega)).trans hx1)
  have HX2 := Lib.hid (show ∀ w2, Below w1.drew.heap.size w1.drew w2 → w2.heap[w.heap.size + 1]? = some (.cells spZ 34 (0, 0)) from fun w2 h => (h.block _ (by simp; omega)).trans hx2)
  have k9 : w1.cell? ⟨w.heap.size, 9, none⟩ = some (.slice ia s.items.length ic) := cell_of_block hx1 9
  have k10 : w1.cell? ⟨w.heap.size, 10, none⟩ = some (.slice pa s.parts.length pc) := cell_of_block hx1 10
  clear HW1 HI HP hbw hx1 hx2
  go_region_with (first
    | (go_at_call 47; refine (clone_str ia ic s.items hit hia _ HI1.out).mono ?_; rintro e w2 ⟨ia2, ic2, rfl, n2, d2, b2⟩; have e10 : w2.cell? ⟨w.heap.size, 10, none⟩ = some (.slice pa s.parts.length pc) := cell_of_block (HX.out _ b2) 10; have B2 := Lib.hid b2; have N2 := Lib.hid n2; have D2 := Lib.hid d2; clear n2 d2 b2)
    | (go_at_call 48; refine (clone_int pa pc s.parts hpt hpa _ (HP1.out _ B2.out)).mono ?_; rintro e w3 ⟨pa2, pc2, rfl, n3, d3, b3⟩; have B3 := Lib.hid b3; have f9 : w3.cell? ⟨w.heap.size, 9, none⟩ = some (.slice ia s.items.length ic) := cell_of_block ((b3.block _ (by have := B2.out.size; simp at *; omega)).trans (HX.out _ B2.out)) 9; have f10 : w3.cell? ⟨w.heap.size, 10, none⟩ = some (.slice pa s.parts.length pc) := cell_of_block ((b3.block _ (by have := B2.out.size; simp at *; omega)).trans (HX.out _ B2.out)) 10; have g9 : ∀ i, w3.frozen? ⟨w.heap.size, i, none⟩ = false := fun i => frozen_of_block ((b3.block _ (by have := B2.out.size; simp at *; omega)).trans (HX.out _ B2.out)) i; have N3 := Lib.hid n3; have D3 := Lib.hid d3; clear n3 d3 b3))
  all_goals
    have s2 := B2.out.size
    have s3 := B3.out.size
    have hex : Ex (fun b => b = w.heap.size ∨ b = w.heap.size + 1) w2 ((w3.setCell ⟨w.heap.size, 9, none⟩ (.slice ia2 s.items.length ic2)).setCell ⟨w.heap.size, 10, none⟩ (.slice pa2 s.parts.length pc2)) := ((Ex.of_below B3.out).setCell _ _ (.inl (.inl rfl))).setCell _ _ (.inl (.inl rfl))
    have hex3 : Ex (fun b => b = w.heap.size ∨ b = w.heap.size + 1) w3 ((w3.setCell ⟨w.heap.size, 9, none⟩ (.slice ia2 s.items.length ic2)).setCell ⟨w.heap.size, 10, none⟩ (.slice pa2 s.parts.length pc2)) := ((Ex.refl _ _).setCell _ _ (.inl (.inl rfl))).setCell _ _ (.inl (.inl rfl))
    have q0 := (B3.out.block w.heap.size (by simp at *; omega)).trans (HX.out _ B2.out)
    have q1 := heap_setCell_same _ w.heap.size 10 _ _ (.slice pa2 s.parts.length pc2) (heap_setCell_same _ w.heap.size 9 _ _ (.slice ia2 s.items.length ic2) q0)
    have q2 : ((w3.setCell ⟨w.heap.size, 9, none⟩ (.slice ia2 s.items.length ic2)).setCell ⟨w.heap.size, 10, none⟩ (.slice pa2 s.parts.length pc2)).heap[w.heap.size + 1]? = some (.cells spZ 34 (0, 0)) := by
      rw [Below.heap_setCell _ _ _ _ (by show w.heap.size + 1 ≠ w.heap.size; omega), Below.heap_setCell _ _ _ _ (by show w.heap.size + 1 ≠ w.heap.size; omega)]
      exact (B3.out.block _ (by simp at *; omega)).trans (HX2.out _ B2.out)
    have hbel : Below w.heap.size w ((w3.setCell ⟨w.heap.size, 9, none⟩ (.slice ia2 s.items.length ic2)).setCell ⟨w.heap.size, 10, none⟩ (.slice pa2 s.parts.length pc2)) :=
      ((((HBW.out.drew).trans (B2.out.mono (by simp; omega))).trans (B3.out.mono (by simp at *; omega))).setCell (p := ⟨w.heap.size, 9, none⟩) (Nat.le_refl _) _).setCell (p := ⟨w.heap.size, 10, none⟩) (Nat.le_refl _) _
    have hsz : ((w3.setCell ⟨w.heap.size, 9, none⟩ (.slice ia2 s.items.length ic2)).setCell ⟨w.heap.size, 10, none⟩ (.slice pa2 s.parts.length pc2)).heap.size = w3.heap.size := by simp
    generalize (w3.setCell ⟨w.heap.size, 9, none⟩ (.slice ia2 s.items.length ic2)).setCell ⟨w.heap.size, 10, none⟩ (.slice pa2 s.parts.length pc2) = W4 at hex hex3 q1 q2 hbel hsz ⊢
    have Q1 := Lib.hid q1
    have Q2 := Lib.hid q2
    have HEX := Lib.hid hex
    have HEX3 := Lib.hid hex3
    have HBEL := Lib.hid hbel
    clear q0 q1 q2 hex hex3 hbel k9 k10 e10 f9 f10 g9 HX HX2
    go_wp2_with (first
      | ((with_reducible refine at_op (.load 34 (.tmp 1)) rfl ?_); refine wpList_load_row rfl 34 (.tmp 1) rfl w.heap.size rfl 34 _ (0, 0) _ Q1.out Tryz.underlying34 rfl (by kernel_rfl) ?_)
      | ((with_reducible refine at_op (.store 34 (.tmp 2) (.tmp 11)) rfl ?_); refine wpList_store_row rfl 34 (.tmp 2) (.tmp 11) rfl (w.heap.size + 1) rfl (spC s ia2 ic2 pa2 pc2) rfl 34 _ Q2.out (by kernel_rfl) rfl (by simp [spC, Value.oneCell']) ?_))
    refine bodyPost_ret (results_cell_row rfl _ _ (w.heap.size + 1) 34 (spC s ia2 ic2 pa2 pc2) (0, 0) _ rfl (setRow_heap _ _ _ _ _ _ Q2.out) Tryz.underlying34 rfl (by kernel_rfl)) rfl ⟨ia2, ic2, pa2, pc2, rfl, N2.out, N3.out, ?_, ?_, below_setRow HBEL.out (by omega) _⟩
    · refine (D2.out.ev (Ev.of_ex (HEX.out.setRow (w.heap.size + 1) _ (.inl (.inr rfl))) fun b hb hD hS => ?_)).mono fun b hD => ?_
      · have := hD.1; simp at this; rcases hS with rfl | rfl <;> omega
      · obtain ⟨h1, h2⟩ := hD; constructor <;> simp at * <;> omega
    · refine (D3.out.ev (Ev.of_ex (HEX3.out.setRow (w.heap.size + 1) _ (.inl (.inr rfl))) fun b hb hD hS => ?_)).mono fun b hD => ?_
      · have := hD.1; simp at *; rcases hS with rfl | rfl <;> omega
      · obtain ⟨h1, h2⟩ := hD; constructor <;> simp at * <;> omega
end Go.Proofs.YtfmnbhhpimpjbaaGreatDoor
