/- book: Copy of a book; a book that is full. -/
import Derived.Test.YtfmnbhhpimpjbaaGreatDoorLa
import Derived.Test.YtfmnbhhpimpjbaaGreatDoorGd
namespace Go.Proofs.YtfmnbhhpimpjbaaGreatDoor
open Go.RowKit
set_option linter.unusedVariables false

theorem rowC_one (r : BRow) (h : r.err.oneCell' = true) : ∀ u ∈ rowC r, u.oneCell' = true := by
  intro u hu
  simp only [rowC, List.mem_cons, List.not_mem_nil, or_false] at hu
  rcases hu with rfl | rfl | rfl | rfl | rfl | rfl | rfl | rfl | rfl | rfl | rfl | rfl | rfl | rfl | rfl | rfl <;> first | exact h | rfl
set_option maxRecDepth 100000 in
set_option maxHeartbeats 2000000 in
theorem clone_rows {B : Nat} {v : Value} {rows : List BRow} (w : World) (ho : w.ownsRow B 68 16 v rows.length (rowsC rows)) (hl : rows.length ≤ 65536) (h1 : ∀ r ∈ rows, r.err.oneCell' = true) :
    Calls Tryz.prog 62 #[v] w fun e w' => ∃ v', e = .returned v' ∧ w'.ownsRow w.heap.size 68 16 v' rows.length (rowsC rows) ∧ Below w.heap.size w w' := by
  obtain ⟨i0, hi, hz0, hz1, hz2⟩ := info_parts info_row
  have HC := Lib.hid (fun g (hg : v.ownBlock = some g) => World.ownsRow.cells (g := g) ho hg)
  have H1 := Lib.hid (show ∀ u ∈ rowsC rows, u.oneCell' = true from fun u hu => by
    obtain ⟨r, hr, hu⟩ := List.mem_flatMap.1 hu
    exact rowC_one r (h1 r hr) u hu)
  rcases ho.2 with ⟨rfl, h0⟩ | ⟨g, cap, cur, rfl, hbg, hh, hnc, hcm, hcs, htk⟩
  · have hr : rows = [] := List.eq_nil_of_length_eq_zero h0
    subst hr
    have hneq : ∀ w, (binOp .eql 59 (.slice none 0 0) (.slice none 0 0)).run Tryz.prog w = .ok (.bool true) w := fun w => by rfl
    clear ho HC H1 h1
    go_enter Tryz.func62, Tryz.ntmps62
    go_wp2
    go_ret
    exact ⟨_, rfl, ⟨rfl, .inl ⟨rfl, rfl⟩⟩, Below.refl _ _⟩
  · have hneq : ∀ w, (binOp .eql 59 (.slice (some ⟨g, 0, none⟩) rows.length cap) (.slice none 0 0)).run Tryz.prog w = .ok (.bool false) w := fun w => by rfl
    have HL := Lib.hid (rowsC_len rows)
    have HN := Lib.hid (show ∀ j u, (rowsC rows)[j]? = some u → (w.alloc (.cells #[] 68)).cell? ((⟨g, 0, none⟩ : Addr).add j) = some u from fun j u hu => by
      have := HC.out g rfl j u hu
      exact ((Below.refl w.heap.size w).alloc (Nat.le_refl _) _).cell (block_lt this) |>.trans this)
    clear ho HC h1 hh htk hcs hcm hnc
    go_enter Tryz.func62, Tryz.ntmps62
    go_wp2_with (at_builtin; refine wpList_append_own _ rfl (.tmp 5) (.tmp 6) 59 rfl w.heap.size 68 i0 (.agg rowZ) 16 152 Tryz.underlying59 hi hz0 hz1 hz2 rfl (by decide) _ _ _ rfl (own_empty w w.heap.size w.heap.size 68 16 rfl (Nat.le_refl _)) ⟨g, 0, none⟩ rows.length cap (rowsC rows) rfl HL.out HN.out H1.out ?c3 ?c4 ?c5 ?_)
    case c3 => simp only [maxLen]; omega
    case c4 => omega
    case c5 => simp
    intro v' w2 hown hg _
    have HB := Lib.hid (((Below.refl w.heap.size w).alloc (Nat.le_refl _) (.cells #[] 68)).grown hg (by simp) (fun k hk => by simp [Value.ownBlock] at hk; omega))
    have hown : w2.ownsRow w.heap.size 68 16 v' rows.length (rowsC rows) := by simpa using hown
    have HO := Lib.hid hown
    clear hown hg
    go_wp2
    go_ret
    exact ⟨_, rfl, HO.out, HB.out⟩
set_option maxRecDepth 100000 in
theorem copy_any {D : Nat → Prop} {base bb : Nat} {v : Value} {rows : List BRow} (w : World) (hB : BookIn D w base bb v rows) (hD : ∀ b, D b → b < w.heap.size) :
    Calls Tryz.prog 30 #[.pointer (some ⟨bb, 0, none⟩)] w fun e w' => ∃ bb' v', e = .returned (.pointer (some ⟨bb', 0, none⟩)) ∧ BookIn D w' w.heap.size bb' v' rows ∧ Below w.heap.size w w' := by
  have HC := Lib.hid (clone_rows w hB.own hB.len (fun r hr => by
    obtain ⟨i, hi, rfl⟩ := List.getElem_of_mem hr
    exact (hB.ok i _ (List.getElem?_eq_getElem hi)).err.ev_value.one))
  have c0 : w.cell? ⟨bb, 0, none⟩ = some v := cell_of_block hB.box 0
  have HB := Lib.hid hB
  have HD := Lib.hid hD
  obtain ⟨va, vc, rfl⟩ := own_slice_form' hB.own
  clear hB hD
  go_enter Tryz.func30, Tryz.ntmps30
  go_wp2_with fail
  refine HC.out.mono ?_
  rintro e w2 ⟨v', rfl, ho, hb⟩
  obtain ⟨va', vc', rfl⟩ := own_slice_form' ho
  have HO := Lib.hid ho
  have HB2 := Lib.hid hb
  clear ho hb HC
  go_wp2
  go_ret
  have hb := HB2.out
  have hlt : ∀ b, D b → b < w2.heap.size := fun b q => Nat.lt_of_lt_of_le (HD.out b q) hb.size
  refine ⟨_, _, rfl, ⟨alloc_at _ _, HO.out.alloc _, hb.size, fun q => ?_, fun g hg q => ?_, fun i r hi => ?_, HB.out.len⟩, hb.alloc hb.size _⟩
  · have := hlt _ q; omega
  · have := (own_at HO.out hg).1; have := HD.out g q; omega
  · exact (HB.out.ok i r hi).ev (Ev.of_below (hb.alloc hb.size _))
theorem wk_copy {w0 : World} {bb : Nat} {rows : List BRow} (x : World) (hk : Wk w0 bb rows x) :
    Calls Tryz.prog 30 #[.pointer (some ⟨bb, 0, none⟩)] x fun e y => ∃ bb', e = .returned (.pointer (some ⟨bb', 0, none⟩)) ∧ Wk x bb' rows y ∧ Wk w0 bb rows y ∧ Below x.heap.size x y := by
  obtain ⟨D, v, hB, hD, hb⟩ := id hk
  refine (copy_any x hB hD).mono ?_
  rintro e y ⟨bb', v', he, hB', hb'⟩
  exact ⟨bb', he, ⟨D, v', hB', fun b q => Nat.lt_of_lt_of_le (hD b q) hb'.size, hb'⟩, hk.below hb', hb'⟩
theorem s27_bad : checkF (spL 27 e0 0 [] []) = 40 := by decide +kernel
theorem code_chk (n : Int) : checkF (spL 1 e0 n [] []) = 0 :=
  chkL 1 e0 n [] [] (by simp [ownF, spL]) (by decide) (by decide) (by intro x hx; cases hx) (by simp [bareF, fieldsF, hasL, spL, e0]) (by decide)
set_option maxRecDepth 100000 in
set_option maxHeartbeats 4000000 in
theorem many_walk (W : World) (hT : ∀ n, -32768 ≤ n → n ≤ 32767 → ItoaC W n) (w : World) (hW : Below W.heap.size W w) : Calls Tryz.prog 10 #[] w fun e w' => e = .returned (.bool true) ∧ Below w.heap.size w w' := by
  have HN := Lib.hid (wk_new w w (Below.refl _ _))
  have HT := Lib.hid hT
  have HW := Lib.hid hW
  have HM := Lib.hid (show ∀ (n : Int) (rows : List BRow) (bb : Nat) (x : World), -32768 ≤ n → n ≤ 32767 → Wk w bb rows x → rows.length < 65536 → Calls Tryz.prog 6 #[.pointer (some ⟨bb, 0, none⟩), .agg (spC (spL 1 e0 n [] []) none 0 none 0)] x (MadeAt Tz w bb rows (spL 1 e0 n [] []) x) from fun n rows bb x h1 h2 hk hl =>
    wk_make_at W Tz _ (spL_ok 1 e0 n [] [] (by decide) ⟨h1, h2⟩ (by decide) (by decide) (by intro x hx; cases hx) (by decide)) (kind_leaf W Tz _ (spL_ok 1 e0 n [] [] (by decide) ⟨h1, h2⟩ (by decide) (by decide) (by intro x hx; cases hx) (by decide)) (code_chk n) (.inl rfl) (.inl rfl) rfl (fun _ => hT n h1 h2)) none 0 none 0 (fun _ => rfl) (fun _ => rfl) x (hW.trans (hk.bel.mono hW.size)) hk (fun h => by simp [spL] at h) (fun h => by simp [spL] at h) (fun h hh => by simp [spL] at hh) (code_chk n) (code_ok Tz rows n h1 h2 hl))
  clear hT hW
  go_enter Tryz.func10, Tryz.ntmps10
  go_wp2_with fail
  refine HN.out.mono ?_
  rintro e w1 ⟨bb, rfl, hk1, hb1⟩
  have HK1 := Lib.hid hk1
  clear hk1 hb1 HN
  go_wp2_with fail
  go_loopw [2] (fun i x => ∃ k : Nat, i = .int .i64 ((k : Int) + 1) ∧ k ≤ 65536 ∧ ∃ rows, rows.length = k ∧ Wk w bb rows x) (fun i _ => 65537 - (intOf i).toNat)
  case atStart => exact ⟨0, rfl, by omega, [], rfl, HK1.out⟩
  case round =>
    obtain ⟨k, rfl, hk, rows, hlen, hwk⟩ := hrel
    have HWK := Lib.hid hwk
    have HLEN := Lib.hid hlen
    clear hwk hlen
    by_cases hlt : k < 65536
    · obtain ⟨n, hn⟩ : ∃ n, n = IntKind.i16.wrap ((k : Int) + 1) := ⟨_, rfl⟩
      have hn1 : -32768 ≤ n ∧ n ≤ 32767 := by rw [hn]; exact i16_range _
      have HC := Lib.hid (HM.out n rows bb wr hn1.1 hn1.2 HWK.out (by rw [HLEN.out]; exact hlt))
      have hconv : ∀ w, (convert 3 28 (.int .i64 ((k : Int) + 1))).run Tryz.prog w = .ok (.int .i16 n) w := fun w => by rw [hn]; rfl
      have HH := Lib.hid hn
      have i1 : (k : Int) + 1 ≤ 65536 := by omega
      have HLT := Lib.hid hlt
      have HKK := Lib.hid hk
      clear hn HM hlt hk hn1
      go_wp2_with fail
      refine HC.out.mono ?_
      rintro e w3 ⟨r, rfl, hk3, hsp, hnum, hkeep, hsz⟩
      have HK3 := Lib.hid hk3
      have hl2 : (rows.length : Int) = k := by rw [HLEN.out]
      rw [hl2]
      clear hk3 hsp hnum hkeep hsz HC hl2
      go_wp2
      have hlt := HLT.out
      go_roundw
      case rel => exact ⟨k + 1, by go_num, by omega, rows ++ [r], by rw [List.length_append, HLEN.out]; rfl, HK3.out⟩
      case measure => simp [intOf]; omega
    · have hk2 : k = 65536 := by omega
      have hl2 : rows.length = 65536 := by rw [HLEN.out, hk2]
      have HL2 := Lib.hid hl2
      have FUL := Lib.hid (show ∀ (W1 : World) (b1 : Nat) (w2 x : World), Wk w2 b1 rows x → Below W.heap.size W x → Calls Tryz.prog 6 #[.pointer (some ⟨b1, 0, none⟩), .agg (spC (spL 1 e0 0 [] []) none 0 none 0)] x fun e y => e = .returned (.tuple #[.int .i64 0, .int .i64 3]) ∧ Below x.heap.size x y from fun W1 b1 w2 x hk hWx =>
        wk_make_no W Tz _ (spL_ok 1 e0 0 [] [] (by decide) (by decide) (by decide) (by decide) (by intro x hx; cases hx) (by decide)) (kind_leaf W Tz _ (spL_ok 1 e0 0 [] [] (by decide) (by decide) (by decide) (by decide) (by intro x hx; cases hx) (by decide)) (code_chk 0) (.inl rfl) (.inl rfl) rfl (fun _ => HT.out 0 (by decide) (by decide))) none 0 none 0 (fun _ => rfl) (fun _ => rfl) x hWx hk (fun h => by simp [spL] at h) (fun h => by simp [spL] at h) (fun h hh => by simp [spL] at hh) (code_chk 0) 3 (code_full Tz rows 0 (by decide) (by decide) hl2) (by decide))
      subst hk2
      clear HM hlt hl2 hk
      have C1 := Lib.hid (FUL.out wr bb w wr HWK.out (HW.out.trans (HWK.out.bel.mono HW.out.size)))
      go_wp2_with fail
      refine C1.out.mono ?_
      rintro e w3 ⟨rfl, hb3⟩
      have HK3 := Lib.hid (HWK.out.below hb3)
      clear hb3 C1 HWK
      have C2 := Lib.hid (wk_copy w3 HK3.out)
      go_wp2_with fail
      refine C2.out.mono ?_
      rintro e w4 ⟨b4, rfl, hk4, hk4', hb4⟩
      have HK4 := Lib.hid hk4'
      have C3 := Lib.hid (FUL.out w3 b4 w3 w4 hk4 (HW.out.trans (hk4'.bel.mono HW.out.size)))
      clear hk4 hk4' hb4 C2 HK3
      go_wp2_with fail
      refine C3.out.mono ?_
      rintro e w5 ⟨rfl, hb5⟩
      have HK5 := Lib.hid (HK4.out.below hb5)
      clear hb5 C3 HK4
      have C4 := Lib.hid (wk_make_bad W (spL 27 e0 0 [] []) (spL_ok 27 e0 0 [] [] (by decide) (by decide) (by decide) (by decide) (by intro x hx; cases hx) (by decide)) none 0 none 0 w5 HK5.out (fun h => by simp [spL] at h) (fun h => by simp [spL] at h) (fun h hh => by simp [spL] at hh) (by rw [s27_bad]; decide))
      rw [s27_bad] at C4
      go_wp2_with fail
      refine C4.out.mono ?_
      rintro e w6 ⟨rfl, hb6⟩
      have HK6 := Lib.hid (HK5.out.below hb6)
      clear hb6 C4 HK5
      have C5 := Lib.hid (show Calls Tryz.prog 31 #[.pointer (some ⟨bb, 0, none⟩)] w6 fun e w' => e = .returned (.int .i64 65536) ∧ w6 = w' by
        obtain ⟨D, v, hB, hD, _⟩ := HK6.out
        have := len_any w6 hB
        rw [HL2.out] at this
        exact this)
      go_wp2_with fail
      refine C5.out.mono ?_
      rintro e w7 ⟨rfl, rfl⟩
      go_wp2
      go_ret
      exact ⟨rfl, HK6.out.bel⟩
end Go.Proofs.YtfmnbhhpimpjbaaGreatDoor
