/- Fires of the document's budget. -/
import Derived.Test.YtmdfkljmgijdlaaSg
namespace Go.Proofs.Ytmdfkljmgijdlaa
open Go.RowKit
set_option linter.unusedVariables false

theorem rburn_mg {Bq : Nat} {w : World} {b t s : Nat} {now : Int} {m : Bool} {L : List Nt} (h : MG Bq w b t s now m L) (x : Int) (hx : winB s x) :
    Calls Try.prog 101 #[.pointer (some ⟨b, 0, none⟩), .int .i64 x] w (FlQ (burnC t (sumW (GL L) now x.toNat) (sumW (BL L) now x.toNat)) w) := by
  obtain ⟨a, cp, hM, _, _⟩ := h
  obtain ⟨h1, h2⟩ := hx
  obtain ⟨k, rfl⟩ := Int.eq_ofNat_of_zero_le (show 0 ≤ x by omega)
  exact rburn_any hM k (by omega) (by omega)
theorem window_mg {Bq : Nat} {w : World} {b t s : Nat} {now : Int} {m : Bool} {L : List Nt} (h : MG Bq w b t s now m L) (x : Int) : Calls Try.prog 98 #[.pointer (some ⟨b, 0, none⟩), .int .i64 x] w fun e w' => e = .returned (.bool (decide (winB s x))) ∧ w' = w := by
  obtain ⟨a, cp, hM, _, _⟩ := h
  exact window_any hM x

def FiresR (t s n : Nat) (now : Int) (fg fb : Int → Int) (R : Nat → Int × Int × Nat) (W : World) (e : Ending) (w' : World) : Prop :=
  Below W.heap.size W w' ∧ ((allWin s R n ∧ ∃ v, e = .returned (.tuple #[v, .bool true]) ∧ w'.ownsRow W.heap.size 4 1 v n (bl (fun i => fireB t now fg fb (R i)) n)) ∨ (¬ allWin s R n ∧ e = .returned (.tuple #[.slice none 0 0, .bool false])))

set_option maxRecDepth 100000 in
set_option maxHeartbeats 8000000 in
theorem rfires_any {Bq : Nat} {w : World} {b t s : Nat} {now : Int} {m : Bool} {L : List Nt} (h : MG Bq w b t s now m L) (ga n cp : Nat) (R : Nat → Int × Int × Nat) (hA : AlarmsAt w ga n R) (hn : n ≤ 9000000000000) :
    Calls Try.prog 135 #[.pointer (some ⟨b, 0, none⟩), .slice (some ⟨ga, 0, none⟩) n cp] w (FiresR t s n now (GL L) (BL L) R w) := by
  obtain ⟨i0, hi, hz0, hz1, hz2⟩ := info_parts (show (Try.prog.info? 4).map (fun i => (i.zero, i.size, i.bytes)) = some (some (.bool false), 1, 1) by kernel_rfl)
  have H := Lib.hid h
  clear h
  go_enter Try.func135, Try.ntmps135
  go_wp2_with fail
  go_loopw [7] (fun i W => ∃ k : Nat, i = .int .i64 k ∧ k ≤ n ∧ allWin s R k ∧ w = W) (fun i _ => n - (intOf i).toNat)
  case atStart => exact ⟨0, rfl, by omega, fun i hi => by omega, rfl⟩
  case round =>
    obtain ⟨k, rfl, hk, hall, rfl⟩ := hrel
    have HALL := Lib.hid hall
    clear hall
    by_cases hlt : k < n
    · have i1 : (k : Int) < (n : Int) := by omega
      obtain ⟨e1, e2, e3⟩ := hA k hlt
      by_cases w1 : winB s (R k).1
      · have K1 := Lib.hid (window_mg H.out (R k).1)
        have W1 := Lib.hid w1
        clear w1
        go_wp2_with fail
        refine K1.out.mono ?_
        rintro e w2 ⟨rfl, rfl⟩
        rw [decide_eq_true W1.out]
        have K2 := Lib.hid (window_mg H.out (R k).2.1)
        clear K1
        go_wp2_with fail
        refine K2.out.mono ?_
        rintro e w3 ⟨rfl, rfl⟩
        clear K2
        by_cases w2 : winB s (R k).2.1
        · rw [decide_eq_true w2]
          have HN := Lib.hid (show allWin s R (k + 1) by
            intro i hi
            by_cases e : i = k
            · subst e; exact ⟨W1.out, w2⟩
            · exact HALL.out i (by omega))
          clear w2
          go_wp2_with fail
          go_roundw
          case rel => exact ⟨k + 1, by go_num, by omega, HN.out, by first | rfl | trivial⟩
          case measure => simp [intOf]; omega
        · rw [decide_eq_false w2]
          have HN := Lib.hid (show ¬ allWin s R n from fun g => w2 (g k hlt).2)
          clear w2
          go_wp2
          go_ret2
          exact ⟨Below.refl _ _, Or.inr ⟨HN.out, rfl⟩⟩
      · have K1 := Lib.hid (window_mg H.out (R k).1)
        have HN := Lib.hid (show ¬ allWin s R n from fun g => w1 (g k hlt).1)
        have W1 := Lib.hid w1
        clear w1
        go_wp2_with fail
        refine K1.out.mono ?_
        rintro e w2 ⟨rfl, rfl⟩
        rw [decide_eq_false W1.out]
        clear K1
        go_wp2
        go_ret2
        exact ⟨Below.refl _ _, Or.inr ⟨HN.out, rfl⟩⟩
    · have i1 : ¬ ((k : Int) < (n : Int)) := by omega
      have hkn : k = n := by omega
      subst hkn
      go_wp2_with fail
      obtain ⟨n, hn'⟩ : ∃ n', n' = k := ⟨_, rfl⟩
      subst hn'
      go_loopw [6, 8] (fun v i W => ∃ k : Nat, i = .int .i64 k ∧ k ≤ n ∧ W.ownsRow w.heap.size 4 1 v k (bl (fun i => fireB t now (GL L) (BL L) (R i)) k) ∧ Below w.heap.size w W) (fun _ i _ => n - (intOf i).toNat)
      case atStart => exact ⟨0, rfl, by omega, ⟨rfl, Or.inl ⟨rfl, rfl⟩⟩, Below.refl _ _⟩
      case round =>
        obtain ⟨k, rfl, hk, hown, hbel⟩ := hrel
        have HO := Lib.hid hown
        by_cases hlt : k < n
        · have i1 : (k : Int) < (n : Int) := by omega
          obtain ⟨e1, e2, e3⟩ := hA k hlt
          have HWN := Lib.hid (HALL.out k hlt)
          have HD2 := Lib.hid (show ∀ w', Below w.heap.size w w' → w'.cell? ⟨ga, k * 3, none⟩ = some (.int .i64 (R k).1) ∧ w'.cell? ⟨ga, k * 3 + 1, none⟩ = some (.int .i64 (R k).2.1) ∧ w'.cell? ⟨ga, k * 3 + 2, none⟩ = some (.float .f64 (R k).2.2) from
            fun w' hb => ⟨(hb.cell (block_lt e1)).trans e1, (hb.cell (block_lt e2)).trans e2, (hb.cell (block_lt e3)).trans e3⟩)
          have hnn : n ≤ 9223372036854775807 := by omega
          clear e1 e2 e3 hown
          go_wp2_with fail
          refine wp_region_held_drew (S := fun w' => Below w.heap.size w w' ∧ w'.cell? ⟨ga, k * 3, none⟩ = some (.int .i64 (R k).1) ∧ w'.cell? ⟨ga, k * 3 + 1, none⟩ = some (.int .i64 (R k).2.1) ∧ w'.cell? ⟨ga, k * 3 + 2, none⟩ = some (.float .f64 (R k).2.2)) (by kernel_rfl) ⟨hbel.drew, HD2.out _ hbel.drew⟩ (fun hHeld => ?_)
          refine take_at (i := 0) (d := some 39) (v := ?_) rfl rfl (by kernel_rfl) (by kernel_rfl) (by kernel_rfl) (fun _ _ _ h => h) (Or.inl ⟨by rfl, fun w hSw => ?_⟩) hHeld ?_
          rotate_left
          · (try dsimp only at hSw); go_simp; try with_reducible rfl
          try simp only [Act.put, List.setIfInBounds_toArray, List.set_cons_zero, List.set_cons_succ]
          refine take_at (i := 1) (d := some 40) (v := ?_) rfl rfl (by kernel_rfl) (by kernel_rfl) (by kernel_rfl) (fun _ _ _ h => h) (Or.inl ⟨by rfl, fun w hSw => ?_⟩) hHeld ?_
          rotate_left
          · (try dsimp only at hSw); go_simp; try with_reducible rfl
          try simp only [Act.put, List.setIfInBounds_toArray, List.set_cons_zero, List.set_cons_succ]
          refine take_at (i := 2) (d := some 41) (v := ?_) rfl rfl (by kernel_rfl) (by kernel_rfl) (by kernel_rfl) (fun _ _ _ h => h) (Or.inl ⟨by rfl, fun w hSw => ?_⟩) hHeld ?_
          rotate_left
          · (try dsimp only at hSw); go_simp; try with_reducible rfl
          try simp only [Act.put, List.setIfInBounds_toArray, List.set_cons_zero, List.set_cons_succ]
          refine take_at (i := 3) (d := some 42) (v := ?_) rfl rfl (by kernel_rfl) (by kernel_rfl) (by kernel_rfl) (fun _ _ _ h => h) (Or.inl ⟨by rfl, fun w hSw => ?_⟩) hHeld ?_
          rotate_left
          · (try dsimp only at hSw); go_simp; try with_reducible rfl
          try simp only [Act.put, List.setIfInBounds_toArray, List.set_cons_zero, List.set_cons_succ]
          refine take_at (i := 4) (d := some 43) (v := ?_) rfl rfl (by kernel_rfl) (by kernel_rfl) (by kernel_rfl) (fun _ _ _ h => h) (Or.inl ⟨by rfl, fun w hSw => ?_⟩) hHeld ?_
          rotate_left
          · (try dsimp only at hSw); go_simp; try with_reducible rfl
          try simp only [Act.put, List.setIfInBounds_toArray, List.set_cons_zero, List.set_cons_succ]
          refine take_at (i := 5) (d := some 44) (v := ?_) rfl rfl (by kernel_rfl) (by kernel_rfl) (by kernel_rfl) (fun _ _ _ h => h) (Or.inl ⟨by rfl, fun w hSw => ?_⟩) hHeld ?_
          rotate_left
          · (try dsimp only at hSw); go_simp; try with_reducible rfl
          try simp only [Act.put, List.setIfInBounds_toArray, List.set_cons_zero, List.set_cons_succ]
          refine take_at (i := 6) (d := some 45) (v := ?_) rfl rfl (by kernel_rfl) (by kernel_rfl) (by kernel_rfl) (fun _ _ _ h => h) (Or.inl ⟨by rfl, fun w hSw => ?_⟩) hHeld ?_
          rotate_left
          · (try dsimp only at hSw); go_simp; try with_reducible rfl
          try simp only [Act.put, List.setIfInBounds_toArray, List.set_cons_zero, List.set_cons_succ]
          refine take_at (i := 8) (d := some 47) (v := ?_) rfl rfl (by kernel_rfl) (by kernel_rfl) (by kernel_rfl) (fun _ _ _ h => h) (Or.inl ⟨by rfl, fun w hSw => ?_⟩) hHeld ?_
          rotate_left
          · (try dsimp only at hSw); go_simp; try with_reducible rfl
          try simp only [Act.put, List.setIfInBounds_toArray, List.set_cons_zero, List.set_cons_succ]
          refine take_at (i := 9) (d := some 48) (v := ?_) rfl rfl (by kernel_rfl) (by kernel_rfl) (by kernel_rfl) (fun _ _ _ h => h) (Or.inl ⟨by rfl, fun w hSw => ?_⟩) hHeld ?_
          rotate_left
          · (try dsimp only at hSw); go_simp; try with_reducible rfl
          try simp only [Act.put, List.setIfInBounds_toArray, List.set_cons_zero, List.set_cons_succ]
          refine take_at (i := 10) (d := some 49) (v := ?_) rfl rfl (by kernel_rfl) (by kernel_rfl) (by kernel_rfl) (fun _ _ _ h => h) (Or.inl ⟨by rfl, fun w hSw => ?_⟩) hHeld ?_
          rotate_left
          · (try dsimp only at hSw); go_simp; try with_reducible rfl
          try simp only [Act.put, List.setIfInBounds_toArray, List.set_cons_zero, List.set_cons_succ]
          refine take_at (i := 11) (d := some 50) (v := ?_) rfl rfl (by kernel_rfl) (by kernel_rfl) (by kernel_rfl) (fun _ _ _ h => h) (Or.inl ⟨by rfl, fun w hSw => ?_⟩) hHeld ?_
          rotate_left
          · (try dsimp only at hSw); go_simp; try with_reducible rfl
          try simp only [Act.put, List.setIfInBounds_toArray, List.set_cons_zero, List.set_cons_succ]
          refine take_at (i := 12) (d := some 51) (v := ?_) rfl rfl (by kernel_rfl) (by kernel_rfl) (by kernel_rfl) (fun _ _ _ h => h) (Or.inl ⟨by rfl, fun w hSw => ?_⟩) hHeld ?_
          rotate_left
          · (try dsimp only at hSw); go_simp; try with_reducible rfl
          try simp only [Act.put, List.setIfInBounds_toArray, List.set_cons_zero, List.set_cons_succ]
          refine wpAnyH_ready (rs := [7]) (by kernel_rfl) (by simp) ?_
          refine ready_at (d := some 46) rfl rfl (by rfl) (fun K hK => ?_)
          go_simp
          refine (rburn_mg (H.out.own hHeld.1) (R k).1 (HWN.out.1)).mono ?_
          rintro e w5 ⟨z, hz, rfl, hb5⟩
          have HX := Lib.hid hz
          have hbel5 := hHeld.1.trans (hb5.mono hHeld.1.size)
          have HO5 := Lib.hid (ownsRow_below (ownsRow_drew HO.out) hb5 (Nat.le_refl _))
          clear hz
          go_wp2_with fail
          refine hK.out _ _ (⟨hbel5, HD2.out _ hbel5⟩) (fun hHeld2 => ?_)
          clear hK K hHeld
          have hHeld := hHeld2
          clear hHeld2
          try simp only [Act.put, List.setIfInBounds_toArray, List.set_cons_zero, List.set_cons_succ]
          cases gx : (FloatKind.f64.format.order z (R k).2.2 == some .gt || FloatKind.f64.format.order z (R k).2.2 == some .eq)
          · have GX := Lib.hid gx
            refine take_at (i := 13) (d := some 52) (v := ?_) rfl rfl (by kernel_rfl) (by kernel_rfl) (by kernel_rfl) (fun _ _ _ h => h) (Or.inl ⟨by rfl, fun w hSw => ?_⟩) hHeld ?_
            rotate_left
            · (try dsimp only at hSw); go_simp; try with_reducible rfl
            try simp only [Act.put, List.setIfInBounds_toArray, List.set_cons_zero, List.set_cons_succ]
            refine take_at (i := 14) (d := some 53) (v := ?_) rfl rfl (by kernel_rfl) (by kernel_rfl) (by kernel_rfl) (fun _ _ _ h => h) (Or.inl ⟨by rfl, fun w hSw => ?_⟩) hHeld ?_
            rotate_left
            · (try dsimp only at hSw); go_simp; try with_reducible rfl
            try simp only [Act.put, List.setIfInBounds_toArray, List.set_cons_zero, List.set_cons_succ]
            refine take_at (i := 15) (d := some 54) rfl rfl (by kernel_rfl) (by kernel_rfl) (by kernel_rfl) (fun _ _ _ h => h) (Or.inr ⟨by rfl, rfl⟩) hHeld ?_
            try simp only [Act.put, List.setIfInBounds_toArray, List.set_cons_zero, List.set_cons_succ]
            refine take_at (i := 16) (d := some 55) rfl rfl (by kernel_rfl) (by kernel_rfl) (by kernel_rfl) (fun _ _ _ h => h) (Or.inr ⟨by rfl, rfl⟩) hHeld ?_
            try simp only [Act.put, List.setIfInBounds_toArray, List.set_cons_zero, List.set_cons_succ]
            refine take_at (i := 17) (d := some 56) rfl rfl (by kernel_rfl) (by kernel_rfl) (by kernel_rfl) (fun _ _ _ h => h) (Or.inr ⟨by rfl, rfl⟩) hHeld ?_
            try simp only [Act.put, List.setIfInBounds_toArray, List.set_cons_zero, List.set_cons_succ]
            refine take_at (i := 18) (d := some 57) rfl rfl (by kernel_rfl) (by kernel_rfl) (by kernel_rfl) (fun _ _ _ h => h) (Or.inr ⟨by rfl, rfl⟩) hHeld ?_
            try simp only [Act.put, List.setIfInBounds_toArray, List.set_cons_zero, List.set_cons_succ]
            refine take_at (i := 19) (d := some 58) rfl rfl (by kernel_rfl) (by kernel_rfl) (by kernel_rfl) (fun _ _ _ h => h) (Or.inr ⟨by rfl, rfl⟩) hHeld ?_
            try simp only [Act.put, List.setIfInBounds_toArray, List.set_cons_zero, List.set_cons_succ]
            refine take_at (i := 20) (d := some 59) rfl rfl (by kernel_rfl) (by kernel_rfl) (by kernel_rfl) (fun _ _ _ h => h) (Or.inr ⟨by rfl, rfl⟩) hHeld ?_
            try simp only [Act.put, List.setIfInBounds_toArray, List.set_cons_zero, List.set_cons_succ]
            refine take_at (i := 21) (d := some 60) rfl rfl (by kernel_rfl) (by kernel_rfl) (by kernel_rfl) (fun _ _ _ h => h) (Or.inr ⟨by rfl, rfl⟩) hHeld ?_
            try simp only [Act.put, List.setIfInBounds_toArray, List.set_cons_zero, List.set_cons_succ]
            refine take_at (i := 22) (d := some 61) rfl rfl (by kernel_rfl) (by kernel_rfl) (by kernel_rfl) (fun _ _ _ h => h) (Or.inr ⟨by rfl, rfl⟩) hHeld ?_
            try simp only [Act.put, List.setIfInBounds_toArray, List.set_cons_zero, List.set_cons_succ]
            refine take_at (i := 23) (d := some 62) rfl rfl (by kernel_rfl) (by kernel_rfl) (by kernel_rfl) (fun _ _ _ h => h) (Or.inr ⟨by rfl, rfl⟩) hHeld ?_
            try simp only [Act.put, List.setIfInBounds_toArray, List.set_cons_zero, List.set_cons_succ]
            refine take_at (i := 24) (d := some 63) rfl rfl (by kernel_rfl) (by kernel_rfl) (by kernel_rfl) (fun _ _ _ h => h) (Or.inr ⟨by rfl, rfl⟩) hHeld ?_
            try simp only [Act.put, List.setIfInBounds_toArray, List.set_cons_zero, List.set_cons_succ]
            refine take_at (i := 25) (d := some 64) rfl rfl (by kernel_rfl) (by kernel_rfl) (by kernel_rfl) (fun _ _ _ h => h) (Or.inr ⟨by rfl, rfl⟩) hHeld ?_
            try simp only [Act.put, List.setIfInBounds_toArray, List.set_cons_zero, List.set_cons_succ]
            refine take_at (i := 26) (d := some 65) rfl rfl (by kernel_rfl) (by kernel_rfl) (by kernel_rfl) (fun _ _ _ h => h) (Or.inr ⟨by rfl, rfl⟩) hHeld ?_
            try simp only [Act.put, List.setIfInBounds_toArray, List.set_cons_zero, List.set_cons_succ]
            refine take_at (i := 27) (d := some 66) rfl rfl (by kernel_rfl) (by kernel_rfl) (by kernel_rfl) (fun _ _ _ h => h) (Or.inr ⟨by rfl, rfl⟩) hHeld ?_
            try simp only [Act.put, List.setIfInBounds_toArray, List.set_cons_zero, List.set_cons_succ]
            refine take_at (i := 28) (d := some 67) (v := ?_) rfl rfl (by kernel_rfl) (by kernel_rfl) (by kernel_rfl) (fun _ _ _ h => h) (Or.inl ⟨by rfl, fun w hSw => ?_⟩) hHeld ?_
            rotate_left
            · (try dsimp only at hSw); go_simp; try with_reducible rfl
            try simp only [Act.put, List.setIfInBounds_toArray, List.set_cons_zero, List.set_cons_succ]
            refine wpAnyH_ready (rs := [29]) (by kernel_rfl) (by simp) ?_
            refine ready_at (d := some 68) rfl rfl (by rfl) (fun K hK => ?_)
            go_simp
            refine hK.out _ _ (⟨hHeld.1.alloc hHeld.1.size _, HD2.out _ (hHeld.1.alloc hHeld.1.size _)⟩) (fun hHeld2 => ?_)
            clear hK K hHeld
            have hHeld := hHeld2
            clear hHeld2
            try simp only [Act.put, List.setIfInBounds_toArray, List.set_cons_zero, List.set_cons_succ]
            refine wpAnyH_ready (rs := [30]) (by kernel_rfl) (by simp) ?_
            refine ready_at (d := some 69) rfl rfl (by rfl) (fun K hK => ?_)
            obtain ⟨v', w9, hr9, hown9, hg9, _⟩ := run_append_own (P := Try.prog) _ w.heap.size 47 47 4 i0 (.bool false) 1 1 Try.underlying47 hi hz0 hz1 hz2 rfl (by decide) _ _ _ ((HO5.out).alloc (.cells #[.bool false] 4)) ⟨w5.heap.size, 0, none⟩ 1 1 [.bool false] rfl (by intro m u hu; rcases m with _ | m <;> simp at hu; subst hu; exact cell_of_block (alloc_at _ _) 0) (by intro u hu; simp at hu; subst hu; rfl) (by simp only [maxLen]; omega) (by omega) hHeld.1.size
            have hb9 := hHeld.1.grown hg9 hHeld.1.size (fun q hq => (HO5.out.lt q hq).1)
            have EV := Lib.hid (show fireB t now (GL L) (BL L) (R k) = false by
              unfold fireB
              rw [← geqB_sm HX.out]
              unfold geqB
              rw [GX.out]; rfl)
            have hown6 : w9.ownsRow w.heap.size 4 1 v' (k + 1) (bl (fun i => fireB t now (GL L) (BL L) (R i)) (k + 1)) := by
              have e : bl (fun i => fireB t now (GL L) (BL L) (R i)) (k + 1) = bl (fun i => fireB t now (GL L) (BL L) (R i)) k ++ [.bool false] := by rw [bl, EV.out]
              rw [e]; exact hown9
            refine wp_append_run (.tmp 39) (.tmp 68) 47 rfl _ _ v' w9 rfl rfl hr9 ?_
            refine hK.out _ _ (⟨hb9, HD2.out _ hb9⟩) (fun hHeld2 => ?_)
            clear hK K hHeld
            have hHeld := hHeld2
            clear hHeld2
            try simp only [Act.put, List.setIfInBounds_toArray, List.set_cons_zero, List.set_cons_succ]
            refine take_at (i := 31) (d := some 6) (v := ?_) rfl rfl (by kernel_rfl) (by kernel_rfl) (by kernel_rfl) (fun _ _ _ h => h) (Or.inl ⟨by rfl, fun w hSw => ?_⟩) hHeld ?_
            rotate_left
            · (try dsimp only at hSw); go_simp; try with_reducible rfl
            try simp only [Act.put, List.setIfInBounds_toArray, List.set_cons_zero, List.set_cons_succ]
            refine wpAnyH_done (by kernel_rfl) ?_ _
            have HB := Lib.hid hb9
            have HW := Lib.hid hown6
            clear hb9 hown6 hown9 hg9 hr9 hHeld
            go_wp2_with fail
            go_roundw
            case rel => exact ⟨k + 1, by go_num, by omega, HW.out, HB.out⟩
            case measure => simp [intOf]; omega
          · have GX := Lib.hid gx
            refine take_at (i := 13) (d := some 52) (v := ?_) rfl rfl (by kernel_rfl) (by kernel_rfl) (by kernel_rfl) (fun _ _ _ h => h) (Or.inl ⟨by rfl, fun w hSw => ?_⟩) hHeld ?_
            rotate_left
            · (try dsimp only at hSw); go_simp; try with_reducible rfl
            try simp only [Act.put, List.setIfInBounds_toArray, List.set_cons_zero, List.set_cons_succ]
            refine take_at (i := 14) (d := some 53) (v := ?_) rfl rfl (by kernel_rfl) (by kernel_rfl) (by kernel_rfl) (fun _ _ _ h => h) (Or.inl ⟨by rfl, fun w hSw => ?_⟩) hHeld ?_
            rotate_left
            · (try dsimp only at hSw); go_simp; try with_reducible rfl
            try simp only [Act.put, List.setIfInBounds_toArray, List.set_cons_zero, List.set_cons_succ]
            refine take_at (i := 15) (d := some 54) (v := ?_) rfl rfl (by kernel_rfl) (by kernel_rfl) (by kernel_rfl) (fun _ _ _ h => h) (Or.inl ⟨by rfl, fun w hSw => ?_⟩) hHeld ?_
            rotate_left
            · (try dsimp only at hSw); go_simp; try with_reducible rfl
            try simp only [Act.put, List.setIfInBounds_toArray, List.set_cons_zero, List.set_cons_succ]
            refine take_at (i := 16) (d := some 55) (v := ?_) rfl rfl (by kernel_rfl) (by kernel_rfl) (by kernel_rfl) (fun _ _ _ h => h) (Or.inl ⟨by rfl, fun w hSw => ?_⟩) hHeld ?_
            rotate_left
            · (try dsimp only at hSw); go_simp; try with_reducible rfl
            try simp only [Act.put, List.setIfInBounds_toArray, List.set_cons_zero, List.set_cons_succ]
            refine take_at (i := 17) (d := some 56) (v := ?_) rfl rfl (by kernel_rfl) (by kernel_rfl) (by kernel_rfl) (fun _ _ _ h => h) (Or.inl ⟨by rfl, fun w hSw => ?_⟩) hHeld ?_
            rotate_left
            · (try dsimp only at hSw); go_simp; try with_reducible rfl
            try simp only [Act.put, List.setIfInBounds_toArray, List.set_cons_zero, List.set_cons_succ]
            refine take_at (i := 18) (d := some 57) (v := ?_) rfl rfl (by kernel_rfl) (by kernel_rfl) (by kernel_rfl) (fun _ _ _ h => h) (Or.inl ⟨by rfl, fun w hSw => ?_⟩) hHeld ?_
            rotate_left
            · (try dsimp only at hSw); go_simp; try with_reducible rfl
            try simp only [Act.put, List.setIfInBounds_toArray, List.set_cons_zero, List.set_cons_succ]
            refine take_at (i := 19) (d := some 58) (v := ?_) rfl rfl (by kernel_rfl) (by kernel_rfl) (by kernel_rfl) (fun _ _ _ h => h) (Or.inl ⟨by rfl, fun w hSw => ?_⟩) hHeld ?_
            rotate_left
            · (try dsimp only at hSw); go_simp; try with_reducible rfl
            try simp only [Act.put, List.setIfInBounds_toArray, List.set_cons_zero, List.set_cons_succ]
            refine take_at (i := 20) (d := some 59) (v := ?_) rfl rfl (by kernel_rfl) (by kernel_rfl) (by kernel_rfl) (fun _ _ _ h => h) (Or.inl ⟨by rfl, fun w hSw => ?_⟩) hHeld ?_
            rotate_left
            · (try dsimp only at hSw); go_simp; try with_reducible rfl
            try simp only [Act.put, List.setIfInBounds_toArray, List.set_cons_zero, List.set_cons_succ]
            refine take_at (i := 22) (d := some 61) (v := ?_) rfl rfl (by kernel_rfl) (by kernel_rfl) (by kernel_rfl) (fun _ _ _ h => h) (Or.inl ⟨by rfl, fun w hSw => ?_⟩) hHeld ?_
            rotate_left
            · (try dsimp only at hSw); go_simp; try with_reducible rfl
            try simp only [Act.put, List.setIfInBounds_toArray, List.set_cons_zero, List.set_cons_succ]
            refine take_at (i := 23) (d := some 62) (v := ?_) rfl rfl (by kernel_rfl) (by kernel_rfl) (by kernel_rfl) (fun _ _ _ h => h) (Or.inl ⟨by rfl, fun w hSw => ?_⟩) hHeld ?_
            rotate_left
            · (try dsimp only at hSw); go_simp; try with_reducible rfl
            try simp only [Act.put, List.setIfInBounds_toArray, List.set_cons_zero, List.set_cons_succ]
            refine take_at (i := 24) (d := some 63) (v := ?_) rfl rfl (by kernel_rfl) (by kernel_rfl) (by kernel_rfl) (fun _ _ _ h => h) (Or.inl ⟨by rfl, fun w hSw => ?_⟩) hHeld ?_
            rotate_left
            · (try dsimp only at hSw); go_simp; try with_reducible rfl
            try simp only [Act.put, List.setIfInBounds_toArray, List.set_cons_zero, List.set_cons_succ]
            refine take_at (i := 25) (d := some 64) (v := ?_) rfl rfl (by kernel_rfl) (by kernel_rfl) (by kernel_rfl) (fun _ _ _ h => h) (Or.inl ⟨by rfl, fun w hSw => ?_⟩) hHeld ?_
            rotate_left
            · (try dsimp only at hSw); go_simp; try with_reducible rfl
            try simp only [Act.put, List.setIfInBounds_toArray, List.set_cons_zero, List.set_cons_succ]
            refine take_at (i := 26) (d := some 65) (v := ?_) rfl rfl (by kernel_rfl) (by kernel_rfl) (by kernel_rfl) (fun _ _ _ h => h) (Or.inl ⟨by rfl, fun w hSw => ?_⟩) hHeld ?_
            rotate_left
            · (try dsimp only at hSw); go_simp; try with_reducible rfl
            try simp only [Act.put, List.setIfInBounds_toArray, List.set_cons_zero, List.set_cons_succ]
            refine wpAnyH_ready (rs := [21]) (by kernel_rfl) (by simp) ?_
            refine ready_at (d := some 60) rfl rfl (by rfl) (fun K hK => ?_)
            go_simp
            refine (rburn_mg (H.out.own hHeld.1) (R k).2.1 (HWN.out.2)).mono ?_
            rintro e w6 ⟨z2, hz2, rfl, hb6⟩
            have HY := Lib.hid hz2
            have hbel6 := hHeld.1.trans (hb6.mono hHeld.1.size)
            have HO6 := Lib.hid (ownsRow_below HO5.out hb6 (Nat.le_refl _))
            clear hz2
            go_wp2_with fail
            refine hK.out _ _ (⟨hbel6, HD2.out _ hbel6⟩) (fun hHeld2 => ?_)
            clear hK K hHeld
            have hHeld := hHeld2
            clear hHeld2
            try simp only [Act.put, List.setIfInBounds_toArray, List.set_cons_zero, List.set_cons_succ]
            cases gy : (FloatKind.f64.format.order z2 (R k).2.2 == some .gt || FloatKind.f64.format.order z2 (R k).2.2 == some .eq)
            · have GY := Lib.hid gy
              refine take_at (i := 27) (d := some 66) (v := ?_) rfl rfl (by kernel_rfl) (by kernel_rfl) (by kernel_rfl) (fun _ _ _ h => h) (Or.inl ⟨by rfl, fun w hSw => ?_⟩) hHeld ?_
              rotate_left
              · (try dsimp only at hSw); go_simp; try with_reducible rfl
              try simp only [Act.put, List.setIfInBounds_toArray, List.set_cons_zero, List.set_cons_succ]
              refine take_at (i := 28) (d := some 67) (v := ?_) rfl rfl (by kernel_rfl) (by kernel_rfl) (by kernel_rfl) (fun _ _ _ h => h) (Or.inl ⟨by rfl, fun w hSw => ?_⟩) hHeld ?_
              rotate_left
              · (try dsimp only at hSw); go_simp; try with_reducible rfl
              try simp only [Act.put, List.setIfInBounds_toArray, List.set_cons_zero, List.set_cons_succ]
              refine wpAnyH_ready (rs := [29]) (by kernel_rfl) (by simp) ?_
              refine ready_at (d := some 68) rfl rfl (by rfl) (fun K hK => ?_)
              go_simp
              refine hK.out _ _ (⟨hHeld.1.alloc hHeld.1.size _, HD2.out _ (hHeld.1.alloc hHeld.1.size _)⟩) (fun hHeld2 => ?_)
              clear hK K hHeld
              have hHeld := hHeld2
              clear hHeld2
              try simp only [Act.put, List.setIfInBounds_toArray, List.set_cons_zero, List.set_cons_succ]
              refine wpAnyH_ready (rs := [30]) (by kernel_rfl) (by simp) ?_
              refine ready_at (d := some 69) rfl rfl (by rfl) (fun K hK => ?_)
              obtain ⟨v', w9, hr9, hown9, hg9, _⟩ := run_append_own (P := Try.prog) _ w.heap.size 47 47 4 i0 (.bool false) 1 1 Try.underlying47 hi hz0 hz1 hz2 rfl (by decide) _ _ _ ((HO6.out).alloc (.cells #[.bool false] 4)) ⟨w6.heap.size, 0, none⟩ 1 1 [.bool false] rfl (by intro m u hu; rcases m with _ | m <;> simp at hu; subst hu; exact cell_of_block (alloc_at _ _) 0) (by intro u hu; simp at hu; subst hu; rfl) (by simp only [maxLen]; omega) (by omega) hHeld.1.size
              have hb9 := hHeld.1.grown hg9 hHeld.1.size (fun q hq => (HO6.out.lt q hq).1)
              have EV := Lib.hid (show fireB t now (GL L) (BL L) (R k) = false by
                unfold fireB
                rw [← geqB_sm HX.out, ← geqB_sm HY.out]
                unfold geqB
                rw [GX.out, GY.out]; rfl)
              have hown6 : w9.ownsRow w.heap.size 4 1 v' (k + 1) (bl (fun i => fireB t now (GL L) (BL L) (R i)) (k + 1)) := by
                have e : bl (fun i => fireB t now (GL L) (BL L) (R i)) (k + 1) = bl (fun i => fireB t now (GL L) (BL L) (R i)) k ++ [.bool false] := by rw [bl, EV.out]
                rw [e]; exact hown9
              refine wp_append_run (.tmp 39) (.tmp 68) 47 rfl _ _ v' w9 rfl rfl hr9 ?_
              refine hK.out _ _ (⟨hb9, HD2.out _ hb9⟩) (fun hHeld2 => ?_)
              clear hK K hHeld
              have hHeld := hHeld2
              clear hHeld2
              try simp only [Act.put, List.setIfInBounds_toArray, List.set_cons_zero, List.set_cons_succ]
              refine take_at (i := 31) (d := some 6) (v := ?_) rfl rfl (by kernel_rfl) (by kernel_rfl) (by kernel_rfl) (fun _ _ _ h => h) (Or.inl ⟨by rfl, fun w hSw => ?_⟩) hHeld ?_
              rotate_left
              · (try dsimp only at hSw); go_simp; try with_reducible rfl
              try simp only [Act.put, List.setIfInBounds_toArray, List.set_cons_zero, List.set_cons_succ]
              refine wpAnyH_done (by kernel_rfl) ?_ _
              have HB := Lib.hid hb9
              have HW := Lib.hid hown6
              clear hb9 hown6 hown9 hg9 hr9 hHeld
              go_wp2_with fail
              go_roundw
              case rel => exact ⟨k + 1, by go_num, by omega, HW.out, HB.out⟩
              case measure => simp [intOf]; omega
            · have GY := Lib.hid gy
              refine take_at (i := 27) (d := some 66) (v := ?_) rfl rfl (by kernel_rfl) (by kernel_rfl) (by kernel_rfl) (fun _ _ _ h => h) (Or.inl ⟨by rfl, fun w hSw => ?_⟩) hHeld ?_
              rotate_left
              · (try dsimp only at hSw); go_simp; try with_reducible rfl
              try simp only [Act.put, List.setIfInBounds_toArray, List.set_cons_zero, List.set_cons_succ]
              refine take_at (i := 28) (d := some 67) (v := ?_) rfl rfl (by kernel_rfl) (by kernel_rfl) (by kernel_rfl) (fun _ _ _ h => h) (Or.inl ⟨by rfl, fun w hSw => ?_⟩) hHeld ?_
              rotate_left
              · (try dsimp only at hSw); go_simp; try with_reducible rfl
              try simp only [Act.put, List.setIfInBounds_toArray, List.set_cons_zero, List.set_cons_succ]
              refine wpAnyH_ready (rs := [29]) (by kernel_rfl) (by simp) ?_
              refine ready_at (d := some 68) rfl rfl (by rfl) (fun K hK => ?_)
              go_simp
              refine hK.out _ _ (⟨hHeld.1.alloc hHeld.1.size _, HD2.out _ (hHeld.1.alloc hHeld.1.size _)⟩) (fun hHeld2 => ?_)
              clear hK K hHeld
              have hHeld := hHeld2
              clear hHeld2
              try simp only [Act.put, List.setIfInBounds_toArray, List.set_cons_zero, List.set_cons_succ]
              refine wpAnyH_ready (rs := [30]) (by kernel_rfl) (by simp) ?_
              refine ready_at (d := some 69) rfl rfl (by rfl) (fun K hK => ?_)
              obtain ⟨v', w9, hr9, hown9, hg9, _⟩ := run_append_own (P := Try.prog) _ w.heap.size 47 47 4 i0 (.bool false) 1 1 Try.underlying47 hi hz0 hz1 hz2 rfl (by decide) _ _ _ ((HO6.out).alloc (.cells #[.bool true] 4)) ⟨w6.heap.size, 0, none⟩ 1 1 [.bool true] rfl (by intro m u hu; rcases m with _ | m <;> simp at hu; subst hu; exact cell_of_block (alloc_at _ _) 0) (by intro u hu; simp at hu; subst hu; rfl) (by simp only [maxLen]; omega) (by omega) hHeld.1.size
              have hb9 := hHeld.1.grown hg9 hHeld.1.size (fun q hq => (HO6.out.lt q hq).1)
              have EV := Lib.hid (show fireB t now (GL L) (BL L) (R k) = true by
                unfold fireB
                rw [← geqB_sm HX.out, ← geqB_sm HY.out]
                unfold geqB
                rw [GX.out, GY.out]; rfl)
              have hown6 : w9.ownsRow w.heap.size 4 1 v' (k + 1) (bl (fun i => fireB t now (GL L) (BL L) (R i)) (k + 1)) := by
                have e : bl (fun i => fireB t now (GL L) (BL L) (R i)) (k + 1) = bl (fun i => fireB t now (GL L) (BL L) (R i)) k ++ [.bool true] := by rw [bl, EV.out]
                rw [e]; exact hown9
              refine wp_append_run (.tmp 39) (.tmp 68) 47 rfl _ _ v' w9 rfl rfl hr9 ?_
              refine hK.out _ _ (⟨hb9, HD2.out _ hb9⟩) (fun hHeld2 => ?_)
              clear hK K hHeld
              have hHeld := hHeld2
              clear hHeld2
              try simp only [Act.put, List.setIfInBounds_toArray, List.set_cons_zero, List.set_cons_succ]
              refine take_at (i := 31) (d := some 6) (v := ?_) rfl rfl (by kernel_rfl) (by kernel_rfl) (by kernel_rfl) (fun _ _ _ h => h) (Or.inl ⟨by rfl, fun w hSw => ?_⟩) hHeld ?_
              rotate_left
              · (try dsimp only at hSw); go_simp; try with_reducible rfl
              try simp only [Act.put, List.setIfInBounds_toArray, List.set_cons_zero, List.set_cons_succ]
              refine wpAnyH_done (by kernel_rfl) ?_ _
              have HB := Lib.hid hb9
              have HW := Lib.hid hown6
              clear hb9 hown6 hown9 hg9 hr9 hHeld
              go_wp2_with fail
              go_roundw
              case rel => exact ⟨k + 1, by go_num, by omega, HW.out, HB.out⟩
              case measure => simp [intOf]; omega
        · have i1 : ¬ ((k : Int) < (n : Int)) := by omega
          have hkn : k = n := by omega
          subst hkn
          clear HO
          have HO := Lib.hid (And.intro hown hbel)
          clear hown hbel
          go_wp2
          go_ret2
          exact ⟨HO.out.2, Or.inl ⟨HALL.out, _, rfl, HO.out.1⟩⟩
end Go.Proofs.Ytmdfkljmgijdlaa
