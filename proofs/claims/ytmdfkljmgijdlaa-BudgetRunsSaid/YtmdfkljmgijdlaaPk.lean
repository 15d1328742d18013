/- What all notes together say. -/
import Derived.Test.YtmdfkljmgijdlaaPj
namespace Go.Proofs.Ytmdfkljmgijdlaa
open Go.RowKit
set_option linter.unusedVariables false

section
variable {P : Program} {ops : Array Oper} {Q : Exit → Act → World → Prop} {md : Region.Mode} {S : World → Prop}
/-- An operation of a drawn region, taken; its slot told. -/
theorem take_at {i : Nat} {d : Option Tmp} {oi : Oper} {v : Value} {fuel : Nat} {listed : Array Bool} {a : Act} {w : World} (hi : ops[i]? = some oi) (hd : oi.dst = d)
    (hs : Region.noSelect ops = true) (hf : Region.free md ops listed i = true) (hr : (Region.ready md ops listed).contains i = true)
    (hQ : ∀ c a w, Q (.panic c) (a.put d v) w → Q (.panic c) a w) (hy : YieldsIf P ops S oi v a) (hS : S w)
    (h : wpAnyH P md ops Q S fuel (listed.setIfInBounds i true) (a.put d v) w) : wpAnyH P md ops Q S (fuel + 1) listed a w := by
  subst hd
  exact wpAnyH_take hi hs hf hr hQ hy hS h
/-- The one operation that may come up, carried out; its slot told. -/
theorem ready_at {i : Nat} {d : Option Tmp} {oi : Oper} {fuel : Nat} {listed : Array Bool} {a : Act} {w : World} (hi : ops[i]? = some oi) (hd : oi.dst = d) (hw : Region.wanted oi (yielded ops a.tmps) = true)
    (h : ∀ K' : Act → World → Prop, Shut (∀ a w, S w → (S w → wpAnyH P md ops Q S fuel (listed.setIfInBounds i true) a w) → K' a w) → Oper.wp P { oi with dst := d } a w K' Q) : AllReadyH P md ops Q S fuel listed a w [i] := by
  subst hd
  exact AllReadyH.cons hi (fun K hK => by rw [if_pos hw]; exact h K hK) AllReadyH.nil
end
theorem may_yes {x y z : Int} (h : mayB x y z) (w : World) : Calls Try.prog 35 #[.agg #[.int .i64 x, .int .i64 y, .int .i64 z]] w fun e w' => e = .returned (.bool true) ∧ Below w.heap.size w w' := by
  refine (may_any x y z w).mono ?_
  rintro e w' ⟨rfl, hb⟩
  rw [decide_eq_true h]; exact ⟨rfl, hb⟩
theorem may_no {x y z : Int} (h : ¬ mayB x y z) (w : World) : Calls Try.prog 35 #[.agg #[.int .i64 x, .int .i64 y, .int .i64 z]] w fun e w' => e = .returned (.bool false) ∧ Below w.heap.size w w' := by
  refine (may_any x y z w).mono ?_
  rintro e w' ⟨rfl, hb⟩
  rw [decide_eq_false h]; exact ⟨rfl, hb⟩
theorem max_if (a b : Int) : (if a < b then b else a) = max a b := by rw [Int.max_def]; split <;> split <;> omega
theorem wrap64_id {n : Int} (h : -9223372036854775808 ≤ n ∧ n ≤ 9223372036854775807) : wrap64 n = n := IntWalk.wrap64_in n h

set_option maxRecDepth 100000 in
set_option maxHeartbeats 4000000 in
theorem counted_any (a : Option Addr) (n cp win : Nat) (w : World) (V : Nat → Int × Int × Int) (HD : CountsIn w a n V) (hn : n ≤ maxLen) (hw : 1 ≤ win) (hw2 : win ≤ 1024) :
    Calls Try.prog 37 #[.slice a n cp, .int .i64 win] w fun e w' => e = .returned (.tuple #[.int .i64 (wrap64 (tot (goodN V n) (lastN V n) win)), .int .i64 (wrap64 (tot (badN V n) (lastN V n) win)), .bool (decide (0 ≤ lastN V n))]) ∧ Below w.heap.size w w' := by
  go_enter Try.func37, Try.ntmps37
  go_wp2_with fail
  go_loopw [7, 8] (fun x i W => ∃ k : Nat, i = .int .i64 k ∧ k ≤ n ∧ x = .int .i64 (lastN V k) ∧ Below w.heap.size w W) (fun _ i _ => n - (intOf i).toNat)
  case atStart => exact ⟨0, rfl, by omega, rfl, Below.refl _ _⟩
  case round =>
    obtain ⟨k, rfl, hk, rfl, hbel⟩ := hrel
    by_cases hlt : k < n
    · have i1 : (k : Int) < (n : Int) := by omega
      obtain ⟨p, rfl, hD⟩ := HD (by omega)
      obtain ⟨e1, e2, e3⟩ := hD k hlt
      have f1 := hbel.cell (block_lt e1) ▸ e1
      have f2 := hbel.cell (block_lt e2) ▸ e2
      have f3 := hbel.cell (block_lt e3) ▸ e3
      have hnn : n ≤ 9223372036854775807 := hn
      clear e1 e2 e3 hD HD hn
      go_wp2_with fail
      go_still_tail 15, (by kernel_rfl)
      change wpList _ _ _ _ _ wr.drew
      have hbel2 := hbel.drew
      have f1' := cellDrew f1
      clear f1 f2 f3 hbel
      generalize wr.drew = wx at *
      go_wp2_with fail
      refine (may_any _ _ _ _).mono ?_
      rintro e w2 ⟨rfl, hb2⟩
      have hbel3 := hbel2.trans (hb2.mono hbel2.size)
      by_cases hmay : mayB (V k).1 (V k).2.1 (V k).2.2
      · have f1 : w2.cell? (p.add (k * 3)) = some (.int .i64 (V k).1) := by rw [hb2.cell (block_lt f1')]; exact f1'
        rw [decide_eq_true hmay]
        have hL := Lib.hid (show lastN V (k + 1) = max (lastN V k) (V k).1 by rw [lastN, if_pos hmay])
        clear hmay f1' hbel2 hb2
        go_wp2
        go_roundw
        case rel => exact ⟨k + 1, by go_num, by omega, by rw [hL.out, max_if], hbel3⟩
        case measure => simp [intOf]; omega
      · rw [decide_eq_false hmay]
        have hL := Lib.hid (show lastN V (k + 1) = lastN V k by rw [lastN, if_neg hmay])
        clear hmay f1' hbel2 hb2
        go_wp2
        go_roundw
        case rel => exact ⟨k + 1, by go_num, by omega, by rw [hL.out], hbel3⟩
        case measure => simp [intOf]; omega
    · have i1 : ¬ ((k : Int) < (n : Int)) := by omega
      have hkn : k = n := by omega
      subst hkn
      have hL := lastN_ge V k
      have hmono := Lib.hid (lastN_mono V)
      go_wp2_with fail
      go_loopw [9, 10, 11] (fun x y i W => ∃ j : Nat, i = .int .i64 j ∧ j ≤ k ∧ x = .int .i64 (wrap64 (tot (goodN V j) (lastN V k) win)) ∧ y = .int .i64 (wrap64 (tot (badN V j) (lastN V k) win)) ∧ Below w.heap.size w W) (fun _ _ i _ => k - (intOf i).toNat)
      case atStart => exact ⟨0, rfl, by omega, by rw [goodN, tot_none, wrap64_zero], by rw [badN, tot_none, wrap64_zero], hbel⟩
      case round =>
        clear hbel
        obtain ⟨j, rfl, hj, rfl, rfl, hbel⟩ := hrel
        by_cases hlt2 : j < k
        · have i1 : (j : Int) < (k : Int) := by omega
          obtain ⟨p, rfl, hD⟩ := HD (by omega)
          obtain ⟨e1, e2, e3⟩ := hD j hlt2
          have f1 := hbel.cell (block_lt e1) ▸ e1
          have f2 := hbel.cell (block_lt e2) ▸ e2
          have f3 := hbel.cell (block_lt e3) ▸ e3
          have hnn : k ≤ 9223372036854775807 := hn
          have hmono2 := hmono.out (j + 1) k (by omega)
          clear e1 e2 e3 hD HD hn
          have hd2 : ∀ w', Below wr.heap.size wr w' → w'.cell? (p.add (j * 3)) = some (.int .i64 (V j).1) ∧ w'.cell? ⟨(p.add (j * 3)).block, (p.add (j * 3)).off + 1, none⟩ = some (.int .i64 (V j).2.1) ∧ w'.cell? ⟨(p.add (j * 3)).block, (p.add (j * 3)).off + 2, none⟩ = some (.int .i64 (V j).2.2) :=
            fun w' hb => ⟨(hb.cell (block_lt f1)).trans f1, (hb.cell (block_lt f2)).trans f2, (hb.cell (block_lt f3)).trans f3⟩
          have HD2 := Lib.hid hd2
          have hwr : IntKind.i64.wrap (lastN V k - (win : Int)) = lastN V k - (win : Int) := IntWalk.i64_in _ (by omega)
          clear hd2
          by_cases hmay : mayB (V j).1 (V j).2.1 (V j).2.2
          · have hle : (V j).1 ≤ lastN V k := by
              have : lastN V (j + 1) = max (lastN V j) (V j).1 := by rw [lastN, if_pos hmay]
              omega
            have hr := hmay.2.1
            have hr0 := hmay.1
            have hG : goodN V (j + 1) = addAt (goodN V j) (V j).1 (V j).2.1 := by rw [goodN, if_pos hmay]
            have hB : badN V (j + 1) = addAt (badN V j) (V j).1 (V j).2.2 := by rw [badN, if_pos hmay]
            have HM := Lib.hid hmay
            have HGB := Lib.hid (And.intro hG hB)
            clear hmay hG hB
            by_cases hin : lastN V k - win < (V j).1
            · have s1 := Lib.hid (show wrap64 (wrap64 (tot (goodN V j) (lastN V k) win) + (V j).2.1) = wrap64 (tot (goodN V (j + 1)) (lastN V k) win) by rw [HGB.out.1, tot_addAt, if_pos ⟨hin, hle⟩, wrap64_add])
              have s2 := Lib.hid (show wrap64 (wrap64 (tot (badN V j) (lastN V k) win) + (V j).2.2) = wrap64 (tot (badN V (j + 1)) (lastN V k) win) by rw [HGB.out.2, tot_addAt, if_pos ⟨hin, hle⟩, wrap64_add])
              go_wp2_with fail
              go_region_held3 (fun w' => Below wr.heap.size wr w' ∧ w'.cell? (p.add (j * 3)) = some (.int .i64 (V j).1) ∧ w'.cell? ⟨(p.add (j * 3)).block, (p.add (j * 3)).off + 1, none⟩ = some (.int .i64 (V j).2.1) ∧ w'.cell? ⟨(p.add (j * 3)).block, (p.add (j * 3)).off + 2, none⟩ = some (.int .i64 (V j).2.2))
                (first
                  | with_reducible exact ⟨(Below.refl _ _).drew, cellDrew f1, cellDrew f2, cellDrew f3⟩
                  | with_reducible exact ⟨held_next (by assumption) (Nat.le_refl _) (by assumption), HD2.out _ (held_next (by assumption) (Nat.le_refl _) (by assumption))⟩)
                (first | (go_at_call 35; refine (may_yes HM.out _).mono ?_; rintro e w' ⟨rfl, hb2⟩))
              rename_i hS
              obtain ⟨hS1, f1', f2', f3'⟩ := hS
              have hbel3 := hbel.trans (hS1.mono hbel.size)
              go_wp2
              go_roundw
              case rel => exact ⟨j + 1, by go_num, by omega, by rw [s1.out], by rw [s2.out], hbel3⟩
              case measure => simp [intOf]; omega
            · have s1 := Lib.hid (show tot (goodN V (j + 1)) (lastN V k) win = tot (goodN V j) (lastN V k) win by rw [HGB.out.1, tot_addAt, if_neg (fun g => hin g.1)]; omega)
              have s2 := Lib.hid (show tot (badN V (j + 1)) (lastN V k) win = tot (badN V j) (lastN V k) win by rw [HGB.out.2, tot_addAt, if_neg (fun g => hin g.1)]; omega)
              go_wp2_with fail
              go_region_held3 (fun w' => Below wr.heap.size wr w' ∧ w'.cell? (p.add (j * 3)) = some (.int .i64 (V j).1) ∧ w'.cell? ⟨(p.add (j * 3)).block, (p.add (j * 3)).off + 1, none⟩ = some (.int .i64 (V j).2.1) ∧ w'.cell? ⟨(p.add (j * 3)).block, (p.add (j * 3)).off + 2, none⟩ = some (.int .i64 (V j).2.2))
                (first
                  | with_reducible exact ⟨(Below.refl _ _).drew, cellDrew f1, cellDrew f2, cellDrew f3⟩
                  | with_reducible exact ⟨held_next (by assumption) (Nat.le_refl _) (by assumption), HD2.out _ (held_next (by assumption) (Nat.le_refl _) (by assumption))⟩)
                (first | (go_at_call 35; refine (may_yes HM.out _).mono ?_; rintro e w' ⟨rfl, hb2⟩))
              rename_i hS
              obtain ⟨hS1, f1', f2', f3'⟩ := hS
              have hbel3 := hbel.trans (hS1.mono hbel.size)
              go_wp2
              go_roundw
              case rel => exact ⟨j + 1, by go_num, by omega, by rw [s1.out], by rw [s2.out], hbel3⟩
              case measure => simp [intOf]; omega
          · have hG := Lib.hid (show goodN V (j + 1) = goodN V j by rw [goodN, if_neg hmay])
            have hB := Lib.hid (show badN V (j + 1) = badN V j by rw [badN, if_neg hmay])
            have HM := Lib.hid hmay
            clear hmay
            go_wp2_with fail
            refine wp_region_held_drew (S := fun w' => Below wr.heap.size wr w' ∧ w'.cell? (p.add (j * 3)) = some (.int .i64 (V j).1) ∧ w'.cell? ⟨(p.add (j * 3)).block, (p.add (j * 3)).off + 1, none⟩ = some (.int .i64 (V j).2.1) ∧ w'.cell? ⟨(p.add (j * 3)).block, (p.add (j * 3)).off + 2, none⟩ = some (.int .i64 (V j).2.2)) (by kernel_rfl) (⟨(Below.refl _ _).drew, cellDrew f1, cellDrew f2, cellDrew f3⟩) (fun hHeld => ?_)
            refine take_at (i := 0) (d := (some 48)) (v := ?_) rfl rfl (by kernel_rfl) (by kernel_rfl) (by kernel_rfl) (fun _ _ _ h => h) (Or.inl ⟨by rfl, fun w hSw => ?_⟩) hHeld ?_
            rotate_left
            · (try dsimp only at hSw); go_simp; try with_reducible rfl
            try simp only [Act.put, List.setIfInBounds_toArray, List.set_cons_zero, List.set_cons_succ]
            refine take_at (i := 1) (d := (some 49)) (v := ?_) rfl rfl (by kernel_rfl) (by kernel_rfl) (by kernel_rfl) (fun _ _ _ h => h) (Or.inl ⟨by rfl, fun w hSw => ?_⟩) hHeld ?_
            rotate_left
            · (try dsimp only at hSw); go_simp; try with_reducible rfl
            try simp only [Act.put, List.setIfInBounds_toArray, List.set_cons_zero, List.set_cons_succ]
            refine take_at (i := 2) (d := (some 50)) (v := ?_) rfl rfl (by kernel_rfl) (by kernel_rfl) (by kernel_rfl) (fun _ _ _ h => h) (Or.inl ⟨by rfl, fun w hSw => ?_⟩) hHeld ?_
            rotate_left
            · (try dsimp only at hSw); go_simp; try with_reducible rfl
            try simp only [Act.put, List.setIfInBounds_toArray, List.set_cons_zero, List.set_cons_succ]
            refine take_at (i := 3) (d := (some 51)) (v := ?_) rfl rfl (by kernel_rfl) (by kernel_rfl) (by kernel_rfl) (fun _ _ _ h => h) (Or.inl ⟨by rfl, fun w hSw => ?_⟩) hHeld ?_
            rotate_left
            · (try dsimp only at hSw); go_simp; try with_reducible rfl
            try simp only [Act.put, List.setIfInBounds_toArray, List.set_cons_zero, List.set_cons_succ]
            refine take_at (i := 4) (d := (some 52)) (v := ?_) rfl rfl (by kernel_rfl) (by kernel_rfl) (by kernel_rfl) (fun _ _ _ h => h) (Or.inl ⟨by rfl, fun w hSw => ?_⟩) hHeld ?_
            rotate_left
            · (try dsimp only at hSw); go_simp; try with_reducible rfl
            try simp only [Act.put, List.setIfInBounds_toArray, List.set_cons_zero, List.set_cons_succ]
            refine take_at (i := 5) (d := (some 53)) (v := ?_) rfl rfl (by kernel_rfl) (by kernel_rfl) (by kernel_rfl) (fun _ _ _ h => h) (Or.inl ⟨by rfl, fun w hSw => ?_⟩) hHeld ?_
            rotate_left
            · (try dsimp only at hSw); go_simp; try with_reducible rfl
            try simp only [Act.put, List.setIfInBounds_toArray, List.set_cons_zero, List.set_cons_succ]
            refine take_at (i := 6) (d := (some 54)) (v := ?_) rfl rfl (by kernel_rfl) (by kernel_rfl) (by kernel_rfl) (fun _ _ _ h => h) (Or.inl ⟨by rfl, fun w hSw => ?_⟩) hHeld ?_
            rotate_left
            · (try dsimp only at hSw); go_simp; try with_reducible rfl
            try simp only [Act.put, List.setIfInBounds_toArray, List.set_cons_zero, List.set_cons_succ]
            refine take_at (i := 7) (d := (some 55)) (v := ?_) rfl rfl (by kernel_rfl) (by kernel_rfl) (by kernel_rfl) (fun _ _ _ h => h) (Or.inl ⟨by rfl, fun w hSw => ?_⟩) hHeld ?_
            rotate_left
            · (try dsimp only at hSw); go_simp; try with_reducible rfl
            try simp only [Act.put, List.setIfInBounds_toArray, List.set_cons_zero, List.set_cons_succ]
            refine take_at (i := 8) (d := (some 56)) (v := ?_) rfl rfl (by kernel_rfl) (by kernel_rfl) (by kernel_rfl) (fun _ _ _ h => h) (Or.inl ⟨by rfl, fun w hSw => ?_⟩) hHeld ?_
            rotate_left
            · (try dsimp only at hSw); go_simp; try with_reducible rfl
            try simp only [Act.put, List.setIfInBounds_toArray, List.set_cons_zero, List.set_cons_succ]
            refine take_at (i := 9) (d := (some 57)) (v := ?_) rfl rfl (by kernel_rfl) (by kernel_rfl) (by kernel_rfl) (fun _ _ _ h => h) (Or.inl ⟨by rfl, fun w hSw => ?_⟩) hHeld ?_
            rotate_left
            · (try dsimp only at hSw); go_simp; try with_reducible rfl
            try simp only [Act.put, List.setIfInBounds_toArray, List.set_cons_zero, List.set_cons_succ]
            refine take_at (i := 10) (d := (some 58)) (v := ?_) rfl rfl (by kernel_rfl) (by kernel_rfl) (by kernel_rfl) (fun _ _ _ h => h) (Or.inl ⟨by rfl, fun w hSw => ?_⟩) hHeld ?_
            rotate_left
            · (try dsimp only at hSw); go_simp; try with_reducible rfl
            try simp only [Act.put, List.setIfInBounds_toArray, List.set_cons_zero, List.set_cons_succ]
            refine take_at (i := 11) (d := (some 59)) (v := ?_) rfl rfl (by kernel_rfl) (by kernel_rfl) (by kernel_rfl) (fun _ _ _ h => h) (Or.inl ⟨by rfl, fun w hSw => ?_⟩) hHeld ?_
            rotate_left
            · (try dsimp only at hSw); go_simp; try with_reducible rfl
            try simp only [Act.put, List.setIfInBounds_toArray, List.set_cons_zero, List.set_cons_succ]
            refine take_at (i := 12) (d := (some 60)) (v := ?_) rfl rfl (by kernel_rfl) (by kernel_rfl) (by kernel_rfl) (fun _ _ _ h => h) (Or.inl ⟨by rfl, fun w hSw => ?_⟩) hHeld ?_
            rotate_left
            · (try dsimp only at hSw); go_simp; try with_reducible rfl
            try simp only [Act.put, List.setIfInBounds_toArray, List.set_cons_zero, List.set_cons_succ]
            refine take_at (i := 13) (d := (some 61)) (v := ?_) rfl rfl (by kernel_rfl) (by kernel_rfl) (by kernel_rfl) (fun _ _ _ h => h) (Or.inl ⟨by rfl, fun w hSw => ?_⟩) hHeld ?_
            rotate_left
            · (try dsimp only at hSw); go_simp; try with_reducible rfl
            try simp only [Act.put, List.setIfInBounds_toArray, List.set_cons_zero, List.set_cons_succ]
            refine take_at (i := 14) (d := (some 62)) (v := ?_) rfl rfl (by kernel_rfl) (by kernel_rfl) (by kernel_rfl) (fun _ _ _ h => h) (Or.inl ⟨by rfl, fun w hSw => ?_⟩) hHeld ?_
            rotate_left
            · (try dsimp only at hSw); go_simp; try with_reducible rfl
            try simp only [Act.put, List.setIfInBounds_toArray, List.set_cons_zero, List.set_cons_succ]
            refine take_at (i := 15) (d := (some 63)) (v := ?_) rfl rfl (by kernel_rfl) (by kernel_rfl) (by kernel_rfl) (fun _ _ _ h => h) (Or.inl ⟨by rfl, fun w hSw => ?_⟩) hHeld ?_
            rotate_left
            · (try dsimp only at hSw); go_simp; try with_reducible rfl
            try simp only [Act.put, List.setIfInBounds_toArray, List.set_cons_zero, List.set_cons_succ]
            refine wpAnyH_ready (rs := [16]) (by kernel_rfl) (by simp) ?_
            refine ready_at (d := (some 64)) rfl rfl (by rfl) (fun K hK => ?_)
            go_simp
            refine (may_no HM.out _).mono ?_
            rintro e w' ⟨rfl, hb2⟩
            go_wp2_with fail
            refine hK.out _ _ (⟨held_next hHeld (Nat.le_refl _) hb2, HD2.out _ (held_next hHeld (Nat.le_refl _) hb2)⟩) (fun hHeld2 => ?_)
            clear hK K hHeld
            have hHeld := hHeld2
            clear hHeld2
            try simp only [Act.put, List.setIfInBounds_toArray, List.set_cons_zero, List.set_cons_succ]
            refine take_at (i := 17) (d := (some 65)) (v := ?_) rfl rfl (by kernel_rfl) (by kernel_rfl) (by kernel_rfl) (fun _ _ _ h => h) (Or.inl ⟨by rfl, fun w hSw => ?_⟩) hHeld ?_
            rotate_left
            · (try dsimp only at hSw); go_simp; try with_reducible rfl
            try simp only [Act.put, List.setIfInBounds_toArray, List.set_cons_zero, List.set_cons_succ]
            refine take_at (i := 18) (d := (some 66)) rfl rfl (by kernel_rfl) (by kernel_rfl) (by kernel_rfl) (fun _ _ _ h => h) (Or.inr ⟨by rfl, rfl⟩) hHeld ?_
            try simp only [Act.put, List.setIfInBounds_toArray, List.set_cons_zero, List.set_cons_succ]
            refine take_at (i := 19) (d := (some 67)) rfl rfl (by kernel_rfl) (by kernel_rfl) (by kernel_rfl) (fun _ _ _ h => h) (Or.inr ⟨by rfl, rfl⟩) hHeld ?_
            try simp only [Act.put, List.setIfInBounds_toArray, List.set_cons_zero, List.set_cons_succ]
            refine take_at (i := 20) (d := (some 68)) rfl rfl (by kernel_rfl) (by kernel_rfl) (by kernel_rfl) (fun _ _ _ h => h) (Or.inr ⟨by rfl, rfl⟩) hHeld ?_
            try simp only [Act.put, List.setIfInBounds_toArray, List.set_cons_zero, List.set_cons_succ]
            refine take_at (i := 21) (d := (some 69)) rfl rfl (by kernel_rfl) (by kernel_rfl) (by kernel_rfl) (fun _ _ _ h => h) (Or.inr ⟨by rfl, rfl⟩) hHeld ?_
            try simp only [Act.put, List.setIfInBounds_toArray, List.set_cons_zero, List.set_cons_succ]
            refine take_at (i := 22) (d := (some 70)) rfl rfl (by kernel_rfl) (by kernel_rfl) (by kernel_rfl) (fun _ _ _ h => h) (Or.inr ⟨by rfl, rfl⟩) hHeld ?_
            try simp only [Act.put, List.setIfInBounds_toArray, List.set_cons_zero, List.set_cons_succ]
            refine take_at (i := 23) (d := (some 71)) rfl rfl (by kernel_rfl) (by kernel_rfl) (by kernel_rfl) (fun _ _ _ h => h) (Or.inr ⟨by rfl, rfl⟩) hHeld ?_
            try simp only [Act.put, List.setIfInBounds_toArray, List.set_cons_zero, List.set_cons_succ]
            refine take_at (i := 24) (d := (some 72)) rfl rfl (by kernel_rfl) (by kernel_rfl) (by kernel_rfl) (fun _ _ _ h => h) (Or.inr ⟨by rfl, rfl⟩) hHeld ?_
            try simp only [Act.put, List.setIfInBounds_toArray, List.set_cons_zero, List.set_cons_succ]
            refine take_at (i := 25) (d := (some 73)) rfl rfl (by kernel_rfl) (by kernel_rfl) (by kernel_rfl) (fun _ _ _ h => h) (Or.inr ⟨by rfl, rfl⟩) hHeld ?_
            try simp only [Act.put, List.setIfInBounds_toArray, List.set_cons_zero, List.set_cons_succ]
            refine take_at (i := 26) (d := (some 74)) rfl rfl (by kernel_rfl) (by kernel_rfl) (by kernel_rfl) (fun _ _ _ h => h) (Or.inr ⟨by rfl, rfl⟩) hHeld ?_
            try simp only [Act.put, List.setIfInBounds_toArray, List.set_cons_zero, List.set_cons_succ]
            refine take_at (i := 27) (d := (some 75)) (v := ?_) rfl rfl (by kernel_rfl) (by kernel_rfl) (by kernel_rfl) (fun _ _ _ h => h) (Or.inl ⟨by rfl, fun w hSw => ?_⟩) hHeld ?_
            rotate_left
            · (try dsimp only at hSw); go_simp; try with_reducible rfl
            try simp only [Act.put, List.setIfInBounds_toArray, List.set_cons_zero, List.set_cons_succ]
            refine wpAnyH_done (by kernel_rfl) ?_ _
            obtain ⟨hS1, f1', f2', f3'⟩ := hHeld
            have hbel3 := hbel.trans (hS1.mono hbel.size)
            go_wp2
            go_roundw
            case rel => exact ⟨j + 1, by go_num, by omega, by rw [hG.out], by rw [hB.out], hbel3⟩
            case measure => simp [intOf]; omega
        · have i1 : ¬ ((j : Int) < (k : Int)) := by omega
          have hjk : j = k := by omega
          subst hjk
          by_cases h0 : 0 ≤ lastN V j
          · have H0 := Lib.hid h0
            go_wp2
            go_ret3
            exact ⟨rfl, hbel⟩
          · have H0 := Lib.hid h0
            go_wp2
            go_ret3
            exact ⟨by rw [decide_eq_false (show ¬ (0 ≤ lastN V j) by have := H0.out; omega)]; rfl, hbel⟩
end Go.Proofs.Ytmdfkljmgijdlaa
