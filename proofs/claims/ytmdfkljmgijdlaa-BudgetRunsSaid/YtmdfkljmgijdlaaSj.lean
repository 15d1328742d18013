/- All that is asked of both budgets. -/
import Derived.Test.YtmdfkljmgijdlaaSi
namespace Go.Proofs.Ytmdfkljmgijdlaa
open Go.RowKit
set_option linter.unusedVariables false

def stepV (kd : Int) (wh wt : Bool) (ta gd' bd wn : Int) (a2 : Option Addr) (n cp2 : Nat) : Array Value := #[.int .i64 kd, .bool wh, .bool wt, .int .i64 ta, .int .i64 gd', .int .i64 bd, .int .i64 wn, .slice a2 n cp2]
/-- What asking stands on. -/
structure SA (Bq : Nat) (W : World) (p b g t s rb : Nat) (now : Int) (m : Bool) (L : List Nt) (X : Array Value) (a2 : Option Addr) (n : Nat) (R : Nat → Int × Int × Nat) : Prop where
  bg : BG W b g t s now m (GL L) (BL L)
  mg : MG Bq W rb t s now m L
  blk : W.heap[p]? = some (.cells X 98 (0, 0))
  rules : RulesIn W a2 n R
theorem SA.own {Bq : Nat} {W W' : World} {p b g t s rb : Nat} {now : Int} {m : Bool} {L : List Nt} {X : Array Value} {a2 : Option Addr} {n : Nat} {R : Nat → Int × Int × Nat} (h : SA Bq W p b g t s rb now m L X a2 n R) (hb : Below W.heap.size W W') : SA Bq W' p b g t s rb now m L X a2 n R :=
  ⟨h.bg.own hb, h.mg.own hb, by rw [hb.block p (Array.getElem?_eq_some_iff.1 h.blk).1]; exact h.blk, h.rules.below hb⟩
theorem SA.win {Bq : Nat} {W : World} {p b g t s rb : Nat} {now : Int} {m : Bool} {L : List Nt} {a2 : Option Addr} {n : Nat} {R : Nat → Int × Int × Nat} {kd : Int} {wh wt : Bool} {ta gd' bd wn : Int} {cp2 : Nat} (h : SA Bq W p b g t s rb now m L (stepV kd wh wt ta gd' bd wn a2 n cp2) a2 n R) :
    W.cell? ⟨p, 6, none⟩ = some (.int .i64 wn) ∧ W.cell? ⟨p, 7, none⟩ = some (.slice a2 n cp2) := ⟨cell_of_block h.blk 6, cell_of_block h.blk 7⟩
theorem MG.mcells {Bq : Nat} {w : World} {b t s : Nat} {now : Int} {m : Bool} {L : List Nt} (h : MG Bq w b t s now m L) : w.cell? ⟨b, 3, none⟩ = some (.int .i64 now) ∧ w.cell? ⟨b, 4, none⟩ = some (.bool m) := by
  obtain ⟨a, cp, h, _⟩ := h
  exact ⟨h.cells.2.2.2.1, h.cells.2.2.2.2⟩
theorem rsum_mg {Bq : Nat} {w : World} {b t s : Nat} {now : Int} {m : Bool} {L : List Nt} (h : MG Bq w b t s now m L) (k : Nat) (hk : 1 ≤ k) (hk2 : k ≤ s) :
    Calls Try.prog 99 #[.pointer (some ⟨b, 0, none⟩), .int .i64 k] w fun e w' => e = .returned (.tuple #[.int .i64 (sumW (GL L) now k), .int .i64 (sumW (BL L) now k)]) ∧ Below w.heap.size w w' := by
  obtain ⟨a, cp, h, _⟩ := h
  exact rsum_any h k hk (by have := h.s2; omega)
theorem rleft_mg {Bq : Nat} {w : World} {b t s : Nat} {now : Int} {m : Bool} {L : List Nt} (h : MG Bq w b t s now m L) : Calls Try.prog 97 #[.pointer (some ⟨b, 0, none⟩)] w (FlQ (leftC t (sumW (GL L) now s) (sumW (BL L) now s)) w) := by
  obtain ⟨a, cp, h, _⟩ := h
  exact rleft_any h
theorem rrate_mg {Bq : Nat} {w : World} {b t s : Nat} {now : Int} {m : Bool} {L : List Nt} (h : MG Bq w b t s now m L) (k : Nat) (hk : 1 ≤ k) (hk2 : k ≤ s) : Calls Try.prog 100 #[.pointer (some ⟨b, 0, none⟩), .int .i64 k] w (FlQ (rateC (sumW (GL L) now k) (sumW (BL L) now k)) w) := by
  obtain ⟨a, cp, h, _⟩ := h
  exact rrate_any h k hk hk2
theorem rburnk_mg {Bq : Nat} {w : World} {b t s : Nat} {now : Int} {m : Bool} {L : List Nt} (h : MG Bq w b t s now m L) (k : Nat) (hk : 1 ≤ k) (hk2 : k ≤ s) : Calls Try.prog 101 #[.pointer (some ⟨b, 0, none⟩), .int .i64 k] w (FlQ (burnC t (sumW (GL L) now k) (sumW (BL L) now k)) w) := by
  obtain ⟨a, cp, h, _⟩ := h
  exact rburn_any h k hk hk2
theorem rlasts_mg {Bq : Nat} {w : World} {b t s : Nat} {now : Int} {m : Bool} {L : List Nt} (h : MG Bq w b t s now m L) (k : Nat) (hk : 1 ≤ k) (hk2 : k ≤ s) : Calls Try.prog 102 #[.pointer (some ⟨b, 0, none⟩), .int .i64 k] w (FlQ (lastsC s (leftC t (sumW (GL L) now s) (sumW (BL L) now s)) (burnC t (sumW (GL L) now k) (sumW (BL L) now k))) w) := by
  obtain ⟨a, cp, h, _⟩ := h
  exact rlasts_any h k hk hk2

set_option maxRecDepth 100000 in
set_option maxHeartbeats 8000000 in
theorem asked_any {Bq : Nat} {w : World} {b g t s rb : Nat} {now : Int} {m : Bool} {L : List Nt} (hB : BG w b g t s now m (GL L) (BL L)) (hM : MG Bq w rb t s now m L) (kd : Int) (wh wt : Bool) (ta gd' bd wn : Int) (a2 : Option Addr) (n cp2 : Nat) (R : Nat → Int × Int × Nat) (HR : RulesIn w a2 n R) (hby : n * 24 ≤ 140737488351232) :
    Calls Try.prog 49 #[.pointer (some ⟨b, 0, none⟩), .pointer (some ⟨rb, 0, none⟩), .agg (stepV kd wh wt ta gd' bd wn a2 n cp2)] w fun e w' => e = .returned (.bool true) ∧ Below w.heap.size w w' := by
  have hbA : Below w.heap.size w (w.alloc (.cells (stepV kd wh wt ta gd' bd wn a2 n cp2) 98)) := (Below.refl _ _).alloc (Nat.le_refl _) _
  have HS0 := Lib.hid (show SA Bq (w.alloc (.cells (stepV kd wh wt ta gd' bd wn a2 n cp2) 98)) w.heap.size b g t s rb now m L (stepV kd wh wt ta gd' bd wn a2 n cp2) a2 n R from ⟨hB.own hbA, hM.own hbA, alloc_at _ _, HR.below hbA⟩)
  have hmm : (m != m) = false := by simp
  obtain ⟨p, hp⟩ : ∃ p, p = w.heap.size := ⟨_, rfl⟩
  have HP := Lib.hid hp
  clear hB hM HR
  unfold stepV at *
  go_enter Try.func49, Try.ntmps49
  go_wp2_with fail
  rw [← hp] at HS0 ⊢
  clear hp
  generalize w.alloc _ = w1 at *
  have hbel0 := hbA
  clear hbA
  have K1 := Lib.hid (now_any HS0.out.bg)
  refine K1.out.mono ?_
  rintro e w2 ⟨rfl, nn, hww⟩
  have hb1 : Below w1.heap.size w1 w2 := by rw [hww]; exact below_dN (Below.refl _ _)
  clear hww
  have HS1 := Lib.hid (HS0.out.own hb1)
  have hbel1 := hbel0.trans (hb1.mono hbel0.size)
  obtain ⟨c3, c4⟩ := HS1.out.mg.mcells
  obtain ⟨x6, x7⟩ := SA.win HS1.out
  clear K1 hb1 hbel0 HS0
  have K2 := Lib.hid (left_any HS1.out.bg)
  go_wp2_with fail
  refine K2.out.mono ?_
  rintro e w3 ⟨z1, hz1, rfl, h⟩
  have hb2 := h
  clear h
  have HS2 := Lib.hid (HS1.out.own hb2)
  have hbel2 := hbel1.trans (hb2.mono hbel1.size)
  clear c3 c4 x6 x7
  obtain ⟨c3, c4⟩ := HS2.out.mg.mcells
  obtain ⟨x6, x7⟩ := SA.win HS2.out
  clear K2 hb2 hbel1 HS1
  have HZ1 := Lib.hid hz1
  clear hz1
  have K3 := Lib.hid (rleft_mg HS2.out.mg)
  go_wp2_with fail
  refine K3.out.mono ?_
  rintro e w4 ⟨z2, hz2, rfl, h⟩
  have hb3 := h
  clear h
  have HS3 := Lib.hid (HS2.out.own hb3)
  have hbel3 := hbel2.trans (hb3.mono hbel2.size)
  clear c3 c4 x6 x7
  obtain ⟨c3, c4⟩ := HS3.out.mg.mcells
  obtain ⟨x6, x7⟩ := SA.win HS3.out
  clear K3 hb3 hbel2 HS2
  have HZ2 := Lib.hid hz2
  clear hz2
  have K4 := Lib.hid (same26_any (HZ1.out.trans HZ2.out.symm) w4)
  go_wp2_with fail
  refine K4.out.mono ?_
  rintro e w5 ⟨rfl, hww⟩
  have hb4 : Below w4.heap.size w4 w5 := by rw [hww]; exact Below.refl _ _
  clear hww
  have HS4 := Lib.hid (HS3.out.own hb4)
  have hbel4 := hbel3.trans (hb4.mono hbel3.size)
  clear c3 c4 x6 x7
  obtain ⟨c3, c4⟩ := HS4.out.mg.mcells
  obtain ⟨x6, x7⟩ := SA.win HS4.out
  clear K4 hb4 hbel3 HS3
  by_cases hwin : winB s wn
  · obtain ⟨k, rfl⟩ := Int.eq_ofNat_of_zero_le (show 0 ≤ wn by have := hwin.1; omega)
    have hk1 : 1 ≤ k := by have := hwin.1; omega
    have hk2 : k ≤ s := by have := hwin.2; omega
    have HWN := Lib.hid hwin
    clear hwin
    have K5 := Lib.hid (sumw_any HS4.out.bg k hk1 hk2)
    go_wp2_with fail
    refine K5.out.mono ?_
    rintro e w6 ⟨rfl, h⟩
    have hb5 := h
    clear h
    have HS5 := Lib.hid (HS4.out.own hb5)
    have hbel5 := hbel4.trans (hb5.mono hbel4.size)
    clear c3 c4 x6 x7
    obtain ⟨c3, c4⟩ := HS5.out.mg.mcells
    obtain ⟨x6, x7⟩ := SA.win HS5.out
    clear K5 hb5 hbel4 HS4
    have K6 := Lib.hid (rate_any HS5.out.bg k hk1 hk2)
    go_wp2_with fail
    refine K6.out.mono ?_
    rintro e w7 ⟨y1, hy1, rfl, h⟩
    have hb6 := h
    clear h
    have HS6 := Lib.hid (HS5.out.own hb6)
    have hbel6 := hbel5.trans (hb6.mono hbel5.size)
    clear c3 c4 x6 x7
    obtain ⟨c3, c4⟩ := HS6.out.mg.mcells
    obtain ⟨x6, x7⟩ := SA.win HS6.out
    clear K6 hb6 hbel5 HS5
    have HY1 := Lib.hid hy1
    clear hy1
    have K7 := Lib.hid (burn_any HS6.out.bg k hk1 hk2)
    go_wp2_with fail
    refine K7.out.mono ?_
    rintro e w8 ⟨y2, hy2, rfl, h⟩
    have hb7 := h
    clear h
    have HS7 := Lib.hid (HS6.out.own hb7)
    have hbel7 := hbel6.trans (hb7.mono hbel6.size)
    clear c3 c4 x6 x7
    obtain ⟨c3, c4⟩ := HS7.out.mg.mcells
    obtain ⟨x6, x7⟩ := SA.win HS7.out
    clear K7 hb7 hbel6 HS6
    have HY2 := Lib.hid hy2
    clear hy2
    have K8 := Lib.hid (lasts_any HS7.out.bg k hk1 hk2)
    go_wp2_with fail
    refine K8.out.mono ?_
    rintro e w9 ⟨y3, hy3, rfl, h⟩
    have hb8 := h
    clear h
    have HS8 := Lib.hid (HS7.out.own hb8)
    have hbel8 := hbel7.trans (hb8.mono hbel7.size)
    clear c3 c4 x6 x7
    obtain ⟨c3, c4⟩ := HS8.out.mg.mcells
    obtain ⟨x6, x7⟩ := SA.win HS8.out
    clear K8 hb8 hbel7 HS7
    have HY3 := Lib.hid hy3
    clear hy3
    have K9 := Lib.hid (window_mg HS8.out.mg (k : Int))
    go_wp2_with fail
    refine K9.out.mono ?_
    rintro e w10 ⟨rfl, hww⟩
    have hb9 : Below w9.heap.size w9 w10 := by rw [hww]; exact Below.refl _ _
    clear hww
    rw [decide_eq_true HWN.out]
    have HS9 := Lib.hid (HS8.out.own hb9)
    have hbel9 := hbel8.trans (hb9.mono hbel8.size)
    clear c3 c4 x6 x7
    obtain ⟨c3, c4⟩ := HS9.out.mg.mcells
    obtain ⟨x6, x7⟩ := SA.win HS9.out
    clear K9 hb9 hbel8 HS8
    have K10 := Lib.hid (rsum_mg HS9.out.mg k hk1 hk2)
    go_wp2_with fail
    refine K10.out.mono ?_
    rintro e w11 ⟨rfl, h⟩
    have hb10 := h
    clear h
    have HS10 := Lib.hid (HS9.out.own hb10)
    have hbel10 := hbel9.trans (hb10.mono hbel9.size)
    clear c3 c4 x6 x7
    obtain ⟨c3, c4⟩ := HS10.out.mg.mcells
    obtain ⟨x6, x7⟩ := SA.win HS10.out
    clear K10 hb10 hbel9 HS9
    have K11 := Lib.hid (rrate_mg HS10.out.mg k hk1 hk2)
    go_wp2_with fail
    refine K11.out.mono ?_
    rintro e w12 ⟨q1, hq1, rfl, h⟩
    have hb11 := h
    clear h
    have HS11 := Lib.hid (HS10.out.own hb11)
    have hbel11 := hbel10.trans (hb11.mono hbel10.size)
    clear c3 c4 x6 x7
    obtain ⟨c3, c4⟩ := HS11.out.mg.mcells
    obtain ⟨x6, x7⟩ := SA.win HS11.out
    clear K11 hb11 hbel10 HS10
    have HQ1 := Lib.hid hq1
    clear hq1
    have K12 := Lib.hid (same26_any (HY1.out.trans HQ1.out.symm) w12)
    go_wp2_with fail
    refine K12.out.mono ?_
    rintro e w13 ⟨rfl, hww⟩
    have hb12 : Below w12.heap.size w12 w13 := by rw [hww]; exact Below.refl _ _
    clear hww
    have HS12 := Lib.hid (HS11.out.own hb12)
    have hbel12 := hbel11.trans (hb12.mono hbel11.size)
    clear c3 c4 x6 x7
    obtain ⟨c3, c4⟩ := HS12.out.mg.mcells
    obtain ⟨x6, x7⟩ := SA.win HS12.out
    clear K12 hb12 hbel11 HS11
    clear HQ1
    have K13 := Lib.hid (rburnk_mg HS12.out.mg k hk1 hk2)
    go_wp2_with fail
    refine K13.out.mono ?_
    rintro e w14 ⟨q1, hq1, rfl, h⟩
    have hb13 := h
    clear h
    have HS13 := Lib.hid (HS12.out.own hb13)
    have hbel13 := hbel12.trans (hb13.mono hbel12.size)
    clear c3 c4 x6 x7
    obtain ⟨c3, c4⟩ := HS13.out.mg.mcells
    obtain ⟨x6, x7⟩ := SA.win HS13.out
    clear K13 hb13 hbel12 HS12
    have HQ1 := Lib.hid hq1
    clear hq1
    have K14 := Lib.hid (same26_any (HY2.out.trans HQ1.out.symm) w14)
    go_wp2_with fail
    refine K14.out.mono ?_
    rintro e w15 ⟨rfl, hww⟩
    have hb14 : Below w14.heap.size w14 w15 := by rw [hww]; exact Below.refl _ _
    clear hww
    have HS14 := Lib.hid (HS13.out.own hb14)
    have hbel14 := hbel13.trans (hb14.mono hbel13.size)
    clear c3 c4 x6 x7
    obtain ⟨c3, c4⟩ := HS14.out.mg.mcells
    obtain ⟨x6, x7⟩ := SA.win HS14.out
    clear K14 hb14 hbel13 HS13
    clear HQ1
    have K15 := Lib.hid (rlasts_mg HS14.out.mg k hk1 hk2)
    go_wp2_with fail
    refine K15.out.mono ?_
    rintro e w16 ⟨q1, hq1, rfl, h⟩
    have hb15 := h
    clear h
    have HS15 := Lib.hid (HS14.out.own hb15)
    have hbel15 := hbel14.trans (hb15.mono hbel14.size)
    clear c3 c4 x6 x7
    obtain ⟨c3, c4⟩ := HS15.out.mg.mcells
    obtain ⟨x6, x7⟩ := SA.win HS15.out
    clear K15 hb15 hbel14 HS14
    have HQ1 := Lib.hid hq1
    clear hq1
    have K16 := Lib.hid (same26_any (HY3.out.trans HQ1.out.symm) w16)
    go_wp2_with fail
    refine K16.out.mono ?_
    rintro e w17 ⟨rfl, hww⟩
    have hb16 : Below w16.heap.size w16 w17 := by rw [hww]; exact Below.refl _ _
    clear hww
    have HS16 := Lib.hid (HS15.out.own hb16)
    have hbel16 := hbel15.trans (hb16.mono hbel15.size)
    clear c3 c4 x6 x7
    obtain ⟨c3, c4⟩ := HS16.out.mg.mcells
    obtain ⟨x6, x7⟩ := SA.win HS16.out
    clear K16 hb16 hbel15 HS15
    clear HQ1
    have KF := Lib.hid (fires_both HS16.out.bg HS16.out.mg a2 n cp2 R HS16.out.rules hby)
    go_wp2_with fail
    refine KF.out.mono ?_
    rintro e wz ⟨rfl, h⟩
    have hbz := hbel16.trans (h.mono hbel16.size)
    clear KF h hbel16 HS16
    go_wp2
    go_ret
    exact ⟨rfl, hbz⟩
  · have HWN := Lib.hid hwin
    clear hwin
    have K5 := Lib.hid (sum_arg HS4.out.bg wn HWN.out)
    go_wp2_with fail
    refine K5.out.mono ?_
    rintro e w6 ⟨rfl, h⟩
    have hb5 := h
    clear h
    have HS5 := Lib.hid (HS4.out.own hb5)
    have hbel5 := hbel4.trans (hb5.mono hbel4.size)
    clear c3 c4 x6 x7
    obtain ⟨c3, c4⟩ := HS5.out.mg.mcells
    obtain ⟨x6, x7⟩ := SA.win HS5.out
    clear K5 hb5 hbel4 HS4
    have K6 := Lib.hid (rate_arg HS5.out.bg wn HWN.out)
    go_wp2_with fail
    refine K6.out.mono ?_
    rintro e w7 ⟨rfl, h⟩
    have hb6 := h
    clear h
    have HS6 := Lib.hid (HS5.out.own hb6)
    have hbel6 := hbel5.trans (hb6.mono hbel5.size)
    clear c3 c4 x6 x7
    obtain ⟨c3, c4⟩ := HS6.out.mg.mcells
    obtain ⟨x6, x7⟩ := SA.win HS6.out
    clear K6 hb6 hbel5 HS5
    have K7 := Lib.hid (burn_arg HS6.out.bg wn HWN.out)
    go_wp2_with fail
    refine K7.out.mono ?_
    rintro e w8 ⟨rfl, h⟩
    have hb7 := h
    clear h
    have HS7 := Lib.hid (HS6.out.own hb7)
    have hbel7 := hbel6.trans (hb7.mono hbel6.size)
    clear c3 c4 x6 x7
    obtain ⟨c3, c4⟩ := HS7.out.mg.mcells
    obtain ⟨x6, x7⟩ := SA.win HS7.out
    clear K7 hb7 hbel6 HS6
    have K8 := Lib.hid (lasts_arg HS7.out.bg wn HWN.out)
    go_wp2_with fail
    refine K8.out.mono ?_
    rintro e w9 ⟨rfl, h⟩
    have hb8 := h
    clear h
    have HS8 := Lib.hid (HS7.out.own hb8)
    have hbel8 := hbel7.trans (hb8.mono hbel7.size)
    clear c3 c4 x6 x7
    obtain ⟨c3, c4⟩ := HS8.out.mg.mcells
    obtain ⟨x6, x7⟩ := SA.win HS8.out
    clear K8 hb8 hbel7 HS7
    have K9 := Lib.hid (window_mg HS8.out.mg wn)
    go_wp2_with fail
    refine K9.out.mono ?_
    rintro e w10 ⟨rfl, hww⟩
    have hb9 : Below w9.heap.size w9 w10 := by rw [hww]; exact Below.refl _ _
    clear hww
    rw [decide_eq_false HWN.out]
    have HS9 := Lib.hid (HS8.out.own hb9)
    have hbel9 := hbel8.trans (hb9.mono hbel8.size)
    clear c3 c4 x6 x7
    obtain ⟨c3, c4⟩ := HS9.out.mg.mcells
    obtain ⟨x6, x7⟩ := SA.win HS9.out
    clear K9 hb9 hbel8 HS8
    have K10 := Lib.hid (same26_any (SM.refl 0) w10)
    go_wp2_with fail
    refine K10.out.mono ?_
    rintro e w11 ⟨rfl, hww⟩
    have hb10 : Below w10.heap.size w10 w11 := by rw [hww]; exact Below.refl _ _
    clear hww
    have HS10 := Lib.hid (HS9.out.own hb10)
    have hbel10 := hbel9.trans (hb10.mono hbel9.size)
    clear c3 c4 x6 x7
    obtain ⟨c3, c4⟩ := HS10.out.mg.mcells
    obtain ⟨x6, x7⟩ := SA.win HS10.out
    clear K10 hb10 hbel9 HS9
    have K11 := Lib.hid (same26_any (SM.refl 0) w11)
    go_wp2_with fail
    refine K11.out.mono ?_
    rintro e w12 ⟨rfl, hww⟩
    have hb11 : Below w11.heap.size w11 w12 := by rw [hww]; exact Below.refl _ _
    clear hww
    have HS11 := Lib.hid (HS10.out.own hb11)
    have hbel11 := hbel10.trans (hb11.mono hbel10.size)
    clear c3 c4 x6 x7
    obtain ⟨c3, c4⟩ := HS11.out.mg.mcells
    obtain ⟨x6, x7⟩ := SA.win HS11.out
    clear K11 hb11 hbel10 HS10
    have K12 := Lib.hid (same26_any (SM.refl 0) w12)
    go_wp2_with fail
    refine K12.out.mono ?_
    rintro e w13 ⟨rfl, hww⟩
    have hb12 : Below w12.heap.size w12 w13 := by rw [hww]; exact Below.refl _ _
    clear hww
    have HS12 := Lib.hid (HS11.out.own hb12)
    have hbel12 := hbel11.trans (hb12.mono hbel11.size)
    clear c3 c4 x6 x7
    obtain ⟨c3, c4⟩ := HS12.out.mg.mcells
    obtain ⟨x6, x7⟩ := SA.win HS12.out
    clear K12 hb12 hbel11 HS11
    have KF := Lib.hid (fires_both HS12.out.bg HS12.out.mg a2 n cp2 R HS12.out.rules hby)
    go_wp2_with fail
    refine KF.out.mono ?_
    rintro e wz ⟨rfl, h⟩
    have hbz := hbel12.trans (h.mono hbel12.size)
    clear KF h hbel12 HS12
    go_wp2
    go_ret
    exact ⟨rfl, hbz⟩
end Go.Proofs.Ytmdfkljmgijdlaa
