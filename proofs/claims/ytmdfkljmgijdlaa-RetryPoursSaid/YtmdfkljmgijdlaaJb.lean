/- The walk of RetryPours. -/
import Derived.Test.YtmdfkljmgijdlaaJa
import Derived.Test.YtmdfkljmgijdlaaIg
namespace Go.Proofs.Ytmdfkljmgijdlaa
open Go.RowKit
set_option linter.unusedVariables false

/-- A float as a whole number below 1024. -/
theorem whole_any (x : Nat) : ∃ z : Nat, z ≤ 1023 ∧ ∀ w, Calls Try.prog 34 #[.float .f64 x] w fun e w' => e = .returned (.int .i64 z) ∧ w = w' := by
  cases h0 : (FloatKind.f64.format.order x 0 == some .gt || FloatKind.f64.format.order x 0 == some .eq)
  · refine ⟨7, by omega, fun w => ?_⟩
    go_enter Try.func34, Try.ntmps34
    go_wp2
    go_ret
    exact ⟨rfl, rfl⟩
  · have hnn : ¬ Fl.NaN x := fun g => by rw [fmt_eq, Fl.order_nan_left g] at h0; cases h0
    have k1 : ¬ Fl.NaN 4741671816366391296 := by unfold Fl.NaN Fl.rg; have := Fl.infR_val; omega
    have k2 : Fl.key 4741671816366391296 = 4741671816366391296 := by decide
    have h1 := Fl.gt_key hnn k1
    have h2 := Fl.geq_key hnn (show ¬ Fl.NaN 0 by decide)
    rw [h0, show Fl.key 0 = 0 by decide] at h2
    have h2' : 0 ≤ Fl.key x := by simpa using h2.symm
    rw [k2] at h1
    by_cases hk : Fl.key x ≤ 4741671816366391296
    · have t1 : (FloatKind.f64.format.order x 4741671816366391296 == some .gt) = false := by rw [h1]; simp; omega
      obtain ⟨k, hk2, hc⟩ := Fl.trunc_int h2' hk
      have hcv : ∀ w, (convert 22 3 (.float .f64 x)).run Try.prog w = .ok (.int .i64 k) w := fun w => run_convert_float_int w 22 3 .f64 .i64 _ _ (by rw [Try.underlying22]; rfl) Try.underlying3 hc
      refine ⟨k % 1024, by omega, fun w => ?_⟩
      clear h1 h2 h2' hk hc hnn k1 k2
      go_enter Try.func34, Try.ntmps34
      go_wp2
      go_ret
      exact ⟨by go_num, rfl⟩
    · have t1 : (FloatKind.f64.format.order x 4741671816366391296 == some .gt) = true := by rw [h1]; simp; omega
      refine ⟨7, by omega, fun w => ?_⟩
      clear h1 h2 h2' hk hnn k1 k2
      go_enter Try.func34, Try.ntmps34
      go_wp2
      go_ret
      exact ⟨rfl, rfl⟩

set_option maxRecDepth 100000 in
set_option maxHeartbeats 4000000 in
theorem pours_walk (r b : Nat) (hr : r ≤ 65535) (hb : b ≤ 65535) (a : Option Addr) (n cp : Nat) (w : World) (V : Nat → Int × Nat × Nat) (HD : DrawsIn w a n V) (hn : n ≤ maxLen) :
    Calls Try.prog 6 #[.int .u16 r, .int .u16 b, .slice a n cp] w fun e w' => e = .returned (.bool true) ∧ Below w.heap.size w w' := by
  have z0 : I 0 = 0 := I_zero
  go_enter Try.func6, Try.ntmps6
  go_wp2_with fail
  refine (new_any (I r) (I b) 0 _ (I_size (by omega)) (I_size (by omega)) (by decide +kernel)).mono ?_
  rintro e w1 ⟨rfl, hbk1, hbel1⟩
  have hs1 : w.heap.size < w1.heap.size := block_lt (cell_of_block hbk1 0)
  have hst : newSt (I r) (I b) 0 = stI r b b 0 := by unfold newSt stI; rw [I_plain (by omega), I_plain (by omega), z0]
  rw [hst] at hbk1
  clear hst
  go_wp2_with fail
  go_loopw [10, 11, 12] (fun x y i W => ∃ (k m o q : Nat), x = .float .f64 (I m) ∧ y = .float .f64 (I o) ∧ i = .int .i64 q ∧ q ≤ n ∧ q ≤ 100 ∧ k ≤ b ∧ m ≤ 7 * q ∧ o ≤ 1023 * q ∧ o + k ≤ b + r * m ∧ BK W w.heap.size 168 (stI r b k m) ∧ Below w.heap.size w W) (fun _ _ i _ => 100 - (intOf i).toNat)
  case atStart => exact ⟨b, 0, 0, 0, by rw [z0], by rw [z0], rfl, by omega, by omega, by omega, by omega, by omega, by omega, hbk1, hbel1⟩
  case round =>
    obtain ⟨k, m, o, q, rfl, rfl, rfl, hq, hq1, hk, hm, ho, hinv, hbk, hbel⟩ := hrel
    by_cases hlt : q < n ∧ q < 100
    · obtain ⟨hlt1, hlt2⟩ := hlt
      have i1 : (q : Int) < (n : Int) := by omega
      have i2 : (q : Int) < 100 := by omega
      obtain ⟨p, rfl, hD⟩ := HD (by omega)
      obtain ⟨e1, e2, e3, w2', w3'⟩ := hD q hlt1
      have f2 := hbel.cell (block_lt e2) ▸ e2
      have f3 := hbel.cell (block_lt e3) ▸ e3
      obtain ⟨z, hz, cz⟩ := whole_any (V q).2.1
      obtain ⟨y, hy, cy⟩ := whole_any (V q).2.2
      have CZ := Lib.hid cz
      have CY := Lib.hid cy
      have hd : y % 8 ≤ 7 := by omega
      have hadd : ∀ w, (binOp .add 22 (.float .f64 (I m)) (.float .f64 (floatOfInt .f64 ((y : Int) % 8)))).run Try.prog w = .ok (.float .f64 (I (m + y % 8))) w := by
        intro w
        have e : ((y : Int) % 8) = ((y % 8 : Nat) : Int) := by omega
        rw [e]
        exact run_add (I_add (by omega)) w
      generalize y % 8 = d at *
      have hmul : r * d ≤ 65535 * 7 := Nat.mul_le_mul hr hd
      have hmul2 : r * m ≤ 65535 * 700 := Nat.mul_le_mul hr (by omega)
      have hmul3 : r * (m + d) = r * m + r * d := Nat.mul_add _ _ _
      have hTF : takeF (stI r b k m) (I z) (I (m + d)) = takeR (stI r b (min b (k + r * d)) (m + d)) (I z) := by
        unfold takeF; rw [refillI hr hb hk (m + d) (by omega) (by omega), Nat.add_sub_cancel_left]
      have hg0 := stI_good hr hb hk (m := m) (by omega)
      obtain ⟨k1, hk1⟩ : ∃ k1, k1 = min b (k + r * d) := ⟨_, rfl⟩
      have hk1b : k1 ≤ b := by omega
      have hk1c : k1 ≤ k + r * d := by omega
      rw [← hk1] at hTF
      have hnn : n ≤ 9223372036854775807 := hn
      -- what the round asks of what is left, k2, and of what was given out, o2
      have ask : ∀ k2 o2 : Nat, k2 ≤ b → o2 ≤ 200000 → o2 + k2 ≤ b + r * (m + d) →
          refillF (stI r b k2 (m + d)) (I (m + d)) = stI r b k2 (m + d) ∧
          (FloatKind.f64.format.order (I k2) 0 == some .lt) = false ∧ (FloatKind.f64.format.order (I k2) (floatOfInt .f64 (b : Int)) == some .gt) = false ∧
          (∀ w, (binOp .add 22 (.float .f64 (I o2)) (.float .f64 (I k2))).run Try.prog w = .ok (.float .f64 (I (o2 + k2))) w) ∧
          (∀ w, (binOp .mul 22 (.float .f64 (floatOfInt .f64 (r : Int))) (.float .f64 (I (m + d)))).run Try.prog w = .ok (.float .f64 (I (r * (m + d)))) w) ∧
          (∀ w, (binOp .add 22 (.float .f64 (floatOfInt .f64 (b : Int))) (.float .f64 (I (r * (m + d))))).run Try.prog w = .ok (.float .f64 (I (b + r * (m + d)))) w) ∧
          (FloatKind.f64.format.order (I (o2 + k2)) (I (b + r * (m + d))) == some .gt) = false ∧ (FloatKind.f64.format.order (I k2) (I k2) != some .eq) = false := by
        intro k2 o2 h1 h2 h3
        have q1 := Fl.fin_lt (I_fin (n := k2) (by omega))
        have q2 := Fl.fin_lt (I_fin (n := b) (by omega))
        have q3 := Fl.fin_lt (I_fin (n := o2 + k2) (by omega))
        have q4 := Fl.fin_lt (I_fin (n := b + r * (m + d)) (by omega))
        refine ⟨?_, ?_, ?_, fun w => run_add (I_add (by omega)) w, fun w => run_mul (I_mul (by omega) (by omega) (by omega)) w, fun w => run_add (I_add (by omega)) w, ?_, ?_⟩
        · rw [refillI hr hb h1 (m + d) (Nat.le_refl _) (by omega), Nat.sub_self, Nat.mul_zero, Nat.add_zero, Nat.min_eq_right h1]
        · rw [Fl.lt_key q1.2.2 (show ¬ Fl.NaN 0 by decide), q1.2.1, show Fl.key 0 = 0 by decide]; simp
        · show (FloatKind.f64.format.order (I k2) (I b) == some .gt) = false
          have := (I_le (a := k2) (b := b) (by omega) (by omega)).2 h1
          rw [Fl.gt_key q1.2.2 q2.2.2, q1.2.1, q2.2.1]; simp; omega
        · have := (I_le (a := o2 + k2) (b := b + r * (m + d)) (by omega) (by omega)).2 h3
          rw [Fl.gt_key q3.2.2 q4.2.2, q3.2.1, q4.2.1]; simp; omega
        · rw [bne, Fl.eq_key q1.2.2 q1.2.2]; simp
      have ASK := Lib.hid ask
      have HTF := Lib.hid hTF
      have HK := Lib.hid hk1
      have HM3 := Lib.hid hmul3
      clear hmul3 e1 e2 e3 hD HD cz cy ask hTF hk1
      go_wp2_with fail
      refine (CZ.out _).mono ?_
      rintro e w3 ⟨rfl, rfl⟩
      go_wp2_with fail
      refine (CY.out _).mono ?_
      rintro e w3 ⟨rfl, rfl⟩
      go_wp2_with fail
      refine (take_any _ hg0 _ (I z) (I (m + d)) (I_64 (by omega)) (I_size (by omega)) (I_finite (by omega)) _ hbk).mono ?_
      rintro e w4 ⟨rfl, hbk4, hgr4⟩
      have hbel4 := below_grown hbel hgr4 (Nat.le_refl _) (Nat.le_refl _)
      have hz0 := hbel.size
      have T := HTF.out
      clear hgr4 hbk hbel f2 f3
      by_cases hzk : z ≤ k1
      · rw [takeI_ok hb hk1b hzk] at T
        rw [T] at hbk4 ⊢
        obtain ⟨s1, s2, s3, s4, s5, s6, s7, s8⟩ := ASK.out (k1 - z) (o + z) (by omega) (by omega) (by have := HM3.out; omega)
        have hout : ∀ w, (binOp .add 22 (.float .f64 (I o)) (.float .f64 (floatOfInt .f64 (z : Int)))).run Try.prog w = .ok (.float .f64 (I (o + z))) w := fun w => run_add (I_add (by omega)) w
        have hg2 := stI_good hr hb (show k1 - z ≤ b by omega) (m := m + d) (by omega)
        clear T
        go_wp2_with fail
        refine (level_any _ hg2 _ (I (m + d)) (I_finite (by omega)) _ hbk4).mono ?_
        rintro e w5 ⟨rfl, hbk5, hgr5⟩
        have hbel5 := below_grown hbel4 hgr5 (Nat.le_refl _) (Nat.le_refl _)
        have s0 := congrArg St.tok s1
        rw [s0, show (stI r b (k1 - z) (m + d)).tok = I (k1 - z) from rfl]
        rw [s1] at hbk5
        clear hgr5 hbk4 hbel4
        go_wp2_with fail
        go_roundw
        case rel => exact ⟨k1 - z, m + d, o + z, q + 1, rfl, rfl, by go_num, by omega, by omega, by omega, by omega, by omega, by have := HM3.out; omega, hbk5, hbel5⟩
        case measure => simp [intOf]; omega
      · obtain ⟨x, tx, x1, x2⟩ := takeI_no hr hb hk1b hz (m := m + d) (by omega)
        rw [tx] at T
        rw [T] at hbk4 ⊢
        obtain ⟨s1, s2, s3, s4, s5, s6, s7, s8⟩ := ASK.out k1 o (by omega) (by omega) (by have := HM3.out; omega)
        have hg2 := stI_good hr hb hk1b (m := m + d) (by omega)
        have hgt : (FloatKind.f64.format.order (floatOfInt .f64 (z : Int)) (floatOfInt .f64 (b : Int)) == some .gt) = decide (b < z) := by
          have q1 := Fl.fin_lt (I_fin (n := z) (by omega))
          have q2 := Fl.fin_lt (I_fin (n := b) (by omega))
          have := I_lt (a := b) (b := z) (by omega) (by omega)
          show (FloatKind.f64.format.order (I z) (I b) == some .gt) = decide (b < z)
          rw [Fl.gt_key q1.2.2 q2.2.2, q1.2.1, q2.2.1]
          simp; omega
        clear T tx
        by_cases hr0 : r = 0
        · have b1 : ((r : Int) == 0) = true := by simp; omega
          rw [show (decide (r = 0) || decide (b < z)) = true by simp [hr0]] at x2
          clear hr0
          go_wp2_with fail
          refine (level_any _ hg2 _ (I (m + d)) (I_finite (by omega)) _ hbk4).mono ?_
          rintro e w5 ⟨rfl, hbk5, hgr5⟩
          have hbel5 := below_grown hbel4 hgr5 (Nat.le_refl _) (Nat.le_refl _)
          have s0 := congrArg St.tok s1
          rw [s0, show (stI r b k1 (m + d)).tok = I k1 from rfl]
          rw [s1] at hbk5
          clear hgr5 hbk4 hbel4
          go_wp2_with fail
          go_roundw
          case rel => exact ⟨k1, m + d, o, q + 1, rfl, rfl, by go_num, by omega, by omega, by omega, by omega, by omega, by have := HM3.out; omega, hbk5, hbel5⟩
          case measure => simp [intOf]; omega
        · have b1 : ((r : Int) == 0) = false := by simp; omega
          by_cases hbz : b < z
          · rw [show (decide (r = 0) || decide (b < z)) = true by simp [hbz]] at x2
            rw [show decide (b < z) = true by simp [hbz]] at hgt
            go_wp2_with fail
            refine (level_any _ hg2 _ (I (m + d)) (I_finite (by omega)) _ hbk4).mono ?_
            rintro e w5 ⟨rfl, hbk5, hgr5⟩
            have hbel5 := below_grown hbel4 hgr5 (Nat.le_refl _) (Nat.le_refl _)
            have s0 := congrArg St.tok s1
            rw [s0, show (stI r b k1 (m + d)).tok = I k1 from rfl]
            rw [s1] at hbk5
            clear hgr5 hbk4 hbel4
            go_wp2_with fail
            go_roundw
            case rel => exact ⟨k1, m + d, o, q + 1, rfl, rfl, by go_num, by omega, by omega, by omega, by omega, by omega, by have := HM3.out; omega, hbk5, hbel5⟩
            case measure => simp [intOf]; omega
          · rw [show (decide (r = 0) || decide (b < z)) = false by simp [hbz, hr0]] at x2
            rw [show decide (b < z) = false by simp [hbz]] at hgt
            go_wp2_with fail
            refine (level_any _ hg2 _ (I (m + d)) (I_finite (by omega)) _ hbk4).mono ?_
            rintro e w5 ⟨rfl, hbk5, hgr5⟩
            have hbel5 := below_grown hbel4 hgr5 (Nat.le_refl _) (Nat.le_refl _)
            have s0 := congrArg St.tok s1
            rw [s0, show (stI r b k1 (m + d)).tok = I k1 from rfl]
            rw [s1] at hbk5
            clear hgr5 hbk4 hbel4
            go_wp2_with fail
            go_roundw
            case rel => exact ⟨k1, m + d, o, q + 1, rfl, rfl, by go_num, by omega, by omega, by omega, by omega, by omega, by have := HM3.out; omega, hbk5, hbel5⟩
            case measure => simp [intOf]; omega
    · by_cases hlt1 : q < n
      · have i1 : (q : Int) < (n : Int) := by omega
        have i2 : ¬ ((q : Int) < 100) := by omega
        go_wp2_with fail
        refine (awake_any _).mono ?_
        rintro e w5 ⟨rfl, hb5⟩
        have hbel5 := hbel.trans (hb5.mono (by have := hbel.size; omega))
        go_wp2
        go_ret
        exact ⟨rfl, hbel5⟩
      · have i1 : ¬ ((q : Int) < (n : Int)) := by omega
        go_wp2_with fail
        refine (awake_any _).mono ?_
        rintro e w5 ⟨rfl, hb5⟩
        have hbel5 := hbel.trans (hb5.mono (by have := hbel.size; omega))
        go_wp2
        go_ret
        exact ⟨rfl, hbel5⟩
end Go.Proofs.Ytmdfkljmgijdlaa
