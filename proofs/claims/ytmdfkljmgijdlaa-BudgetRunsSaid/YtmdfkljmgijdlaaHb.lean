/- The document's Draw, Wait and Waits: the program's. -/
import Derived.Test.YtmdfkljmgijdlaaHa
namespace Go.Proofs.Ytmdfkljmgijdlaa
open Go.RowKit
set_option linter.unusedVariables false

theorem draw_div (s i : Int) : Ieee.double.div (floatOfInt .f64 (drawN s i)) 4845873199050653696 = some (drawF s i) := by
  obtain ⟨h1, h2⟩ := drawN_range s i
  unfold drawF
  obtain ⟨n, hn⟩ := Int.eq_ofNat_of_zero_le h1
  rw [hn] at h2 ⊢
  obtain ⟨a1, a2⟩ := Fl.ofInt_exact n (by omega)
  have b1 : (4845873199050653696 : Nat) < Fl.infR := by decide
  obtain ⟨z, e1, e2, e3⟩ := Fl.div_fin (Fl.fin_pos a1) (Fl.fin_pos b1) (by decide)
  obtain ⟨_, h3, h4⟩ := Fl.fmul_fin a1 (show (4368491638549381120 : Nat) < Fl.infR by decide)
  rw [Fl.neg_pos (Nat.le_of_lt a1), Fl.neg_pos (Nat.le_of_lt b1)] at e3
  have hz := Fl.pos_of e2 e3
  rw [Fl.fv_pos (Nat.le_of_lt a1), Fl.fv_pos (Nat.le_of_lt b1)] at e2
  have c1 : Fl.rv 4845873199050653696 = (2 : Rat) ^ (53 : Int) := by
    obtain ⟨k, hk⟩ : ∃ k : Nat, k = 1127 := ⟨_, rfl⟩
    have e : Fl.Vn 4845873199050653696 = 2 ^ k := by subst hk; decide +kernel
    unfold Fl.rv Fl.unit
    rw [e, Rat.natCast_pow, show (((2 : Nat) : Rat) ^ k) = (2 : Rat) ^ (k : Int) from rfl, ← Rat.zpow_add Fl.two_ne, show (k : Int) + -1074 = 53 from by omega]
  have c2 : Fl.rv 4368491638549381120 = (2 : Rat) ^ (-53 : Int) := by
    obtain ⟨k, hk⟩ : ∃ k : Nat, k = 1021 := ⟨_, rfl⟩
    have e : Fl.Vn 4368491638549381120 = 2 ^ k := by subst hk; decide +kernel
    unfold Fl.rv Fl.unit
    rw [e, Rat.natCast_pow, show (((2 : Nat) : Rat) ^ k) = (2 : Rat) ^ (k : Int) from rfl, ← Rat.zpow_add Fl.two_ne, show (k : Int) + -1074 = -53 from by omega]
  rw [c1, Rat.div_def, ← Rat.zpow_neg] at e2
  rw [c2] at h4
  have x1 := Fl.le_of_rnd e2 h4 hz h3 Rat.le_refl
  have x2 := Fl.le_of_rnd h4 e2 h3 hz Rat.le_refl
  rw [e1, show z = _ from Nat.le_antisymm x1 x2]

theorem draw24_any (s i : Int) (w : World) :
    Calls Try.prog 132 #[.int .u64 s, .int .i64 i] w fun e w' => e = .returned (.float .f64 (drawF s i)) ∧ w = w' := by
  have hm := fun (w : World) => run_quo (t := 22) (draw_div s i) w
  unfold drawN mix3 mix2 mix1 mix0 at hm
  go_enter Try.func132, Try.ntmps132
  go_wp2
  go_ret
  exact ⟨rfl, rfl⟩

theorem cap_less {x y : Nat} (hx : x ≤ Fl.infR) (hy : y ≤ Fl.infR) : (if (FloatKind.f64.format.order y x == some .lt) = true then y else x) = minF x y := by
  rw [minF_pos hx hy, fmt_eq, Fl.order_pos hy hx]
  by_cases h : y < x
  · rw [Nat.compare_eq_lt.2 h, if_pos (by decide)]; omega
  · cases hc : compare y x
    · exact absurd (Nat.compare_eq_lt.1 hc) h
    · rw [if_neg (by decide)]; omega
    · rw [if_neg (by decide)]; omega

set_option maxRecDepth 100000 in
set_option maxHeartbeats 4000000 in
theorem wait24_any (T : Nat) (f g c j d : Nat) (s : Int) (a : Option Addr) (n cp : Nat) (w : World) (k0 : Nat) (hp : Plan T f g c d j n) (hk0 : k0 + 1 < T)
    (wf : f < 18446744073709551616) (wg : g < 18446744073709551616) (wc : c < 18446744073709551616) (wj : j < 18446744073709551616) :
    Calls Try.prog 93 #[.agg #[.int .i64 T, .float .f64 f, .float .f64 g, .float .f64 c, .float .f64 j, .float .f64 d, .int .u64 s, .slice a n cp], .int .i64 ((k0 : Int) + 1)] w fun e w' =>
      e = .returned (.float .f64 (waitK f g c j s k0)) ∧ Below w.heap.size w w' := by
  have t2 := hp.t2
  have pf := hp.pf wf
  have pg := hp.pg wg
  have pc := hp.pc wc
  have pj := hp.pj wj
  have m1 : ∀ (W : World), (binOp .mul 22 (.float .f64 (plainF j)) (.float .f64 (drawF s ((k0 : Int) + 1)))).run Try.prog W = .ok (.float .f64 (partF j s ((k0 : Int) + 1))) W := fun W => run_mul (partF_any pj _).1 W
  have m2 : ∀ (W : World), (binOp .sub 22 (.float .f64 4607182418800017408) (.float .f64 (partF j s ((k0 : Int) + 1)))).run Try.prog W = .ok (.float .f64 (dF j s ((k0 : Int) + 1))) W := fun W => run_sub (dF_any pj _).1 W
  have m3 : ∀ (W : World), (binOp .mul 22 (.float .f64 (capF f g c k0)) (.float .f64 (dF j s ((k0 : Int) + 1)))).run Try.prog W = .ok (.float .f64 (waitK f g c j s k0)) W := fun W => run_mul (waitK_any pf pg pc pj k0).1 W
  have M4 : ∀ (k : Nat) (W : World), (binOp .mul 22 (.float .f64 (bAt f g k)) (.float .f64 (plainF g))).run Try.prog W = .ok (.float .f64 (bAt f g (k + 1))) W := fun k W => run_mul (bAt_mul pf pg k) W
  have hcap := cap_less (bAt_any pf pg k0).1 pc
  clear hp pf pg pc pj wf wg wc wj
  have hT : (k0 : Int) ≤ 100 := by omega
  have M3 := Lib.hid m3
  have HCAP := Lib.hid hcap
  clear m3 hcap
  go_enter Try.func93, Try.ntmps93
  go_wp2_with (go_at_call 83; refine (plain24_any _ _).mono ?_; rintro e w' ⟨rfl, rfl⟩)
  obtain ⟨w1, hw1⟩ : ∃ w1, w1 = w.alloc (.cells #[.int .i64 T, .float .f64 f, .float .f64 g, .float .f64 c, .float .f64 j, .float .f64 d, .int .u64 s, .slice a n cp] 26) := ⟨_, rfl⟩
  rw [← hw1]
  have hbel : Below w.heap.size w w1 := by rw [hw1]; exact (Below.refl _ _).alloc (Nat.le_refl _) _
  have cells : ∀ i, w1.cell? ⟨w.heap.size, i, none⟩ = #[Value.int .i64 T, .float .f64 f, .float .f64 g, .float .f64 c, .float .f64 j, .float .f64 d, .int .u64 s, .slice a n cp][i]? := fun i => by rw [hw1]; exact cell_of_block (alloc_at _ _) i
  clear hw1
  go_loop [5, 6] (fun b i => ∃ k : Nat, k ≤ k0 ∧ i = .int .i64 ((k : Int) + 1) ∧ b = .float .f64 (bAt f g k)) (fun _ i => k0 + 1 - (intOf i).toNat)
  case atStart => exact ⟨0, by omega, rfl, rfl⟩
  case round =>
    obtain ⟨k, hk, rfl, rfl⟩ := hrel
    have m4 := M4 k
    clear M4
    by_cases hlt : k < k0
    · have h1 : (k : Int) + 1 < (k0 : Int) + 1 := by omega
      clear m1 m2
      go_wp2_with (go_at_call 83; refine (plain24_any _ _).mono ?_; rintro e w' ⟨rfl, rfl⟩)
      go_round
      case rel => exact ⟨k + 1, by omega, by go_num, rfl⟩
      case measure => simp [intOf]; omega
    · obtain rfl : k = k0 := by omega
      have h1 : ¬ ((k : Int) + 1 < (k : Int) + 1) := by omega
      have m3 : ∀ (W : World), (binOp .mul 22 (.float .f64 (if (FloatKind.f64.format.order (plainF c) (bAt f g k) == some .lt) = true then plainF c else bAt f g k)) (.float .f64 (dF j s ((k : Int) + 1)))).run Try.prog W = .ok (.float .f64 (waitK f g c j s k)) W := by
        intro W; rw [HCAP.out]; exact M3.out W
      clear m4 hlt hk
      cases hc : (FloatKind.f64.format.order (plainF c) (bAt f g k) == some .lt)
      all_goals
        rw [hc] at m3
        simp only [if_true, if_false, Bool.false_eq_true] at m3
        go_wp2_with (go_at_call 83; refine (plain24_any _ _).mono ?_; rintro e w' ⟨rfl, rfl⟩)
        go_quiet ((first | (go_at_call 83; exact quiet_eq (plain24_any _ _)) | (go_at_call 132; exact quiet_eq (draw24_any _ _ _))))
        go_wp2
        go_ret
        exact ⟨rfl, below_dN hbel⟩

set_option maxRecDepth 100000 in
theorem waits24_bad (t : Int) (f g c j d : Nat) (s : Int) (a : Option Addr) (n cp : Nat) (w : World) (wf : f < 18446744073709551616) (wg : g < 18446744073709551616) (hok : badPlan t f g c d j n = true) :
    Calls Try.prog 39 #[.agg #[.int .i64 t, .float .f64 f, .float .f64 g, .float .f64 c, .float .f64 j, .float .f64 d, .int .u64 s, .slice a n cp]] w fun e w' =>
      e = .returned (.tuple #[.slice none 0 0, .int .i64 240]) ∧ Below w.heap.size w w' := by
  have hE : plan24E t f g c d j n = 240 := by unfold plan24E; rw [bad24_eq wf wg, hok]; rfl
  have HE := Lib.hid hE
  clear hE hok
  go_enter Try.func39, Try.ntmps39
  go_wp2_with fail
  refine (check24_any _ _ _ _ _ _ _ _ _ _ _).mono ?_
  rintro e w1 ⟨rfl, hb⟩
  rw [HE.out]
  have hbel : Below w.heap.size w w1 := ((Below.refl _ _).alloc (Nat.le_refl _) _).trans (hb.mono (by simp))
  clear hb
  go_wp2
  go_ret2
  exact ⟨rfl, hbel⟩

set_option maxRecDepth 100000 in
set_option maxHeartbeats 4000000 in
theorem waits24_ok (t : Int) (f g c j d : Nat) (s : Int) (a : Option Addr) (n cp : Nat) (w : World) (hok : badPlan t f g c d j n = false)
    (wf : f < 18446744073709551616) (wg : g < 18446744073709551616) (wc : c < 18446744073709551616) (wj : j < 18446744073709551616) :
    Calls Try.prog 39 #[.agg #[.int .i64 t, .float .f64 f, .float .f64 g, .float .f64 c, .float .f64 j, .float .f64 d, .int .u64 s, .slice a n cp]] w fun e w' =>
      ∃ v, e = .returned (.tuple #[v, .int .i64 0]) ∧ w'.ownsRow (w.heap.size + 1) 22 1 v (t.toNat - 1) ((waitsL f g c j s (t.toNat - 1)).map (.float .f64)) ∧ Below w.heap.size w w' := by
  have hE : plan24E t f g c d j n = 0 := by unfold plan24E; rw [bad24_eq wf wg, hok]; rfl
  have hp := plan_of hok
  have t1 := hp.t1
  have t2 := hp.t2
  obtain ⟨i0, hi, hz0, hz1, hz2⟩ := info_parts Try.info22
  obtain ⟨T, rfl⟩ : ∃ T : Nat, t = (T : Int) := ⟨t.toNat, by omega⟩
  have HE := Lib.hid hE
  have HP := Lib.hid hp
  clear hE hok hp
  go_enter Try.func39, Try.ntmps39
  go_wp2_with fail
  refine (check24_any _ _ _ _ _ _ _ _ _ _ _).mono ?_
  rintro e w1 ⟨rfl, hb⟩
  rw [HE.out]
  have hblk : w1.heap[w.heap.size]? = some (.cells (planV T f g c j d s (.slice a n cp)) 26 (0, 0)) := by
    rw [hb.block _ (by simp)]; exact alloc_at _ _
  have hbel : Below w.heap.size w w1 := ((Below.refl _ _).alloc (Nat.le_refl _) _).trans (hb.mono (by simp))
  have hsz : w.heap.size + 1 ≤ w1.heap.size := by have := hb.size; simpa using this
  clear hb
  have HBLK := Lib.hid hblk
  clear hblk
  go_wp2_with fail
  go_loopw [5, 6] (fun o i wr => ∃ k : Nat, k + 1 ≤ T ∧ i = .int .i64 ((k : Int) + 1) ∧ wr.ownsRow (w.heap.size + 1) 22 1 o k ((waitsL f g c j s k).map (.float .f64)) ∧ wr.heap[w.heap.size]? = some (.cells (planV T f g c j d s (.slice a n cp)) 26 (0, 0)) ∧ Below w.heap.size w wr ∧ w.heap.size + 1 ≤ wr.heap.size) (fun _ i _ => T - (intOf i).toNat)
  case atStart => exact ⟨0, by omega, rfl, World.ownsRow_nil _ _ _ _, HBLK.out, hbel, hsz⟩
  case round =>
    obtain ⟨k, hk, rfl, hown, hblk, hbl, hsw⟩ := hrel
    have hcl : ∀ i, wr.cell? ⟨w.heap.size, i, none⟩ = #[Value.int .i64 T, .float .f64 f, .float .f64 g, .float .f64 c, .float .f64 j, .float .f64 d, .int .u64 s, .slice a n cp][i]? := fun i => cell_of_block hblk i
    have hkm : (k : Int) ≤ 100 := by omega
    have HBL := Lib.hid hblk
    clear hblk HBLK
    by_cases hlt : k + 1 < T
    · have hlt' : (k : Int) + 1 < (T : Int) := by omega
      have HLT := Lib.hid hlt
      clear hlt
      go_wp2_with ((with_reducible refine at_op (.load 26 (.tmp 1)) rfl ?_); refine wpList_load_row rfl 26 (.tmp 1) rfl w.heap.size rfl 26 _ (0, 0) _ HBL.out Try.underlying26 rfl (by kernel_rfl) ?_)
      refine (wait24_any _ _ _ _ _ _ _ _ _ _ _ _ HP.out HLT.out wf wg wc wj).mono ?_
      rintro e w3 ⟨rfl, hb3⟩
      have hq1 := ownsRow_below hown hb3 (Nat.le_refl _)
      have hq2 : w3.heap[w.heap.size]? = some (.cells (planV T f g c j d s (.slice a n cp)) 26 (0, 0)) := by rw [hb3.block _ (by omega)]; exact HBL.out
      have hq3 : Below w.heap.size w w3 := hbl.trans (hb3.mono (by omega))
      have hq4 : w.heap.size + 1 ≤ w3.heap.size := by have := hb3.size; omega
      clear hb3 hown HBL hbl hsw hcl
      have HQ2 := Lib.hid hq2
      clear hq2
      go_wp2_with (at_builtin; refine wpList_append_own _ rfl (.tmp 18) (.tmp 22) 29 rfl (w.heap.size + 1) 22 i0 (.float .f64 0) 1 8 Try.underlying29 hi hz0 hz1 hz2 rfl (by decide) _ _ _ rfl (hq1.alloc _) ⟨w3.heap.size, 0, none⟩ 1 1 [.float .f64 (waitK f g c j s k)] rfl rfl ?c1 ?c2 ?c3 ?c4 ?c5 ?_)
      case c1 => exact cell_one_new _ _ _
      case c2 => intro u hu; simp at hu; subst hu; rfl
      case c3 => unfold maxLen; omega
      case c4 => omega
      case c5 => simp; omega
      intro v' w2 hown2 hgrow _
      have hr1 : w2.ownsRow (w.heap.size + 1) 22 1 v' (k + 1) ((waitsL f g c j s (k + 1)).map (.float .f64)) := by rw [waitsL_succ, List.map_append]; exact hown2
      have hne : ∀ i, i < w.heap.size + 1 → some i ≠ u5.ownBlock := fun i hi h => by have := (hq1.lt i h.symm).1; omega
      have hr2 : w2.heap[w.heap.size]? = some (.cells (planV T f g c j d s (.slice a n cp)) 26 (0, 0)) := by
        rw [hgrow.block _ (by simp; omega) (hne _ (by omega)), Below.heap_alloc _ _ _ (by omega)]; exact HQ2.out
      have hr3 : Below w.heap.size w w2 := (hq3.alloc (by omega) _).grown hgrow (by simp; omega) (fun i hi => by have := (hq1.lt i hi).1; omega)
      have hr4 : w.heap.size + 1 ≤ w2.heap.size := by have := hgrow.size; simp at this; omega
      have HR2 := Lib.hid hr2
      clear hown2 hgrow hne hq1 hq3 hq4 HQ2 hr2
      go_wp2_with fail
      go_roundw
      case rel => exact ⟨k + 1, by omega, by go_num, hr1, HR2.out, hr3, hr4⟩
      case measure => simp [intOf]; omega
    · have hlt' : ¬ (k : Int) + 1 < (T : Int) := by omega
      obtain rfl : T = k + 1 := by omega
      go_wp2
      go_ret2
      exact ⟨_, rfl, by simpa using hown, hbl⟩

end Go.Proofs.Ytmdfkljmgijdlaa
