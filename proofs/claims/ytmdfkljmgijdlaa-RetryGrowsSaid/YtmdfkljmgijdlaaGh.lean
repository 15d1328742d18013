/- The walk of RetryGrows. -/
import Derived.Test.YtmdfkljmgijdlaaGg
import Derived.Test.YtmdfkljmgijdlaaK2
namespace Go.Proofs.Ytmdfkljmgijdlaa
open Go.RowKit
set_option linter.unusedVariables false

theorem bad_calm {t : Int} {f g c d j n : Nat} (h : badPlan t f g c d j n = false) : badPlan t f g c d 0 n = false := by
  have h0 : ge0 0 = true := by decide +kernel
  have h1 : le1 0 = true := by decide +kernel
  unfold badPlan at *
  simp only [Bool.or_eq_false_iff, Bool.not_eq_false'] at *
  simp [h, h0, h1]

theorem bad_more {t : Int} {f g c d j n : Nat} (h : badPlan t f g c d j n = false) : badPlan (min 100 (t + 1)) f g c d j n = false := by
  have hp := plan_of h
  have t1 := hp.t1
  unfold badPlan at *
  simp only [Bool.or_eq_false_iff, decide_eq_false_iff_not] at *
  obtain ⟨⟨⟨⟨⟨⟨⟨_, _⟩, h3⟩, h4⟩, h5⟩, h6⟩, h7⟩, h9⟩ := h
  exact ⟨⟨⟨⟨⟨⟨⟨by omega, by omega⟩, h3⟩, h4⟩, h5⟩, h6⟩, h7⟩, h9⟩

theorem ord_ge0 {x : Nat} (h : x ≤ Fl.infR) : (FloatKind.f64.format.order x 0 == some .gt || FloatKind.f64.format.order x 0 == some .eq) = true := by
  rw [fmt_eq, Fl.order_pos h (Nat.zero_le _)]
  rcases Nat.eq_zero_or_pos x with rfl | h0
  · rfl
  · rw [Nat.compare_eq_gt.2 h0]; rfl
theorem ord_not_gt {x y : Nat} (hx : x ≤ Fl.infR) (hy : ¬ Fl.NaN y) (h : (x : Int) ≤ Fl.key y) : (FloatKind.f64.format.order x y == some .gt) = false := by
  rw [fmt_eq, Fl.order_any (Fl.nn_pos hx) hy, Fl.key_pos hx, Fl.compare_int]
  by_cases h1 : (x : Int) < Fl.key y
  · rw [if_pos h1]; rfl
  · rw [if_neg h1, if_pos (by omega)]; rfl
theorem ord_not_lt {x y : Nat} (hx : x ≤ Fl.infR) (hy : y ≤ Fl.infR) (h : y ≤ x) : (FloatKind.f64.format.order x y == some .lt) = false := by
  rw [fmt_eq, Fl.order_pos hx hy]
  rcases Nat.lt_or_eq_of_le h with g | rfl
  · rw [Nat.compare_eq_gt.2 g]; rfl
  · rw [Nat.compare_eq_eq.2 rfl]; rfl
theorem ord_self {x : Nat} (hx : x ≤ Fl.infR) : (FloatKind.f64.format.order x x != some .eq) = false := by
  rw [fmt_eq, Fl.order_pos hx hx, Nat.compare_eq_eq.2 rfl]; rfl
theorem ord_ge1 {x : Nat} (hx : ¬ Fl.NaN x) (h : (FloatKind.f64.format.order x 4607182418800017408 == some .gt || FloatKind.f64.format.order x 4607182418800017408 == some .eq) = true) : (Fl.one : Int) ≤ Fl.key x := by
  have ho : (4607182418800017408 : Nat) ≤ Fl.infR := by decide
  rw [fmt_eq, Fl.order_any hx (Fl.nn_pos ho), Fl.key_pos ho, Fl.compare_int] at h
  have : Fl.one = 4607182418800017408 := rfl
  by_cases h1 : Fl.key x < (4607182418800017408 : Nat)
  · rw [if_pos h1] at h; exact absurd h (by decide)
  · omega

/-- What the loop asks of the waits. -/
structure Grows (f g c j : Nat) (s : Int) : Prop where
  pa : ∀ k, (FloatKind.f64.format.order (waitK f g c j s k) 0 == some .gt || FloatKind.f64.format.order (waitK f g c j s k) 0 == some .eq) = true
  pb : ∀ k, (FloatKind.f64.format.order (waitK f g c j s k) c == some .gt) = false
  pc : ∀ k, (FloatKind.f64.format.order (waitK f g c j s k) (waitK f g c 0 s k) == some .gt) = false
  pd : ∀ k, (FloatKind.f64.format.order (waitK f g c j s k) (waitK f g c j s k) != some .eq) = false
  pe : (FloatKind.f64.format.order g 4607182418800017408 == some .gt || FloatKind.f64.format.order g 4607182418800017408 == some .eq) = true → ∀ k, (FloatKind.f64.format.order (waitK f g c 0 s (k + 1)) (waitK f g c 0 s k) == some .lt) = false

theorem grows_of {t : Int} {f g c d j n : Nat} (s : Int) (hp : Plan t f g c d j n) (wf : f < 18446744073709551616) (wg : g < 18446744073709551616) (wc : c < 18446744073709551616) (wj : j < 18446744073709551616) : Grows f g c j s := by
  have pf := hp.pf wf
  have pg := hp.pg wg
  have pc := hp.pc wc
  have pj := hp.pj wj
  have p0 : plainF 0 = 0 := by decide +kernel
  have hk : ∀ k, waitK f g c j s k ≤ capF f g c k ∧ capF f g c k ≤ plainF c := fun k => (waitK_any pf pg pc pj k).2
  have h0 : ∀ k, waitK f g c 0 s k = capF f g c k := fun k => waitK_calm pf pg pc p0 k
  have kc := plainF_pos wc hp.c0.1 hp.c0.2
  refine ⟨fun k => ord_ge0 (by have := hk k; omega), fun k => ord_not_gt (by have := hk k; omega) hp.c0.1 ?_, fun k => ?_, fun k => ord_self (by have := hk k; omega), fun hg k => ?_⟩
  · rw [← kc.2.1, Fl.key_pos pc]; have := hk k; omega
  · rw [h0]; exact ord_not_gt (by have := hk k; omega) (Fl.nn_pos (by have := hk k; omega)) (by rw [Fl.key_pos (by have := hk k; omega)]; have := hk k; omega)
  · rw [h0, h0]
    have hn : ¬ Fl.NaN g := fun h => by have := hp.g0.1; unfold Fl.Fnt Fl.NaN at *; omega
    have h1 := ord_ge1 hn hg
    have kg := plainF_pos wg hn hp.g0.2
    have : Fl.one ≤ plainF g := by rw [← kg.2.1, Fl.key_pos kg.1] at h1; omega
    exact ord_not_lt (by have := hk (k + 1); omega) (by have := hk k; omega) (capF_rise pf pg pc this k)

set_option maxRecDepth 100000 in
set_option maxHeartbeats 8000000 in
theorem grows_walk (t : Int) (f g c j d : Nat) (s : Int) (a : Option Addr) (n cp : Nat) (w : World) (L : List Int) (hr : RowIn w a n cp (L.map (.int .i16))) (hreach : n * 2 ≤ 140737488351232)
    (wf : f < 18446744073709551616) (wg : g < 18446744073709551616) (wc : c < 18446744073709551616) (wj : j < 18446744073709551616) (wt : t ≤ 9223372036854775807) (hok : badPlan t f g c d j n = false) :
    Calls Try.prog 3 #[.agg #[.int .i64 t, .float .f64 f, .float .f64 g, .float .f64 c, .float .f64 j, .float .f64 d, .int .u64 s, .slice a n cp]] w fun e w' =>
      e = .returned (.bool true) ∧ Below w.heap.size w w' := by
  have hr' := hr.below ((Below.refl w.heap.size w).alloc (Nat.le_refl _) (.cells #[.int .i64 t, .float .f64 f, .float .f64 g, .float .f64 c, .float .f64 j, .float .f64 d, .int .u64 s, .slice a n cp] 26))
  have hcalm := bad_calm hok
  have hmore := bad_more hok
  have HCALM := Lib.hid hcalm
  have HMORE := Lib.hid hmore
  have HOK := Lib.hid hok
  have HR := Lib.hid hr'
  clear hcalm hmore hok hr hr'
  go_enter Try.func3, Try.ntmps3
  go_wp2_with fail
  refine (own_any _ _ _ _ _ _ _ _ _ _ _ _ HR.out hreach).mono ?_
  rintro e w1 ⟨b1, cap1, rfl, hown1, hb1⟩
  have hbel1 : Below w.heap.size w w1 := ((Below.refl _ _).alloc (Nat.le_refl _) _).trans (hb1.mono (by simp))
  have hsz1 : w.heap.size + 1 ≤ w1.heap.size := by have := hb1.size; simpa using this
  have hP : w1.heap[w.heap.size]? = some (.cells (planV t f g c j d s (.slice a n cp)) 26 (0, 0)) := by rw [hb1.block _ (by simp)]; exact alloc_at _ _
  clear hb1 hown1 HR
  have HP := Lib.hid hP
  clear hP
  go_wp2_with (with_reducible refine at_op (.store 27 (.tmp 3) (.tmp 12)) rfl ?_; refine wpList_store_new rfl 27 (.tmp 3) (.tmp 12) rfl w1.heap.size rfl 27 _ rfl #[.int .i64 t, .float .f64 f, .float .f64 g, .float .f64 c, .float .f64 j, .float .f64 d, .int .u64 s, .slice (some ⟨b1, 0, none⟩) n cap1] rfl (by kernel_rfl) rfl (by simp [Value.oneCell']) ?_)
  refine (waits_ok _ _ _ _ _ _ _ _ _ _ _ HOK.out wf wg wc wj).mono ?_
  rintro e w2 ⟨v1, rfl, hl1, hb2⟩
  have hM : w2.heap[w1.heap.size]? = some (.cells #[.int .i64 t, .float .f64 f, .float .f64 g, .float .f64 c, .float .f64 j, .float .f64 d, .int .u64 s, .slice (some ⟨b1, 0, none⟩) n cap1] 27 (0, 0)) := by
    rw [hb2.block _ (by simp)]; exact alloc_at _ _
  have hP2 : w2.heap[w.heap.size]? = some (.cells (planV t f g c j d s (.slice a n cp)) 26 (0, 0)) := by
    rw [hb2.block _ (by simp; omega), alloc_old _ _ _ (by omega)]; exact HP.out
  have hbel2 : Below w.heap.size w w2 := (hbel1.alloc (by omega) _).trans (hb2.mono (by simp; omega))
  have hsz2 : w1.heap.size + 1 ≤ w2.heap.size := by have := hb2.size; simpa using this
  simp only [World.size_alloc] at hl1
  clear hb2 HP
  have HP := Lib.hid hP2
  have HM := Lib.hid hM
  clear hP2
  have fm : w2.frozen? ⟨w1.heap.size, 4, none⟩ = false := frozen_of_block hM _
  have cm : w2.cell? ⟨w1.heap.size, 4, none⟩ = some (.float .f64 j) := by rw [cell_of_block hM]; rfl
  clear hM
  obtain ⟨w3, hw3⟩ : ∃ w3, w3 = w2.setCell ⟨w1.heap.size, 4, none⟩ (.float .f64 0) := ⟨_, rfl⟩
  have hM3 : w3.heap[w1.heap.size]? = some (.cells #[.int .i64 t, .float .f64 f, .float .f64 g, .float .f64 c, .float .f64 0, .float .f64 d, .int .u64 s, .slice (some ⟨b1, 0, none⟩) n cap1] 27 (0, 0)) := by rw [hw3, heap_setCell_same _ _ _ _ _ _ HM.out]; rfl
  have hP3 : w3.heap[w.heap.size]? = some (.cells (planV t f g c j d s (.slice a n cp)) 26 (0, 0)) := by rw [hw3, heap_setCell_other _ _ _ _ (by show w.heap.size ≠ w1.heap.size; omega)]; exact HP.out
  have hbel3 : Below w.heap.size w w3 := by rw [hw3]; exact hbel2.setCell (by show w.heap.size ≤ w1.heap.size; omega) _
  have hl3 := ownsRow_setCell_below hl1 (show (⟨w1.heap.size, 4, none⟩ : Addr).block < w1.heap.size + 1 + 1 by show w1.heap.size < _; omega) (.float .f64 0)
  rw [← hw3] at hl3
  have hsz3 : w1.heap.size + 1 ≤ w3.heap.size := by rw [hw3]; simpa using hsz2
  clear hl1 hbel2 hsz2 HM HP
  have HP := Lib.hid hP3
  have HM := Lib.hid hM3
  have HW := Lib.hid hw3
  clear hP3 hM3 hw3
  go_wp2_with (first | (with_reducible refine at_op (.store 22 (.tmp 26) (.const (.float .f64 0))) rfl ?_; refine wpList_store_cell rfl 22 (.tmp 26) _ rfl ⟨w1.heap.size, 4, none⟩ _ (.float .f64 0) rfl rfl (by kernel_rfl) rfl rfl cm fm ?_; rw [← HW.out]) | (with_reducible refine at_op (.load 27 (.tmp 3)) rfl ?_; refine wpList_load_row rfl 27 (.tmp 3) rfl w1.heap.size rfl 27 _ (0, 0) _ HM.out Try.underlying27 rfl (by kernel_rfl) ?_))
  refine (waits_ok _ _ _ _ _ _ _ _ _ _ _ HCALM.out wf wg wc (by decide)).mono ?_
  rintro e w4 ⟨v2, rfl, hl4, hb4⟩
  have hM4 : w4.heap[w1.heap.size]? = some (.cells #[.int .i64 t, .float .f64 f, .float .f64 g, .float .f64 c, .float .f64 0, .float .f64 d, .int .u64 s, .slice (some ⟨b1, 0, none⟩) n cap1] 27 (0, 0)) := by rw [hb4.block _ (by omega)]; exact HM.out
  have hP4 : w4.heap[w.heap.size]? = some (.cells (planV t f g c j d s (.slice a n cp)) 26 (0, 0)) := by rw [hb4.block _ (by omega)]; exact HP.out
  have hbel4 : Below w.heap.size w w4 := hbel3.trans (hb4.mono (by omega))
  have hl34 := ownsRow_below hl3 hb4 (Nat.le_refl _)
  have hsz4 : w1.heap.size + 1 ≤ w4.heap.size := by have := hb4.size; omega
  have hl4' := ownsRow_mono hl4 (show w1.heap.size + 1 ≤ w3.heap.size + 1 by omega)
  have hl34' := ownsRow_mono hl34 (show w1.heap.size + 1 ≤ w1.heap.size + 1 + 1 by omega)
  clear hl3 hb4 hbel3 hsz3 HP HM HW hl34 hl4 cm fm
  have hcX : ∀ X, (w4.setCell ⟨w1.heap.size, 0, none⟩ X).cell? ⟨w1.heap.size, 4, none⟩ = some (.float .f64 0) := fun X => by
    rw [World.cell?_setCell_other _ _ _ _ (by simp), cell_of_block hM4]; rfl
  have hfX : ∀ X, (w4.setCell ⟨w1.heap.size, 0, none⟩ X).frozen? ⟨w1.heap.size, 4, none⟩ = false := fun X => by
    rw [World.frozen?_setCell]; exact frozen_of_block hM4 _
  have hMX : ∀ X, ((w4.setCell ⟨w1.heap.size, 0, none⟩ X).setCell ⟨w1.heap.size, 4, none⟩ (.float .f64 j)).heap[w1.heap.size]? = some (.cells #[X, .float .f64 f, .float .f64 g, .float .f64 c, .float .f64 j, .float .f64 d, .int .u64 s, .slice (some ⟨b1, 0, none⟩) n cap1] 27 (0, 0)) := fun X => by
    rw [heap_setCell_same _ _ _ _ _ _ (heap_setCell_same _ _ _ _ _ _ hM4)]; rfl
  have hPX : ∀ X, ((w4.setCell ⟨w1.heap.size, 0, none⟩ X).setCell ⟨w1.heap.size, 4, none⟩ (.float .f64 j)).heap[w.heap.size]? = some (.cells (planV t f g c j d s (.slice a n cp)) 26 (0, 0)) := fun X => by
    rw [heap_setCell_other _ _ _ _ (by show w.heap.size ≠ w1.heap.size; omega), heap_setCell_other _ _ _ _ (by show w.heap.size ≠ w1.heap.size; omega)]; exact hP4
  have hbX : ∀ X, Below w.heap.size w ((w4.setCell ⟨w1.heap.size, 0, none⟩ X).setCell ⟨w1.heap.size, 4, none⟩ (.float .f64 j)) := fun X => (hbel4.setCell (by show w.heap.size ≤ w1.heap.size; omega) _).setCell (by show w.heap.size ≤ w1.heap.size; omega) _
  have hl1X : ∀ X, ((w4.setCell ⟨w1.heap.size, 0, none⟩ X).setCell ⟨w1.heap.size, 4, none⟩ (.float .f64 j)).ownsRow (w1.heap.size + 1) 22 1 v1 (t.toNat - 1) ((waitsL f g c j s (t.toNat - 1)).map (.float .f64)) := fun X =>
    ownsRow_setCell_below (ownsRow_setCell_below hl34' (show w1.heap.size < _ by omega) _) (show w1.heap.size < _ by omega) _
  have hl2X : ∀ X, ((w4.setCell ⟨w1.heap.size, 0, none⟩ X).setCell ⟨w1.heap.size, 4, none⟩ (.float .f64 j)).ownsRow (w1.heap.size + 1) 22 1 v2 (t.toNat - 1) ((waitsL f g c 0 s (t.toNat - 1)).map (.float .f64)) := fun X =>
    ownsRow_setCell_below (ownsRow_setCell_below hl4' (show w1.heap.size < _ by omega) _) (show w1.heap.size < _ by omega) _
  have cp4 := fun i => cell_of_block hP4 i
  have cm4 := fun i => cell_of_block hM4 i
  have fm4 := fun i => frozen_of_block hM4 i
  unfold planV at cp4
  have hp := plan_of HOK.out
  have t1 := hp.t1
  have t2 := hp.t2
  clear hp
  have HMX := Lib.hid hMX
  have HPX := Lib.hid hPX
  have HBX := Lib.hid hbX
  have HL1 := Lib.hid hl1X
  have HL2 := Lib.hid hl2X
  have HCX := Lib.hid hcX
  have HFX := Lib.hid hfX
  clear hP4 hM4 hMX hPX hbX hl1X hl2X hcX hfX hl4' hl34'
  by_cases ht : t + 1 < 100
  · have hT : badPlan (t + 1) f g c d j n = false := by have := HMORE.out; rwa [show min 100 (t + 1) = (t + 1) from by omega] at this
    have HT := Lib.hid hT
    clear hT
    go_wp2_with (first | ((with_reducible refine at_op (.store 22 (.tmp 39) (.tmp 38)) rfl ?_); refine wpList_store_cell rfl 22 (.tmp 39) (.tmp 38) rfl ⟨w1.heap.size, 4, none⟩ _ (.float .f64 j) rfl rfl (by kernel_rfl) rfl rfl (HCX.out (.int .i64 (t + 1))) (HFX.out (.int .i64 (t + 1))) ?_) | ((with_reducible refine at_op (.load 27 (.tmp 3)) rfl ?_); refine wpList_load_row rfl 27 (.tmp 3) rfl w1.heap.size rfl 27 _ (0, 0) _ (HMX.out (.int .i64 (t + 1))) Try.underlying27 rfl (by kernel_rfl) ?_))
    refine (waits_ok _ _ _ _ _ _ _ _ _ _ _ HT.out wf wg wc wj).mono ?_
    rintro e w6 ⟨v3, rfl, hl6, hb6⟩
    have hl16 := ownsRow_below (HL1.out (.int .i64 (t + 1))) hb6 (Nat.le_refl _)
    have hl26 := ownsRow_below (HL2.out (.int .i64 (t + 1))) hb6 (Nat.le_refl _)
    have hbel6 : Below w.heap.size w w6 := (HBX.out (.int .i64 (t + 1))).trans (hb6.mono (by simp; omega))
    have hP6 : w6.heap[w.heap.size]? = some (.cells (planV t f g c j d s (.slice a n cp)) 26 (0, 0)) := by rw [hb6.block _ (by simp; omega)]; exact HPX.out (.int .i64 (t + 1))
    clear hb6 HL1 HL2 HBX HPX HCX HFX HMX cp4 cm4 fm4 hbel4
    obtain ⟨N, hN⟩ : ∃ N : Nat, t = (N : Int) + 1 := ⟨t.toNat - 1, by omega⟩
    obtain ⟨M, hM1, hM2⟩ : ∃ M : Nat, ((t + 1)).toNat - 1 = M ∧ N ≤ M := ⟨_, rfl, by omega⟩
    rw [hM1] at hl6
    rw [show t.toNat - 1 = N from by omega] at hl16 hl26
    obtain ⟨a1, c1, rfl, hs1⟩ := own_slice hl16
    obtain ⟨a2, c2, rfl, hs2⟩ := own_slice hl26
    obtain ⟨a3, c3, rfl, hs3⟩ := own_slice hl6
    have HG := Lib.hid (grows_of s (plan_of HOK.out) wf wg wc wj)
    have e1 : ((N : Int) != (N : Int)) = false := by simp
    have e2 : ((N : Int) != t - 1) = false := by rw [bne_eq_false_iff_eq]; omega
    have e3 : ¬ ((M : Int) < (N : Int)) := by omega
    have cp6 := fun i => cell_of_block hP6 i
    unfold planV at cp6
    have HP := Lib.hid hP6
    have HN := Lib.hid hN
    clear hP6 hl16 hl26 hl6 hM1 hN HOK HCALM HMORE HT
    go_wp2_with fail
    go_loopw [10] (fun i wr => ∃ k : Nat, i = .int .i64 k ∧ k ≤ N ∧ ∃ m, wr = w6.drewN m) (fun i _ => N - (intOf i).toNat)
    case atStart => exact ⟨0, rfl, Nat.zero_le _, 0, rfl⟩
    case round =>
      obtain ⟨k, rfl, hk, m, rfl⟩ := hrel
      have G := HG.out
      have f1 := G.pa k
      have f2 := G.pb k
      have f3 := G.pc k
      have f4 := G.pd k
      by_cases hlt : k < N
      · obtain ⟨g1, rfl, _, _, hc1⟩ := hs1 (by omega)
        obtain ⟨g2, rfl, _, _, hc2⟩ := hs2 (by omega)
        obtain ⟨g3, rfl, _, _, hc3⟩ := hs3 (by omega)
        have d1 := hc1 k hlt
        have d2 := hc2 k hlt
        have d3 := hc3 k (by omega)
        rw [waitsL_get _ _ _ _ _ _ _ hlt] at d1 d2
        rw [waitsL_get _ _ _ _ _ _ _ (by omega)] at d3
        have i1 : (k : Int) < (N : Int) := by omega
        have i3 : (k : Int) < (M : Int) := by omega
        have hN' : (N : Int) ≤ 100 := by have := HN.out; omega
        cases k with
        | zero =>
          clear hc1 hc2 hc3 hs1 hs2 hs3 G HG hlt
          go_wp2_with fail
          go_quiet (fail)
          go_wp2
          go_roundw
          case rel => exact ⟨1, by go_num, by omega, _, rfl⟩
          case measure => simp [intOf]; omega
        | succ k' =>
          have d4 := hc2 k' (by omega)
          rw [waitsL_get _ _ _ _ _ _ _ (by omega)] at d4
          have G5 := G.pe
          have i5 : (k' : Int) < (N : Int) := by omega
          have i6 : (k' : Int) + 1 < (N : Int) := by omega
          have i7 : (k' : Int) + 1 < (M : Int) := by omega
          clear hc1 hc2 hc3 hs1 hs2 hs3 G HG
          cases h5 : (FloatKind.f64.format.order g 4607182418800017408 == some .gt || FloatKind.f64.format.order g 4607182418800017408 == some .eq)
          · clear G5 d4
            go_wp2_with fail
            go_quiet (fail)
            go_wp2
            go_roundw
            case rel => exact ⟨k' + 1 + 1, by go_num, by omega, _, rfl⟩
            case measure => simp [intOf]; omega
          · have f6 := G5 h5 k'
            clear G5
            go_wp2_with fail
            go_quiet (fail)
            go_wp2
            go_roundw
            case rel => exact ⟨k' + 1 + 1, by go_num, by omega, _, rfl⟩
            case measure => simp [intOf]; omega
      · have hge : ¬ ((k : Int) < (N : Int)) := by omega
        clear f1 f2 f3 f4 G HG hs1 hs2 hs3
        go_wp2_with fail
        refine (awake_any _).mono ?_
        rintro e w7 ⟨rfl, hb7⟩
        go_wp2
        go_ret
        exact ⟨rfl, (below_dN hbel6).trans (hb7.mono (by have := hbel6.size; simpa using this))⟩
  · have hT : badPlan 100 f g c d j n = false := by have := HMORE.out; rwa [show min 100 (t + 1) = 100 from by omega] at this
    have HT := Lib.hid hT
    clear hT
    go_wp2_with (first | ((with_reducible refine at_op (.store 22 (.tmp 39) (.tmp 38)) rfl ?_); refine wpList_store_cell rfl 22 (.tmp 39) (.tmp 38) rfl ⟨w1.heap.size, 4, none⟩ _ (.float .f64 j) rfl rfl (by kernel_rfl) rfl rfl (HCX.out (.int .i64 100)) (HFX.out (.int .i64 100)) ?_) | ((with_reducible refine at_op (.load 27 (.tmp 3)) rfl ?_); refine wpList_load_row rfl 27 (.tmp 3) rfl w1.heap.size rfl 27 _ (0, 0) _ (HMX.out (.int .i64 100)) Try.underlying27 rfl (by kernel_rfl) ?_))
    refine (waits_ok _ _ _ _ _ _ _ _ _ _ _ HT.out wf wg wc wj).mono ?_
    rintro e w6 ⟨v3, rfl, hl6, hb6⟩
    have hl16 := ownsRow_below (HL1.out (.int .i64 100)) hb6 (Nat.le_refl _)
    have hl26 := ownsRow_below (HL2.out (.int .i64 100)) hb6 (Nat.le_refl _)
    have hbel6 : Below w.heap.size w w6 := (HBX.out (.int .i64 100)).trans (hb6.mono (by simp; omega))
    have hP6 : w6.heap[w.heap.size]? = some (.cells (planV t f g c j d s (.slice a n cp)) 26 (0, 0)) := by rw [hb6.block _ (by simp; omega)]; exact HPX.out (.int .i64 100)
    clear hb6 HL1 HL2 HBX HPX HCX HFX HMX cp4 cm4 fm4 hbel4
    obtain ⟨N, hN⟩ : ∃ N : Nat, t = (N : Int) + 1 := ⟨t.toNat - 1, by omega⟩
    obtain ⟨M, hM1, hM2⟩ : ∃ M : Nat, (100 : Int).toNat - 1 = M ∧ N ≤ M := ⟨_, rfl, by omega⟩
    rw [hM1] at hl6
    rw [show t.toNat - 1 = N from by omega] at hl16 hl26
    obtain ⟨a1, c1, rfl, hs1⟩ := own_slice hl16
    obtain ⟨a2, c2, rfl, hs2⟩ := own_slice hl26
    obtain ⟨a3, c3, rfl, hs3⟩ := own_slice hl6
    have HG := Lib.hid (grows_of s (plan_of HOK.out) wf wg wc wj)
    have e1 : ((N : Int) != (N : Int)) = false := by simp
    have e2 : ((N : Int) != t - 1) = false := by rw [bne_eq_false_iff_eq]; omega
    have e3 : ¬ ((M : Int) < (N : Int)) := by omega
    have cp6 := fun i => cell_of_block hP6 i
    unfold planV at cp6
    have HP := Lib.hid hP6
    have HN := Lib.hid hN
    clear hP6 hl16 hl26 hl6 hM1 hN HOK HCALM HMORE HT
    go_wp2_with fail
    go_loopw [10] (fun i wr => ∃ k : Nat, i = .int .i64 k ∧ k ≤ N ∧ ∃ m, wr = w6.drewN m) (fun i _ => N - (intOf i).toNat)
    case atStart => exact ⟨0, rfl, Nat.zero_le _, 0, rfl⟩
    case round =>
      obtain ⟨k, rfl, hk, m, rfl⟩ := hrel
      have G := HG.out
      have f1 := G.pa k
      have f2 := G.pb k
      have f3 := G.pc k
      have f4 := G.pd k
      by_cases hlt : k < N
      · obtain ⟨g1, rfl, _, _, hc1⟩ := hs1 (by omega)
        obtain ⟨g2, rfl, _, _, hc2⟩ := hs2 (by omega)
        obtain ⟨g3, rfl, _, _, hc3⟩ := hs3 (by omega)
        have d1 := hc1 k hlt
        have d2 := hc2 k hlt
        have d3 := hc3 k (by omega)
        rw [waitsL_get _ _ _ _ _ _ _ hlt] at d1 d2
        rw [waitsL_get _ _ _ _ _ _ _ (by omega)] at d3
        have i1 : (k : Int) < (N : Int) := by omega
        have i3 : (k : Int) < (M : Int) := by omega
        have hN' : (N : Int) ≤ 100 := by have := HN.out; omega
        cases k with
        | zero =>
          clear hc1 hc2 hc3 hs1 hs2 hs3 G HG hlt
          go_wp2_with fail
          go_quiet (fail)
          go_wp2
          go_roundw
          case rel => exact ⟨1, by go_num, by omega, _, rfl⟩
          case measure => simp [intOf]; omega
        | succ k' =>
          have d4 := hc2 k' (by omega)
          rw [waitsL_get _ _ _ _ _ _ _ (by omega)] at d4
          have G5 := G.pe
          have i5 : (k' : Int) < (N : Int) := by omega
          have i6 : (k' : Int) + 1 < (N : Int) := by omega
          have i7 : (k' : Int) + 1 < (M : Int) := by omega
          clear hc1 hc2 hc3 hs1 hs2 hs3 G HG
          cases h5 : (FloatKind.f64.format.order g 4607182418800017408 == some .gt || FloatKind.f64.format.order g 4607182418800017408 == some .eq)
          · clear G5 d4
            go_wp2_with fail
            go_quiet (fail)
            go_wp2
            go_roundw
            case rel => exact ⟨k' + 1 + 1, by go_num, by omega, _, rfl⟩
            case measure => simp [intOf]; omega
          · have f6 := G5 h5 k'
            clear G5
            go_wp2_with fail
            go_quiet (fail)
            go_wp2
            go_roundw
            case rel => exact ⟨k' + 1 + 1, by go_num, by omega, _, rfl⟩
            case measure => simp [intOf]; omega
      · have hge : ¬ ((k : Int) < (N : Int)) := by omega
        clear f1 f2 f3 f4 G HG hs1 hs2 hs3
        go_wp2_with fail
        refine (awake_any _).mono ?_
        rintro e w7 ⟨rfl, hb7⟩
        go_wp2
        go_ret
        exact ⟨rfl, (below_dN hbel6).trans (hb7.mono (by have := hbel6.size; simpa using this))⟩

set_option maxRecDepth 100000 in
set_option maxHeartbeats 4000000 in
theorem grows_bad (t : Int) (f g c j d : Nat) (s : Int) (a : Option Addr) (n cp : Nat) (w : World) (L : List Int) (hr : RowIn w a n cp (L.map (.int .i16))) (hreach : n * 2 ≤ 140737488351232) (hok : badPlan t f g c d j n = true) :
    Calls Try.prog 3 #[.agg #[.int .i64 t, .float .f64 f, .float .f64 g, .float .f64 c, .float .f64 j, .float .f64 d, .int .u64 s, .slice a n cp]] w fun e w' =>
      e = .returned (.bool true) ∧ Below w.heap.size w w' := by
  have hr' := hr.below ((Below.refl w.heap.size w).alloc (Nat.le_refl _) (.cells #[.int .i64 t, .float .f64 f, .float .f64 g, .float .f64 c, .float .f64 j, .float .f64 d, .int .u64 s, .slice a n cp] 26))
  have HOK := Lib.hid hok
  have HR := Lib.hid hr'
  clear hok hr hr'
  go_enter Try.func3, Try.ntmps3
  go_wp2_with fail
  refine (own_any _ _ _ _ _ _ _ _ _ _ _ _ HR.out hreach).mono ?_
  rintro e w1 ⟨b1, cap1, rfl, hown1, hb1⟩
  have hbel1 : Below w.heap.size w w1 := ((Below.refl _ _).alloc (Nat.le_refl _) _).trans (hb1.mono (by simp))
  have hsz1 : w.heap.size + 1 ≤ w1.heap.size := by have := hb1.size; simpa using this
  clear hb1 hown1 HR
  go_wp2_with ((with_reducible refine at_op (.store 27 (.tmp 3) (.tmp 12)) rfl ?_); refine wpList_store_new rfl 27 (.tmp 3) (.tmp 12) rfl w1.heap.size rfl 27 _ rfl #[.int .i64 t, .float .f64 f, .float .f64 g, .float .f64 c, .float .f64 j, .float .f64 d, .int .u64 s, .slice (some ⟨b1, 0, none⟩) n cap1] rfl (by kernel_rfl) rfl (by simp [Value.oneCell']) ?_)
  refine (waits_bad _ _ _ _ _ _ _ _ _ _ _ HOK.out).mono ?_
  rintro e w2 ⟨rfl, hb2⟩
  have hbel2 : Below w.heap.size w w2 := (hbel1.alloc (by omega) _).trans (hb2.mono (by simp; omega))
  clear hb2
  go_wp2_with fail
  refine (awake_any _).mono ?_
  rintro e w3 ⟨rfl, hb3⟩
  go_wp2
  go_ret
  exact ⟨rfl, hbel2.trans (hb3.mono (by have := hbel2.size; omega))⟩

end Go.Proofs.Ytmdfkljmgijdlaa
