/- The contract of retry's Waits. -/
import Derived.Test.YtmdfkljmgijdlaaGd
namespace Go.Proofs.Ytmdfkljmgijdlaa
open Go.RowKit
set_option linter.unusedVariables false

theorem Try.info22 : (Try.prog.info? 22).map (fun i => (i.zero, i.size, i.bytes)) = some (some (.float .f64 0), 1, 8) := by kernel_rfl

def planV (t : Int) (f g c j d : Nat) (s : Int) (v : Value) : Array Value := #[.int .i64 t, .float .f64 f, .float .f64 g, .float .f64 c, .float .f64 j, .float .f64 d, .int .u64 s, v]

set_option maxRecDepth 100000 in
set_option maxHeartbeats 4000000 in
theorem waits_ok (t : Int) (f g c j d : Nat) (s : Int) (a : Option Addr) (n cp : Nat) (w : World) (hok : badPlan t f g c d j n = false)
    (wf : f < 18446744073709551616) (wg : g < 18446744073709551616) (wc : c < 18446744073709551616) (wj : j < 18446744073709551616) :
    Calls Try.prog 15 #[.agg #[.int .i64 t, .float .f64 f, .float .f64 g, .float .f64 c, .float .f64 j, .float .f64 d, .int .u64 s, .slice a n cp]] w fun e w' =>
      ∃ v, e = .returned (.tuple #[v, .int .i64 0]) ∧ w'.ownsRow (w.heap.size + 1) 22 1 v (t.toNat - 1) ((waitsL f g c j s (t.toNat - 1)).map (.float .f64)) ∧ Below w.heap.size w w' := by
  have hE : planE t f g c d j n = 0 := by unfold planE; rw [hok]; rfl
  have hp := plan_of hok
  have t1 := hp.t1
  have t2 := hp.t2
  have pf := hp.pf wf
  have pg := hp.pg wg
  have pc := hp.pc wc
  have pj := hp.pj wj
  have M1 : ∀ (k : Nat) (W : World), (binOp .mul 22 (.float .f64 (plainF j)) (.float .f64 (drawF s ((k : Int) + 1)))).run Try.prog W = .ok (.float .f64 (partF j s ((k : Int) + 1))) W := fun k W => run_mul (partF_any pj _).1 W
  have M2 : ∀ (k : Nat) (W : World), (binOp .sub 22 (.float .f64 4607182418800017408) (.float .f64 (partF j s ((k : Int) + 1)))).run Try.prog W = .ok (.float .f64 (dF j s ((k : Int) + 1))) W := fun k W => run_sub (dF_any pj _).1 W
  have M3 : ∀ (k : Nat) (W : World), (binOp .mul 22 (.float .f64 (minF (bAt f g k) (plainF c))) (.float .f64 (dF j s ((k : Int) + 1)))).run Try.prog W = .ok (.float .f64 (waitK f g c j s k)) W := fun k W => run_mul (waitK_any pf pg pc pj k).1 W
  have M4 : ∀ (k : Nat) (W : World), (binOp .mul 22 (.float .f64 (bAt f g k)) (.float .f64 (plainF g))).run Try.prog W = .ok (.float .f64 (bAt f g (k + 1))) W := fun k W => run_mul (bAt_mul pf pg k) W
  obtain ⟨i0, hi, hz0, hz1, hz2⟩ := info_parts Try.info22
  obtain ⟨T, rfl⟩ : ∃ T : Nat, t = (T : Int) := ⟨t.toNat, by omega⟩
  have HE := Lib.hid hE
  clear hE hok hp pf pg pc pj wf wg wc wj
  go_enter Try.func15, Try.ntmps15
  go_wp2_with fail
  refine (check_any _ _ _ _ _ _ _ _ _ _ _).mono ?_
  rintro e w1 ⟨rfl, hb⟩
  rw [HE.out]
  have hblk : w1.heap[w.heap.size]? = some (.cells (planV T f g c j d s (.slice a n cp)) 27 (0, 0)) := by
    rw [hb.block _ (by simp)]; exact alloc_at _ _
  have hbel : Below w.heap.size w w1 := ((Below.refl _ _).alloc (Nat.le_refl _) _).trans (hb.mono (by simp))
  have hsz : w.heap.size + 1 ≤ w1.heap.size := by have := hb.size; simpa using this
  have cells : ∀ i, w1.cell? ⟨w.heap.size, i, none⟩ = #[Value.int .i64 T, .float .f64 f, .float .f64 g, .float .f64 c, .float .f64 j, .float .f64 d, .int .u64 s, .slice a n cp][i]? := fun i => cell_of_block hblk i
  clear hb
  have HBLK := Lib.hid hblk
  clear hblk
  go_wp2_with (go_at_call 74; refine (plain_any _ _).mono ?_; rintro e w' ⟨rfl, rfl⟩)
  clear cells
  go_loopw [5, 6, 7] (fun o b i wr => ∃ k : Nat, k + 1 ≤ T ∧ i = .int .i64 ((k : Int) + 1) ∧ b = .float .f64 (bAt f g k) ∧ wr.ownsRow (w.heap.size + 1) 22 1 o k ((waitsL f g c j s k).map (.float .f64)) ∧ wr.heap[w.heap.size]? = some (.cells (planV T f g c j d s (.slice a n cp)) 27 (0, 0)) ∧ Below w.heap.size w wr ∧ w.heap.size + 1 ≤ wr.heap.size) (fun _ _ i _ => T - (intOf i).toNat)
  case atStart => exact ⟨0, by omega, rfl, rfl, World.ownsRow_nil _ _ _ _, HBLK.out, hbel, hsz⟩
  case round =>
    obtain ⟨k, hk, rfl, rfl, hown, hblk, hbl, hsw⟩ := hrel
    have hok' : ∀ i, wr.cell? ⟨w.heap.size, i, none⟩ = #[Value.int .i64 T, .float .f64 f, .float .f64 g, .float .f64 c, .float .f64 j, .float .f64 d, .int .u64 s, .slice a n cp][i]? := fun i => cell_of_block hblk i
    have m1 := M1 k
    have m2 := M2 k
    have m3 := M3 k
    have m4 := M4 k
    have hkm : (k : Int) ≤ 100 := by omega
    have HBL := Lib.hid hblk
    clear hblk M1 M2 M3 M4 HBLK
    by_cases hlt : k + 1 < T
    · have hlt' : (k : Int) + 1 < (T : Int) := by omega
      clear hlt
      go_wp2_with (first | (go_at_call 74; refine (plain_any _ _).mono ?_; rintro e w' ⟨rfl, rfl⟩) | (go_at_call 75; refine (min_any _ _ _).mono ?_; rintro e w' ⟨rfl, rfl⟩))
      go_quiet ((first | (go_at_call 74; exact quiet_eq (plain_any _ _)) | (go_at_call 76; exact quiet_eq (draw_any _ _ _))))
      obtain ⟨wq, hwq⟩ : ∃ wq, wq = wr.drewN nq := ⟨_, rfl⟩
      have hq1 : wq.ownsRow (w.heap.size + 1) 22 1 u5 k ((waitsL f g c j s k).map (.float .f64)) := by rw [hwq]; exact hown
      have hq2 : wq.heap[w.heap.size]? = some (.cells (planV T f g c j d s (.slice a n cp)) 27 (0, 0)) := by rw [hwq]; exact HBL.out
      have hq3 : Below w.heap.size w wq := by rw [hwq]; exact below_dN hbl
      have hq4 : w.heap.size + 1 ≤ wq.heap.size := by rw [hwq]; exact hsw
      rw [← hwq]
      clear hwq hown HBL hbl hsw hok' m1
      have HQ2 := Lib.hid hq2
      clear hq2
      go_wp2_with (at_builtin; refine wpList_append_own _ rfl _ _ 29 rfl (w.heap.size + 1) 22 i0 (.float .f64 0) 1 8 Try.underlying29 hi hz0 hz1 hz2 rfl (by decide) _ _ _ rfl (hq1.alloc _) ⟨wq.heap.size, 0, none⟩ 1 1 [.float .f64 (waitK f g c j s k)] rfl rfl ?c1 ?c2 ?c3 ?c4 ?c5 ?_)
      case c1 => exact cell_one_new _ _ _
      case c2 => intro u hu; simp at hu; subst hu; rfl
      case c3 => unfold maxLen; omega
      case c4 => omega
      case c5 => simp; omega
      intro v' w2 hown2 hgrow _
      rw [show k + 1 = k + 1 from rfl] at hown2
      have hr1 : w2.ownsRow (w.heap.size + 1) 22 1 v' (k + 1) ((waitsL f g c j s (k + 1)).map (.float .f64)) := by rw [waitsL_succ, List.map_append]; exact hown2
      have hne : ∀ i, i < w.heap.size + 1 → some i ≠ u5.ownBlock := fun i hi h => by have := (hq1.lt i h.symm).1; omega
      have hr2 : w2.heap[w.heap.size]? = some (.cells (planV T f g c j d s (.slice a n cp)) 27 (0, 0)) := by
        rw [hgrow.block _ (by simp; omega) (hne _ (by omega)), Below.heap_alloc _ _ _ (by omega)]; exact HQ2.out
      have hr3 : Below w.heap.size w w2 := (hq3.alloc (by omega) _).grown hgrow (by simp; omega) (fun i hi => by have := (hq1.lt i hi).1; omega)
      have hr4 : w.heap.size + 1 ≤ w2.heap.size := by have := hgrow.size; simp at this; omega
      have cells2 : ∀ i, w2.cell? ⟨w.heap.size, i, none⟩ = #[Value.int .i64 T, .float .f64 f, .float .f64 g, .float .f64 c, .float .f64 j, .float .f64 d, .int .u64 s, .slice a n cp][i]? := fun i => cell_of_block hr2 i
      have HR2 := Lib.hid hr2
      clear hown2 hgrow hne hq1 hq3 hq4 HQ2 hr2 m2 m3
      go_wp2_with (go_at_call 74; refine (plain_any _ _).mono ?_; rintro e w' ⟨rfl, rfl⟩)
      go_roundw
      case rel => exact ⟨k + 1, by omega, by go_num, rfl, hr1, HR2.out, hr3, hr4⟩
      case measure => simp [intOf]; omega
    · have hlt' : ¬ (k : Int) + 1 < (T : Int) := by omega
      obtain rfl : T = k + 1 := by omega
      go_wp2
      go_ret2
      exact ⟨_, rfl, by simpa using hown, hbl⟩
end Go.Proofs.Ytmdfkljmgijdlaa
