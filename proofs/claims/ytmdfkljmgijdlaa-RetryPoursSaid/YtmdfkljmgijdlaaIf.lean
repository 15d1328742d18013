/- The walk of RetryBuckets. -/
import Derived.Test.YtmdfkljmgijdlaaIe
import Derived.Deep.RegionHeld3
namespace Go.Proofs.Ytmdfkljmgijdlaa
open Go.RowKit
set_option linter.unusedVariables false

theorem BK.other {w w' : World} {b c : Nat} {ty : TypeId} {s : St} (h : BK w c ty s) (hg : w.grownBy w' (some b)) (hne : c ≠ b) : BK w' c ty s := by
  unfold BK
  rw [hg.block c (block_lt (cell_of_block h 0)) (fun e => hne (by simpa using e))]
  exact h
theorem BK.drew {w : World} {b : Nat} {ty : TypeId} {s : St} (h : BK w b ty s) : BK w.drew b ty s := h
theorem cell_drew {w : World} {a : Addr} {v : Value} (h : w.cell? a = some v) : w.drew.cell? a = some v := h
theorem BK.drewN {w : World} {b : Nat} {ty : TypeId} {s : St} (h : BK w b ty s) (n : Nat) : BK (w.drewN n) b ty s := h
theorem cell_drewN {w : World} {a : Addr} {v : Value} (h : w.cell? a = some v) (n : Nat) : (w.drewN n).cell? a = some v := h
theorem below_grown {B : Nat} {w x x' : World} {b : Nat} (h : Below B w x) (hg : x.grownBy x' (some b)) (hB : B ≤ w.heap.size) (hb : B ≤ b) : Below B w x' :=
  h.grown hg (by have := h.size; omega) (fun k hk => by cases hk; exact hb)
theorem cell_grown {x x' : World} {b : Nat} {a : Addr} {v : Value} (h : x.cell? a = some v) (hg : x.grownBy x' (some b)) (hne : a.block ≠ b) : x'.cell? a = some v := by
  rw [World.cell?_of_block (w := x) (hg.block _ (block_lt h) (fun e => hne (by simpa using e)))]; exact h

/-- The questions that came in. -/
def DrawsIn (w : World) (a : Option Addr) (n : Nat) (V : Nat → Int × Nat × Nat) : Prop :=
  0 < n → ∃ p, a = some p ∧ ∀ i, i < n → w.cell? (p.add (i * 3)) = some (.int .i64 (V i).1) ∧ w.cell? ⟨(p.add (i * 3)).block, (p.add (i * 3)).off + 1, none⟩ = some (.float .f64 (V i).2.1) ∧ w.cell? ⟨(p.add (i * 3)).block, (p.add (i * 3)).off + 2, none⟩ = some (.float .f64 (V i).2.2) ∧
    (V i).2.1 < 18446744073709551616 ∧ (V i).2.2 < 18446744073709551616

set_option maxRecDepth 100000 in
set_option maxHeartbeats 4000000 in
theorem buckets_ok (r u m : Nat) (a : Option Addr) (n cp : Nat) (w : World) (wr : r < 18446744073709551616) (wu : u < 18446744073709551616) (wm : m < 18446744073709551616)
    (V : Nat → Int × Nat × Nat) (HD : DrawsIn w a n V) (hn : n ≤ maxLen) (hr : sizeF r = true) (hu : sizeF u = true) (hm : finiteF m = true) :
    Calls Try.prog 5 #[.agg #[.float .f64 r, .float .f64 u, .float .f64 m], .slice a n cp] w fun e w' => e = .returned (.bool true) ∧ Below w.heap.size w w' := by
  go_enter Try.func5, Try.ntmps5
  go_wp2_with fail
  refine (new_any r u m _ hr hu hm).mono ?_
  rintro e w1 ⟨rfl, hb1, hbel1⟩
  have hs1 : w.heap.size + 2 ≤ w1.heap.size := by have := block_lt (cell_of_block hb1 0); simp at this; omega
  have hbel2 : Below w.heap.size w w1 := ((Below.refl _ _).alloc (Nat.le_refl _) _).trans (hbel1.mono (by simp))
  have hP : w1.heap[w.heap.size]? = some (.cells #[.float .f64 r, .float .f64 u, .float .f64 m] 56 (0, 0)) := by rw [hbel1.block _ (by simp)]; exact alloc_at _ _
  have hb1' : BK w1 (w.heap.size + 1) 168 (newSt r u m) := by simpa using hb1
  have d0 := cell_of_block hP 0
  have d1 := cell_of_block hP 1
  have d2 := cell_of_block hP 2
  clear hb1 hbel1 hP
  go_wp2_with fail
  refine (new24_any r u m _ wr wu wm hr hu hm).mono ?_
  rintro e w2 ⟨rfl, hc1, hbel3⟩
  have hbel4 := hbel2.trans (hbel3.mono (by omega))
  have hb2 : BK w2 (w.heap.size + 1) 168 (newSt r u m) := by unfold BK; rw [hbel3.block _ (by omega)]; exact hb1'
  have hgood := newSt_good wr wu hr hu hm
  generalize newSt r u m = s0 at *
  generalize hC : w1.heap.size = c at *
  clear hbel3 hb1' hbel2 d0 d1 d2
  go_wp2_with fail
  go_loopw [9] (fun i x => ∃ (k : Nat) (s : St), i = .int .i64 k ∧ k ≤ n ∧ s.Good ∧ BK x (w.heap.size + 1) 168 s ∧ BK x c 170 s ∧ Below w.heap.size w x) (fun i _ => n - (intOf i).toNat)
  case atStart => exact ⟨0, s0, rfl, Nat.zero_le _, hgood, hb2, hc1, hbel4⟩
  case round =>
    clear hb2 hc1 hgood hbel4
    obtain ⟨k, s, rfl, hk, hgood, hbk, hck, hbel⟩ := hrel
    by_cases hlt : k < n
    · have i1 : (k : Int) < (n : Int) := by omega
      obtain ⟨p, rfl, hD⟩ := HD (by omega)
      obtain ⟨e1, e2, e3, w2', w3'⟩ := hD k hlt
      rename_i x0
      have f1 := hbel.cell (block_lt e1) ▸ e1
      have f2 := hbel.cell (block_lt e2) ▸ e2
      have f3 := hbel.cell (block_lt e3) ▸ e3
      have u1 : (p.add (k * 3)).block < w.heap.size := block_lt e1
      clear e1 e2 e3 hD
      have b1 : w.heap.size ≤ w.heap.size + 1 := by omega
      have b2 : w.heap.size ≤ c := by omega
      have n1 : w.heap.size + 1 ≠ c := by omega
      have u2 : (p.add (k * 3)).block ≠ w.heap.size + 1 := by omega
      have u3 : (p.add (k * 3)).block ≠ c := by omega
      have hsz := hbel.size
      have hnn : n ≤ 9223372036854775807 := hn
      clear hn HD
      by_cases hkind : (V k).1 = 1
      · rw [hkind] at f1
        cases ht : finiteF (V k).2.2
        · go_wp2_with (first | (go_at_call 29; refine (level_bad _ _ ht _).mono ?_; rintro e w' ⟨rfl, rfl⟩) | (go_at_call 30; refine (level24_bad _ _ w3' ht _).mono ?_; rintro e w' ⟨rfl, rfl⟩) | (go_at_call 31; refine (same_eq _ _).mono ?_; rintro e w' ⟨rfl, rfl⟩))
          go_roundw
          case rel => exact ⟨k + 1, s, by go_num, by omega, hgood, hbk, hck, hbel⟩
          case measure => simp [intOf]; omega
        · have hF := (finiteF_iff _).1 ht
          go_wp2_with fail
          refine (level_any s hgood _ _ ht _ hbk).mono ?_
          rintro e w3 ⟨rfl, hb1, hg1⟩
          have hc1 := hck.other hg1 (fun e => n1 e.symm)
          have f3' := cell_grown f3 hg1 u2
          have hbel' := below_grown hbel hg1 (Nat.le_refl _) b1
          clear hg1 hbk hck
          go_wp2_with fail
          refine (level24_any s hgood _ _ w3' ht _ hc1).mono ?_
          rintro e w4 ⟨rfl, hc2, hg2⟩
          have hb2 := hb1.other hg2 n1
          have hbel2 := below_grown hbel' hg2 (Nat.le_refl _) b2
          have hgood2 := refill_good hgood hF
          clear hg2 hb1 hc1
          go_wp2_with (go_at_call 31; refine (same_eq _ _).mono ?_; rintro e w' ⟨rfl, rfl⟩)
          go_roundw
          case rel => exact ⟨k + 1, _, by go_num, by omega, hgood2, hb2, hc2, hbel2⟩
          case measure => simp [intOf]; omega
      · cases hst : (sizeF (V k).2.1 && finiteF (V k).2.2)
        · go_wp2_with fail
          go_quiet ((go_at_call 32; exact quiet_eq (take_bad _ _ _ hst _)))
          have hbk := hbk.drewN nq
          have hck := hck.drewN nq
          have f2 := cell_drewN f2 nq
          have f3 := cell_drewN f3 nq
          have hbel := below_dN (n := nq) hbel
          generalize wr.drewN nq = wx at *
          go_wp2_with fail
          go_quiet ((go_at_call 33; exact quiet_eq (take24_bad _ _ _ w2' w3' hst _)))
          have hbk := hbk.drewN nq
          have hck := hck.drewN nq
          have hbel := below_dN (n := nq) hbel
          generalize wx.drewN nq = wy at *
          go_wp2_with (go_at_call 31; refine (same_eq _ _).mono ?_; rintro e w' ⟨rfl, rfl⟩)
          go_roundw
          case rel => exact ⟨k + 1, s, by go_num, by omega, hgood, hbk, hck, hbel⟩
          case measure => simp [intOf]; omega
        · simp only [Bool.and_eq_true] at hst
          obtain ⟨hsn, ht⟩ := hst
          have hF := (finiteF_iff _).1 ht
          have hgood2 := take_good hgood (V k).2.1 hF
          go_wp2_with fail
          go_region_held3 (fun w' => w'.cell? ⟨(p.add (k * 3)).block, (p.add (k * 3)).off + 1, none⟩ = some (.float .f64 (V k).2.1) ∧ w'.cell? ⟨(p.add (k * 3)).block, (p.add (k * 3)).off + 2, none⟩ = some (.float .f64 (V k).2.2))
            (first | exact ⟨cell_grown (cell_drew f2) (by assumption) u2, cell_grown (cell_drew f3) (by assumption) u2⟩ | exact ⟨f2, f3⟩)
            (first | (go_at_call 32; refine (take_any s hgood _ _ _ w2' hsn ht _ hbk.drew).mono ?_; rintro e w' ⟨rfl, hb1, hg1⟩))
          rename_i hS1
          obtain ⟨g2, g3⟩ := hS1
          have hc1 := hck.drew.other hg1 (fun e => n1 e.symm)
          have hbel1 := below_grown hbel.drew hg1 (Nat.le_refl _) b1
          clear hg1 hbk hck f1 f2 f3
          go_wp2_with fail
          go_region_held3 (fun w' => w'.cell? ⟨(p.add (k * 3)).block, (p.add (k * 3)).off + 1, none⟩ = some (.float .f64 (V k).2.1) ∧ w'.cell? ⟨(p.add (k * 3)).block, (p.add (k * 3)).off + 2, none⟩ = some (.float .f64 (V k).2.2))
            (first | exact ⟨cell_grown (cell_drew g2) (by assumption) u3, cell_grown (cell_drew g3) (by assumption) u3⟩ | exact ⟨g2, g3⟩)
            (first | (go_at_call 33; refine (take24_any s hgood _ _ _ w2' w3' hsn ht _ hc1.drew).mono ?_; rintro e w' ⟨rfl, hc2, hg2⟩))
          have hb2 := hb1.drew.other hg2 n1
          have hbel2 := below_grown hbel1.drew hg2 (Nat.le_refl _) b2
          clear hg2 hb1 hc1
          go_wp2_with (go_at_call 31; refine (same_eq _ _).mono ?_; rintro e w' ⟨rfl, rfl⟩)
          go_roundw
          case rel => exact ⟨k + 1, _, by go_num, by omega, hgood2, hb2, hc2, hbel2⟩
          case measure => simp [intOf]; omega
    · have i1 : ¬ ((k : Int) < (n : Int)) := by omega
      go_wp2_with fail
      refine (awake_any _).mono ?_
      rintro e w5 ⟨rfl, hb5⟩
      have hbel5 := hbel.trans (hb5.mono (by have := hbel.size; omega))
      go_wp2
      go_ret
      exact ⟨rfl, hbel5⟩
end Go.Proofs.Ytmdfkljmgijdlaa
