/- The walks of the document's bucket's refill, and of Level and NewBucket. -/
import Derived.Test.YtmdfkljmgijdlaaIb
namespace Go.Proofs.Ytmdfkljmgijdlaa
open Go.RowKit
set_option linter.unusedVariables false

theorem lt_pos {x y : Nat} (hx : x ≤ Fl.infR) (hy : y ≤ Fl.infR) : (FloatKind.f64.format.order x y == some .lt) = decide (x < y) := by
  rw [Fl.lt_key (Fl.nn_pos hx) (Fl.nn_pos hy), Fl.key_pos hx, Fl.key_pos hy]; simp

set_option maxRecDepth 100000 in
theorem refill24_any (s : St) (hs : s.Good) (b t : Nat) (ht : Fl.Fnt t) (w : World) (hb : BK w b 170 s) :
    Calls Try.prog 85 #[.pointer (some ⟨b, 0, none⟩), .float .f64 t] w fun e w' => e = .returned (.tuple #[]) ∧ BK w' b 170 (refillF s t) ∧ w.grownBy w' (some b) := by
  have hnt := Fl.fin_nn ht
  have hnn := Fl.fin_nn hs.now
  have hgtk := Fl.gt_key hnt hnn
  obtain ⟨c0, c1, c2, c3⟩ := hb.cells
  by_cases hk : Fl.key t ≤ Fl.key s.now
  · have hg : (FloatKind.f64.format.order t s.now == some .gt) = false := by rw [hgtk]; simp [hk]
    have e : refillF s t = s := by unfold refillF; rw [if_pos hk]
    rw [e]
    clear hgtk
    go_enter Try.func85, Try.ntmps85
    go_wp2
    refine bodyPost_ret (results_none rfl _ _ _) rfl ?_
    exact ⟨rfl, hb, grown_refl _ _⟩
  · have hg : (FloatKind.f64.format.order t s.now == some .gt) = true := by rw [hgtk]; simp; omega
    clear hgtk
    by_cases h0 : s.rate = 0
    · have e : refillF s t = { s with now := t } := by unfold refillF; rw [if_neg hk, if_pos h0]
      rw [e]
      have hgt : (FloatKind.f64.format.order s.rate 0 != some .eq) = false := by rw [h0]; decide +kernel
      clear e h0
      have fz := frozen_of_block hb 3
      go_enter Try.func85, Try.ntmps85
      go_wp2_with ((with_reducible refine at_op (.store 22 (.tmp 54) (.tmp 52)) rfl ?_); refine wpList_store_cell rfl 22 (.tmp 54) _ rfl ⟨b, 3, none⟩ _ (.float .f64 t) rfl rfl (by kernel_rfl) rfl rfl c3 fz ?_)
      go_end0
      exact ⟨rfl, hb.set3 t, grown_setCell (grown_refl _ _) _ _⟩
    · obtain ⟨m1, m2, m3, m4⟩ := more_facts hs ht (by omega) h0
      have hgt : (FloatKind.f64.format.order s.rate 0 != some .eq) = true := by
        have := Fl.fin_lt hs.rate
        rw [bne, Fl.eq_key this.2.2 (by decide), this.2.1]; simp; have : Fl.key 0 = 0 := by decide
        omega
      have hm1 := fun w => run_sub (t := 22) m1 w
      have hm2 := fun w => run_mul (t := 22) m2 w
      have hm3 := fun w => run_add (t := 22) m3 w
      have hlt := lt_pos (Nat.le_of_lt hs.burst) m4
      have e : refillF s t = { { s with tok := min s.burst (sumF s t) } with now := t } := by
        unfold refillF; rw [if_neg (by omega), if_neg h0]
      rw [e]
      have fz := frozen_of_block hb 2
      have K : ∀ z, BK (w.setCell ⟨b, 2, none⟩ (.float .f64 z)) b 170 { s with tok := z } := fun z => BK.set2 hb z
      have hg3 : ∀ z, w.grownBy (w.setCell ⟨b, 2, none⟩ (.float .f64 z)) (some b) := fun z => grown_setCell (grown_refl _ _) 2 (.float .f64 z)
      by_cases hmin : s.burst < sumF s t
      · have hd : (FloatKind.f64.format.order s.burst (sumF s t) == some .lt) = true := by rw [hlt]; simp [hmin]
        have em : min s.burst (sumF s t) = s.burst := by omega
        rw [em]
        have d3 := (K s.burst).cells.2.2.2
        have fz3 := frozen_of_block (K s.burst) 3
        clear hlt e em m1 m2 m3 m4 ht
        go_enter Try.func85, Try.ntmps85
        go_wp2_with (first | ((with_reducible refine at_op (.store 22 (.tmp 50) (.tmp 48)) rfl ?_); refine wpList_store_cell rfl 22 (.tmp 50) _ rfl ⟨b, 2, none⟩ _ (.float .f64 s.burst) rfl rfl (by kernel_rfl) rfl rfl c2 fz ?_) | ((with_reducible refine at_op (.store 22 (.tmp 54) (.tmp 52)) rfl ?_); refine wpList_store_cell rfl 22 (.tmp 54) _ rfl ⟨b, 3, none⟩ _ (.float .f64 t) rfl rfl (by kernel_rfl) rfl rfl d3 fz3 ?_))
        go_end0
        exact ⟨rfl, (K _).set3 t, grown_setCell (hg3 _) _ _⟩
      · have hd : (FloatKind.f64.format.order s.burst (sumF s t) == some .lt) = false := by rw [hlt]; simp; omega
        have em : min s.burst (sumF s t) = sumF s t := by omega
        rw [em]
        have d3 := (K (sumF s t)).cells.2.2.2
        have fz3 := frozen_of_block (K (sumF s t)) 3
        clear hlt e em m1 m2 m3 m4 ht
        go_enter Try.func85, Try.ntmps85
        go_wp2_with (first | ((with_reducible refine at_op (.store 22 (.tmp 50) (.tmp 48)) rfl ?_); refine wpList_store_cell rfl 22 (.tmp 50) _ rfl ⟨b, 2, none⟩ _ (.float .f64 (sumF s t)) rfl rfl (by kernel_rfl) rfl rfl c2 fz ?_) | ((with_reducible refine at_op (.store 22 (.tmp 54) (.tmp 52)) rfl ?_); refine wpList_store_cell rfl 22 (.tmp 54) _ rfl ⟨b, 3, none⟩ _ (.float .f64 t) rfl rfl (by kernel_rfl) rfl rfl d3 fz3 ?_))
        go_end0
        exact ⟨rfl, (K _).set3 t, grown_setCell (hg3 _) _ _⟩

/-- Level, where the time may be. -/
theorem level_any (s : St) (hs : s.Good) (b t : Nat) (ht : finiteF t = true) (w : World) (hb : BK w b 168 s) :
    Calls Try.prog 29 #[.pointer (some ⟨b, 0, none⟩), .float .f64 t] w fun e w' => e = .returned (.tuple #[.float .f64 (refillF s t).tok, .int .i64 0]) ∧ BK w' b 168 (refillF s t) ∧ w.grownBy w' (some b) := by
  go_enter Try.func29, Try.ntmps29
  go_wp2_with (go_at_call 81; refine (finite_any _ _).mono ?_; rintro e w' ⟨rfl, rfl⟩)
  refine (refill_any s hs b t ((finiteF_iff t).1 ht) w hb).mono ?_
  rintro e w1 ⟨rfl, hb1, hg⟩
  obtain ⟨c0, c1, c2, c3⟩ := hb1.cells
  go_wp2
  go_ret2
  exact ⟨rfl, hb1, hg⟩
theorem level_bad (b t : Nat) (ht : finiteF t = false) (w : World) :
    Calls Try.prog 29 #[.pointer (some ⟨b, 0, none⟩), .float .f64 t] w fun e w' => e = .returned (.tuple #[.float .f64 0, .int .i64 1]) ∧ w = w' := by
  go_enter Try.func29, Try.ntmps29
  go_wp2_with (go_at_call 81; refine (finite_any _ _).mono ?_; rintro e w' ⟨rfl, rfl⟩)
  go_ret2
  exact ⟨rfl, rfl⟩
theorem level24_any (s : St) (hs : s.Good) (b t : Nat) (wt : t < 18446744073709551616) (ht : finiteF t = true) (w : World) (hb : BK w b 170 s) :
    Calls Try.prog 30 #[.pointer (some ⟨b, 0, none⟩), .float .f64 t] w fun e w' => e = .returned (.tuple #[.float .f64 (refillF s t).tok, .int .i64 0]) ∧ BK w' b 170 (refillF s t) ∧ w.grownBy w' (some b) := by
  have ht2 : fin24 t = true := by rw [fin24_eq wt]; exact ht
  go_enter Try.func30, Try.ntmps30
  go_wp2_with (go_at_call 82; refine (finite24_any _ _).mono ?_; rintro e w' ⟨rfl, rfl⟩)
  refine (refill24_any s hs b t ((finiteF_iff t).1 ht) w hb).mono ?_
  rintro e w1 ⟨rfl, hb1, hg⟩
  obtain ⟨c0, c1, c2, c3⟩ := hb1.cells
  go_wp2
  go_ret2
  exact ⟨rfl, hb1, hg⟩
theorem level24_bad (b t : Nat) (wt : t < 18446744073709551616) (ht : finiteF t = false) (w : World) :
    Calls Try.prog 30 #[.pointer (some ⟨b, 0, none⟩), .float .f64 t] w fun e w' => e = .returned (.tuple #[.float .f64 0, .int .i64 1]) ∧ w = w' := by
  have ht2 : fin24 t = false := by rw [fin24_eq wt]; exact ht
  go_enter Try.func30, Try.ntmps30
  go_wp2_with (go_at_call 82; refine (finite24_any _ _).mono ?_; rintro e w' ⟨rfl, rfl⟩)
  go_ret2
  exact ⟨rfl, rfl⟩

/-- The bucket that is made: none, or one that is full. -/
def newSt (r u n : Nat) : St := ⟨plainF r, plainF u, plainF u, n⟩
def newE (r u n : Nat) : Int := if sizeF r && sizeF u then (if finiteF n then 0 else 1) else 240
theorem newSt_good {r u n : Nat} (wr : r < 18446744073709551616) (wu : u < 18446744073709551616) (hr : sizeF r = true) (hu : sizeF u = true) (hn : finiteF n = true) : (newSt r u n).Good :=
  ⟨(plain_size wr hr).1, (plain_size wu hu).1, (plain_size wu hu).1, (finiteF_iff n).1 hn⟩
theorem new_any (r u n : Nat) (w : World) (hr : sizeF r = true) (hu : sizeF u = true) (hn : finiteF n = true) :
    Calls Try.prog 27 #[.float .f64 r, .float .f64 u, .float .f64 n] w fun e w' => e = .returned (.tuple #[.pointer (some ⟨w.heap.size, 0, none⟩), .int .i64 0]) ∧ BK w' w.heap.size 168 (newSt r u n) ∧ Below w.heap.size w w' := by
  go_enter Try.func27, Try.ntmps27
  go_wp2_with (first | (go_at_call 80; refine (size_any _ _).mono ?_; rintro e w' ⟨rfl, rfl⟩) | (go_at_call 81; refine (finite_any _ _).mono ?_; rintro e w' ⟨rfl, rfl⟩) | (go_at_call 74; refine (plain_any _ _).mono ?_; rintro e w' ⟨rfl, rfl⟩))
  go_ret2
  exact ⟨rfl, alloc_at _ _, (Below.refl _ _).alloc (Nat.le_refl _) _⟩
theorem new_bad (r u n : Nat) (w : World) (h : (sizeF r && sizeF u && finiteF n) = false) :
    Calls Try.prog 27 #[.float .f64 r, .float .f64 u, .float .f64 n] w fun e w' => e = .returned (.tuple #[.pointer none, .int .i64 (newE r u n)]) ∧ w = w' := by
  unfold newE
  cases hr : sizeF r <;> cases hu : sizeF u <;> cases hn : finiteF n <;> simp [hr, hu, hn] at h ⊢
  all_goals
    go_enter Try.func27, Try.ntmps27
    go_wp2_with (first | (go_at_call 80; refine (size_any _ _).mono ?_; rintro e w' ⟨rfl, rfl⟩) | (go_at_call 81; refine (finite_any _ _).mono ?_; rintro e w' ⟨rfl, rfl⟩) | (go_at_call 74; refine (plain_any _ _).mono ?_; rintro e w' ⟨rfl, rfl⟩))
    go_ret2
    exact ⟨rfl, rfl⟩
theorem new24_any (r u n : Nat) (w : World) (wr : r < 18446744073709551616) (wu : u < 18446744073709551616) (wn : n < 18446744073709551616) (hr : sizeF r = true) (hu : sizeF u = true) (hn : finiteF n = true) :
    Calls Try.prog 28 #[.float .f64 r, .float .f64 u, .float .f64 n] w fun e w' => e = .returned (.tuple #[.pointer (some ⟨w.heap.size, 0, none⟩), .int .i64 0]) ∧ BK w' w.heap.size 170 (newSt r u n) ∧ Below w.heap.size w w' := by
  have f1 : fin24 r = true := (fin24_iff wr).2 ((sizeF_iff r).1 hr).1
  have f2 : fin24 u = true := (fin24_iff wu).2 ((sizeF_iff u).1 hu).1
  have f3 : fin24 n = true := by rw [fin24_eq wn]; exact hn
  have g1 := size24_eq wr
  have g2 := size24_eq wu
  rw [f1, hr] at g1
  rw [f2, hu] at g2
  have g3 : (FloatKind.f64.format.order r 0 == some .lt) = false := by simpa [lt0] using g1
  have g4 : (FloatKind.f64.format.order u 0 == some .lt) = false := by simpa [lt0] using g2
  clear g1 g2
  go_enter Try.func28, Try.ntmps28
  go_wp2_with (first | (go_at_call 82; refine (finite24_any _ _).mono ?_; rintro e w' ⟨rfl, rfl⟩) | (go_at_call 83; refine (plain24_any _ _).mono ?_; rintro e w' ⟨rfl, rfl⟩))
  go_ret2
  exact ⟨rfl, alloc_at _ _, (Below.refl _ _).alloc (Nat.le_refl _) _⟩
theorem new24_bad (r u n : Nat) (w : World) (wr : r < 18446744073709551616) (wu : u < 18446744073709551616) (wn : n < 18446744073709551616) (h : (sizeF r && sizeF u && finiteF n) = false) :
    Calls Try.prog 28 #[.float .f64 r, .float .f64 u, .float .f64 n] w fun e w' => e = .returned (.tuple #[.pointer none, .int .i64 (newE r u n)]) ∧ w = w' := by
  have g1 := size24_eq wr
  have g2 := size24_eq wu
  have g3 := fin24_eq wn
  unfold lt0 at g1 g2
  unfold newE
  cases hr : sizeF r <;> cases hu : sizeF u <;> cases hn : finiteF n <;> simp [hr, hu, hn] at h ⊢
  all_goals
    rw [hr] at g1
    rw [hu] at g2
    rw [hn] at g3
    cases a1 : fin24 r <;> cases a2 : (FloatKind.f64.format.order r 0 == some .lt) <;> cases a3 : fin24 u <;> cases a4 : (FloatKind.f64.format.order u 0 == some .lt) <;> simp [a1, a2, a3, a4] at g1 g2
  all_goals
    clear g1 g2
    go_enter Try.func28, Try.ntmps28
    go_wp2_with (first | (go_at_call 82; refine (finite24_any _ _).mono ?_; rintro e w' ⟨rfl, rfl⟩) | (go_at_call 83; refine (plain24_any _ _).mono ?_; rintro e w' ⟨rfl, rfl⟩))
    go_ret2
    exact ⟨rfl, rfl⟩
end Go.Proofs.Ytmdfkljmgijdlaa
