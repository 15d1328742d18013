/- The walks of Take. -/
import Derived.Test.YtmdfkljmgijdlaaIc
import Derived.OwnWalk
namespace Go.Proofs.Ytmdfkljmgijdlaa
open Go.RowKit
set_option linter.unusedVariables false

theorem inf_any (w : World) : Calls Try.prog 88 #[.int .i64 1] w fun e w' => e = .returned (.float .f64 Fl.infR) ∧ w = w' := by
  have h2 := frombits_run
  go_enter Try.func88, Try.ntmps88
  go_wp2
  go_ret
  exact ⟨rfl, rfl⟩

theorem take_bad (b n t : Nat) (h : (sizeF n && finiteF t) = false) (w : World) :
    Calls Try.prog 32 #[.pointer (some ⟨b, 0, none⟩), .float .f64 n, .float .f64 t] w fun e w' => e = .returned (.tuple #[.float .f64 0, .bool false, .int .i64 1]) ∧ w = w' := by
  cases hr : sizeF n <;> cases hn : finiteF t <;> simp [hr, hn] at h
  all_goals
    go_enter Try.func32, Try.ntmps32
    go_wp2_with (first | (go_at_call 80; refine (size_any _ _).mono ?_; rintro e w' ⟨rfl, rfl⟩) | (go_at_call 81; refine (finite_any _ _).mono ?_; rintro e w' ⟨rfl, rfl⟩))
    go_ret3
    exact ⟨rfl, rfl⟩
theorem take24_bad (b n t : Nat) (wn : n < 18446744073709551616) (wt : t < 18446744073709551616) (h : (sizeF n && finiteF t) = false) (w : World) :
    Calls Try.prog 33 #[.pointer (some ⟨b, 0, none⟩), .float .f64 n, .float .f64 t] w fun e w' => e = .returned (.tuple #[.float .f64 0, .bool false, .int .i64 1]) ∧ w = w' := by
  have g1 := size24_eq wn
  have g3 := fin24_eq wt
  unfold lt0 at g1
  cases hr : sizeF n <;> cases hn : finiteF t <;> simp [hr, hn] at h
  all_goals
    rw [hr] at g1
    rw [hn] at g3
    cases a1 : fin24 n <;> cases a2 : (FloatKind.f64.format.order n 0 == some .lt) <;> simp [a1, a2] at g1
  all_goals
    clear g1
    go_enter Try.func33, Try.ntmps33
    go_wp2_with (first | (go_at_call 82; refine (finite24_any _ _).mono ?_; rintro e w' ⟨rfl, rfl⟩))
    go_ret3
    exact ⟨rfl, rfl⟩

theorem same_state {P : Prop} (h : P) : P := h

set_option maxRecDepth 100000 in
theorem take_any (s : St) (hs : s.Good) (b n t : Nat) (wn : n < 18446744073709551616) (hn : sizeF n = true) (ht : finiteF t = true) (w : World) (hb : BK w b 168 s) :
    Calls Try.prog 32 #[.pointer (some ⟨b, 0, none⟩), .float .f64 n, .float .f64 t] w fun e w' =>
      e = .returned (.tuple #[.float .f64 (takeF s n t).1, .bool (takeF s n t).2.1, .int .i64 0]) ∧ BK w' b 168 (takeF s n t).2.2 ∧ w.grownBy w' (some b) := by
  have hF := (finiteF_iff t).1 ht
  have g := refill_good hs hF
  have hrf := refill_any s hs b t hF w hb
  unfold takeF
  generalize refillF s t = r at *
  obtain ⟨p1, p2, p3⟩ := plain_size wn hn
  have hnn := Fl.fin_nn p3
  obtain ⟨q1, q2, q3⟩ := Fl.fin_lt g.tok
  have hleq := Fl.leq_key hnn q3
  rw [p2, q2] at hleq
  clear hs hb
  by_cases hle : plainF n ≤ r.tok
  · have hg : (FloatKind.f64.format.order n r.tok == some .lt || FloatKind.f64.format.order n r.tok == some .eq) = true := by rw [hleq]; simp; exact hle
    obtain ⟨m1, m2, m3⟩ := Fl.fsub_pos g.tok hle
    have hm1 := fun w => run_sub (t := 22) m1 w
    have e : takeR r n = (Fl.fsub r.tok (plainF n), true, { r with tok := Fl.fsub r.tok (plainF n) }) := by unfold takeR; rw [if_pos hle]
    rw [e]
    clear e hleq m1 m2 m3 p1 p2 p3 q1 q2 q3 hnn hle
    go_enter Try.func32, Try.ntmps32
    go_wp2_with (first | (go_at_call 80; refine (size_any _ _).mono ?_; rintro e w' ⟨rfl, rfl⟩) | (go_at_call 81; refine (finite_any _ _).mono ?_; rintro e w' ⟨rfl, rfl⟩))
    refine hrf.mono ?_
    rintro e w2 ⟨rfl, hb2, hg2⟩
    obtain ⟨c0, c1, c2, c3⟩ := hb2.cells
    go_wp2
    go_still_tail 9, (by kernel_rfl)
    still_call ((plain_any _ _).mono (by rintro e w' ⟨rfl, rfl⟩; exact ⟨rfl, rfl⟩))
    repeat still_step
    refine wpStill_nil ?_
    change wpList _ _ _ _ _ w2.drew
    have fz := frozen_of_block hb2 2
    refine wpList_store_cell rfl 22 _ _ rfl ⟨b, 2, none⟩ _ (.float .f64 (Fl.fsub r.tok (plainF n))) rfl rfl (by kernel_rfl) rfl rfl c2 fz ?_
    have hb3 : BK (w2.drew.setCell ⟨b, 2, none⟩ (.float .f64 (Fl.fsub r.tok (plainF n)))) b 168 { r with tok := Fl.fsub r.tok (plainF n) } := BK.set2 (w := w2.drew) hb2 _
    have hg3 := grown_setCell (grown_drew hg2) 2 (.float .f64 (Fl.fsub r.tok (plainF n)))
    generalize w2.drew.setCell ⟨b, 2, none⟩ (.float .f64 (Fl.fsub r.tok (plainF n))) = w3 at *
    have d2 := hb3.cells.2.2.1
    go_wp2
    go_ret3
    exact ⟨rfl, hb3, hg3⟩
  · have hg : (FloatKind.f64.format.order n r.tok == some .lt || FloatKind.f64.format.order n r.tok == some .eq) = false := by rw [hleq]; simp; omega
    have ek : Fl.key 0 = 0 := by decide
    have h1 := Fl.eq_key (Fl.fin_lt g.rate).2.2 (show ¬ Fl.NaN 0 by decide)
    have h2 := Fl.gt_key hnn (Fl.fin_lt g.burst).2.2
    rw [(Fl.fin_lt g.rate).2.1, ek] at h1
    rw [(Fl.fin_lt g.burst).2.1, p2] at h2
    by_cases h0 : r.rate = 0
    · have e : takeR r n = (Fl.infR, false, r) := by unfold takeR; rw [if_neg hle, if_pos (.inl h0)]
      have t1 : (FloatKind.f64.format.order r.rate 0 == some .eq) = true := by rw [h1]; simp [h0]
      rw [e]
      clear e hleq p1 p2 p3 q1 q2 q3 hnn hle h1 h2 h0
      go_enter Try.func32, Try.ntmps32
      go_wp2_with (first | (go_at_call 80; refine (size_any _ _).mono ?_; rintro e w' ⟨rfl, rfl⟩) | (go_at_call 81; refine (finite_any _ _).mono ?_; rintro e w' ⟨rfl, rfl⟩))
      refine hrf.mono ?_
      rintro e w2 ⟨rfl, hb2, hg2⟩
      obtain ⟨c0, c1, c2, c3⟩ := hb2.cells
      go_wp2_with (go_at_call 88; refine (inf_any _).mono ?_; rintro e w' ⟨rfl, rfl⟩)
      go_ret3
      exact ⟨rfl, hb2, hg2⟩
    · have t1 : (FloatKind.f64.format.order r.rate 0 == some .eq) = false := by rw [h1]; simp; omega
      by_cases h3 : r.burst < plainF n
      · have e : takeR r n = (Fl.infR, false, r) := by unfold takeR; rw [if_neg hle, if_pos (.inr h3)]
        have t2 : (FloatKind.f64.format.order n r.burst == some .gt) = true := by rw [h2]; simp; exact h3
        rw [e]
        clear e hleq p1 p2 p3 q1 q2 q3 hnn hle h1 h2 h0 h3
        go_enter Try.func32, Try.ntmps32
        go_wp2_with (first | (go_at_call 80; refine (size_any _ _).mono ?_; rintro e w' ⟨rfl, rfl⟩) | (go_at_call 81; refine (finite_any _ _).mono ?_; rintro e w' ⟨rfl, rfl⟩))
        refine hrf.mono ?_
        rintro e w2 ⟨rfl, hb2, hg2⟩
        obtain ⟨c0, c1, c2, c3⟩ := hb2.cells
        go_wp2_with (go_at_call 88; refine (inf_any _).mono ?_; rintro e w' ⟨rfl, rfl⟩)
        go_ret3
        exact ⟨rfl, hb2, hg2⟩
      · have e : takeR r n = (Fl.fdiv (Fl.fsub n r.tok) r.rate, false, r) := by unfold takeR; rw [if_neg hle, if_neg (by omega)]
        have t2 : (FloatKind.f64.format.order n r.burst == some .gt) = false := by rw [h2]; simp; omega
        have es : plainF n = n := plain_self (by omega)
        have m := Fl.fsub_pos (x := n) (y := r.tok) (by rw [← es]; exact p1) (by omega)
        have md := Fl.fdiv_up (x := Fl.fsub n r.tok) (y := r.rate) (by omega) g.rate h0
        have hm1 := fun w => run_sub (t := 22) m.1 w
        have hm2 := fun w => run_quo (t := 22) md.1 w
        rw [e]
        clear e hleq p1 p2 p3 q1 q2 q3 hnn hle h1 h2 h0 h3 m md es
        go_enter Try.func32, Try.ntmps32
        go_wp2_with (first | (go_at_call 80; refine (size_any _ _).mono ?_; rintro e w' ⟨rfl, rfl⟩) | (go_at_call 81; refine (finite_any _ _).mono ?_; rintro e w' ⟨rfl, rfl⟩))
        refine hrf.mono ?_
        rintro e w2 ⟨rfl, hb2, hg2⟩
        obtain ⟨c0, c1, c2, c3⟩ := hb2.cells
        go_wp2
        go_quiet (fail)
        go_wp2
        go_ret3
        exact ⟨rfl, hb2, grown_drewN hg2 _⟩
end Go.Proofs.Ytmdfkljmgijdlaa
