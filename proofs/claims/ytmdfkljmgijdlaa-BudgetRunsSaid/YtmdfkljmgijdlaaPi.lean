/- Merge in one; Now; Lasts; May; the second example awake. -/
import Derived.Test.YtmdfkljmgijdlaaPh
namespace Go.Proofs.Ytmdfkljmgijdlaa
open Go.RowKit
set_option linter.unusedVariables false

theorem BG.fr {w w' : World} {b g t s b' g' : Nat} {now : Int} {m : Bool} {fg fb : Int → Int} (h : BG w b g t s now m fg fb) (k : Fr b' g' w w') (h1 : b ≠ b') (h2 : b ≠ g') (h3 : g ≠ b') (h4 : g ≠ g') : BG w' b g t s now m fg fb := by
  obtain ⟨rg, rb, h, hi⟩ := h
  exact ⟨rg, rb, h.other k h1 h2 h3 h4, hi⟩
theorem BG.own {w w' : World} {b g t s : Nat} {now : Int} {m : Bool} {fg fb : Int → Int} (h : BG w b g t s now m fg fb) (k : Below w.heap.size w w') : BG w' b g t s now m fg fb := by
  obtain ⟨rg, rb, h, hi⟩ := h
  exact ⟨rg, rb, h.own k, hi⟩
theorem BG.drewN {w : World} {b g t s : Nat} {now : Int} {m : Bool} {fg fb : Int → Int} (h : BG w b g t s now m fg fb) (n : Nat) : BG (w.drewN n) b g t s now m fg fb := by
  obtain ⟨rg, rb, h, hi⟩ := h
  exact ⟨rg, rb, h.drewN n, hi⟩
theorem BG.lt {w : World} {b g t s : Nat} {now : Int} {m : Bool} {fg fb : Int → Int} (h : BG w b g t s now m fg fb) : b < w.heap.size ∧ g < w.heap.size ∧ b ≠ g := by
  obtain ⟨rg, rb, h, hi⟩ := h
  exact ⟨h.lt.1, h.lt.2, h.ne⟩
theorem BG.slots {w : World} {b g t s : Nat} {now : Int} {m : Bool} {fg fb : Int → Int} (h : BG w b g t s now m fg fb) : 1 ≤ s ∧ s ≤ 1024 := by
  obtain ⟨rg, rb, h, hi⟩ := h
  exact ⟨h.s1, h.s2⟩
theorem BG.range {w : World} {b g t s : Nat} {now : Int} {m : Bool} {fg fb : Int → Int} (h : BG w b g t s now m fg fb) : 0 ≤ now ∧ now ≤ 4611686018427387904 := by
  obtain ⟨rg, rb, h, hi⟩ := h
  exact hi.range
theorem BG.out {w : World} {b g t s : Nat} {now : Int} {m : Bool} {fg fb : Int → Int} (h : BG w b g t s now m fg fb) : (∀ u, u < 0 ∨ now < u → fg u = 0 ∧ fb u = 0) ∧ (m = false → now = 0 ∧ ∀ u, fg u = 0 ∧ fb u = 0) := by
  obtain ⟨rg, rb, h, hi⟩ := h
  exact ⟨hi.out, fun e => ⟨(hi.none e).1, (hi.none e).2.2⟩⟩
/-- What a ring does not tell is free. -/
theorem BG.congr {w : World} {b g t s : Nat} {now : Int} {fg fb fg' fb' : Int → Int} (h : BG w b g t s now true fg fb)
    (h1 : ∀ t, t < 0 ∨ now < t → fg' t = 0 ∧ fb' t = 0) (h2 : ∀ t, now - s < t → t ≤ now → 0 ≤ t → wrap64 (fg' t) = wrap64 (fg t) ∧ wrap64 (fb' t) = wrap64 (fb t)) : BG w b g t s now true fg' fb' := by
  obtain ⟨rg, rb, h, hi⟩ := h
  exact ⟨rg, rb, h, hi.congr2 h1 h2⟩

theorem merge_any {w : World} {b g t s o go : Nat} {now no : Int} {m m' : Bool} {fg fb hg hb : Int → Int} (h : BG w b g t s now m fg fb) (h' : BG w o go t s no m' hg hb) :
    Calls Try.prog 36 #[.pointer (some ⟨b, 0, none⟩), .pointer (some ⟨o, 0, none⟩)] w fun e w' => e = .returned (.int .i64 0) ∧ BG w' b g t s (max now no) (m || m') (sumF2 fg hg) (sumF2 fb hb) ∧ Fr b g w w' := by
  cases m'
  · refine (merge_none h h').mono ?_
    rintro e w' ⟨rfl, hb⟩
    have e1 := (h'.out.2 rfl)
    have hr := h.range
    rw [e1.1, Bool.or_false]
    have e2 : max now 0 = now := by omega
    have e3 : sumF2 fg hg = fg := by funext u; unfold sumF2; rw [(e1.2 u).1]; omega
    have e4 : sumF2 fb ‹_› = fb := by funext u; unfold sumF2; rw [(e1.2 u).2]; omega
    rw [e2, e3, e4]
    exact ⟨rfl, h.own hb, Fr.ofBelow hb⟩
  · refine (merge_some h h').mono ?_
    rintro e w' ⟨rfl, hb, hf⟩
    rw [Bool.or_true]
    exact ⟨rfl, hb, hf⟩

theorem now_any {w : World} {b g t s : Nat} {now : Int} {m : Bool} {fg fb : Int → Int} (h : BG w b g t s now m fg fb) :
    Calls Try.prog 26 #[.pointer (some ⟨b, 0, none⟩)] w fun e w' => e = .returned (.tuple #[.int .i64 now, .bool m]) ∧ ∃ n, w' = w.drewN n := by
  obtain ⟨rg, rb, h, hi⟩ := h
  obtain ⟨c0, c1, c2, c3⟩ := h.cells
  clear h hi
  go_enter Try.func26, Try.ntmps26
  go_wp2
  go_quiet (fail)
  go_wp2
  go_ret2
  exact ⟨rfl, nq, rfl⟩

theorem may_any (x y z : Int) (w : World) : Calls Try.prog 35 #[.agg #[.int .i64 x, .int .i64 y, .int .i64 z]] w fun e w' => e = .returned (.bool (decide (mayB x y z))) ∧ Below w.heap.size w w' := by
  have hb : Below w.heap.size w (w.alloc (.cells #[.int .i64 x, .int .i64 y, .int .i64 z] 75)) := (Below.refl _ _).alloc (Nat.le_refl _) _
  have hb := Lib.hid hb
  by_cases h1 : ¬ (0 ≤ x)
  · have hn := Lib.hid (show ¬ mayB x y z by unfold mayB; omega)
    go_enter Try.func35, Try.ntmps35
    go_wp2
    go_ret
    exact ⟨by rw [decide_eq_false hn.out]; rfl, hb.out⟩
  by_cases h2 : ¬ (x ≤ 4611686018427387904)
  · have hn := Lib.hid (show ¬ mayB x y z by unfold mayB; omega)
    go_enter Try.func35, Try.ntmps35
    go_wp2
    go_ret
    exact ⟨by rw [decide_eq_false hn.out]; rfl, hb.out⟩
  by_cases h3 : ¬ (0 ≤ y)
  · have hn := Lib.hid (show ¬ mayB x y z by unfold mayB; omega)
    go_enter Try.func35, Try.ntmps35
    go_wp2
    go_ret
    exact ⟨by rw [decide_eq_false hn.out]; rfl, hb.out⟩
  by_cases h4 : ¬ (y ≤ 2147483647)
  · have hn := Lib.hid (show ¬ mayB x y z by unfold mayB; omega)
    go_enter Try.func35, Try.ntmps35
    go_wp2
    go_ret
    exact ⟨by rw [decide_eq_false hn.out]; rfl, hb.out⟩
  by_cases h5 : ¬ (0 ≤ z)
  · have hn := Lib.hid (show ¬ mayB x y z by unfold mayB; omega)
    go_enter Try.func35, Try.ntmps35
    go_wp2
    go_ret
    exact ⟨by rw [decide_eq_false hn.out]; rfl, hb.out⟩
  by_cases h6 : ¬ (z ≤ 2147483647)
  · have hn := Lib.hid (show ¬ mayB x y z by unfold mayB; omega)
    go_enter Try.func35, Try.ntmps35
    go_wp2
    go_ret
    exact ⟨by rw [decide_eq_false hn.out]; rfl, hb.out⟩
  have hn := Lib.hid (show mayB x y z by unfold mayB; omega)
  go_enter Try.func35, Try.ntmps35
  go_wp2
  go_ret
  exact ⟨by rw [decide_eq_true hn.out]; rfl, hb.out⟩

theorem inf_any (w : World) : Calls Try.prog 88 #[.int .i64 1] w fun e w' => e = .returned (.float .f64 9218868437227405312) ∧ w = w' := by
  have h2 := frombits_run
  go_enter Try.func88, Try.ntmps88
  go_wp2
  go_ret
  exact ⟨rfl, rfl⟩

/-- For how many slots it lasts, of what is left and the burn. -/
def lastsC (s : Nat) (x y : Nat) : Nat :=
  if FloatKind.f64.format.order x x != some .eq || FloatKind.f64.format.order y y != some .eq then nan0
  else if FloatKind.f64.format.order x 0 == some .lt || FloatKind.f64.format.order x 0 == some .eq then 0
  else if FloatKind.f64.format.order y 0 == some .eq then 9218868437227405312
  else divC (mulC x (floatOfInt .f64 s)) y
theorem order_nan_self {x : Nat} (h : Fl.NaN x) : (FloatKind.f64.format.order x x != some .eq) = true := by
  rw [show FloatKind.f64.format.order x x = none from Fl.order_nan_left h]; rfl
theorem lastsC_sm {s x y x' y' : Nat} (hx : SM x x') (hy : SM y y') : SM (lastsC s x y) (lastsC s x' y') := by
  rcases hx with rfl | ⟨a, b⟩
  · rcases hy with rfl | ⟨a, b⟩
    · exact SM.refl _
    · unfold lastsC
      rw [order_nan_self a, order_nan_self b, Bool.or_true]
      exact SM.refl _
  · unfold lastsC
    rw [order_nan_self a, order_nan_self b, Bool.true_or, Bool.true_or]
    exact SM.refl _

set_option maxRecDepth 100000 in
theorem lasts_any {w : World} {b g t s : Nat} {now : Int} {m : Bool} {fg fb : Int → Int} (h : BG w b g t s now m fg fb) (n : Nat) (hn : 1 ≤ n) (hn2 : n ≤ s) :
    Calls Try.prog 50 #[.pointer (some ⟨b, 0, none⟩), .int .i64 n] w (FlP (lastsC s (leftC t (sumW fg now s) (sumW fb now s)) (burnC t (sumW fg now n) (sumW fb now n))) w) := by
  have hq := fun t x y w => run_quoW t x y w
  have hm := fun t x y w => run_mulW t x y w
  have K1 := Lib.hid (burn_any h n hn hn2)
  have H := Lib.hid h
  go_enter Try.func50, Try.ntmps50
  go_wp2_with fail
  refine K1.out.mono ?_
  rintro e w1 ⟨y, hy, rfl, h1⟩
  have hb1 := H.out.own h1
  have K2 := Lib.hid (left_any hb1)
  have HY := Lib.hid hy
  clear K1 hy
  go_wp2_with fail
  refine K2.out.mono ?_
  rintro e w2 ⟨x, hx, rfl, h2⟩
  obtain ⟨rg, rb, hb2, _⟩ := hb1.own h2
  have h3 : Below w.heap.size w w2 := h1.trans (h2.mono h1.size)
  have HX := Lib.hid hx
  have c1 := hb2.cells.2.1
  clear K2 hx H h1 h2 hb1 hb2 h
  have key : ∀ (v : Nat) (w3 : World), v = lastsC s x y → Below w.heap.size w w3 → FlP (lastsC s (leftC t (sumW fg now s) (sumW fb now s)) (burnC t (sumW fg now n) (sumW fb now n))) w (.returned (.tuple #[.float .f64 v, .int .i64 0])) w3 := by
    intro v w3 hv hb
    exact ⟨v, by rw [hv]; exact lastsC_sm HX.out HY.out, rfl, hb⟩
  have KEY := Lib.hid key
  clear key
  cases e1 : (FloatKind.f64.format.order x x != some .eq)
  · cases e2 : (FloatKind.f64.format.order y y != some .eq)
    · cases e3 : (FloatKind.f64.format.order x 0 == some .lt || FloatKind.f64.format.order x 0 == some .eq)
      · cases e4 : (FloatKind.f64.format.order y 0 == some .eq)
        · have E := Lib.hid (And.intro e1 (And.intro e2 (And.intro e3 e4)))
          go_wp2
          go_ret2
          refine Exists.intro _ ⟨?_, rfl, below_opN (below_opN h3 _) _⟩
          have q : SM (opV (Ieee.double.div (opV (Ieee.double.mul x (floatOfInt .f64 s)) x (floatOfInt .f64 s) w2) y) (opV (Ieee.double.mul x (floatOfInt .f64 s)) x (floatOfInt .f64 s) w2) y (opN (Ieee.double.mul x (floatOfInt .f64 s)) w2)) (lastsC s x y) := by
            obtain ⟨e1, e2, e3, e4⟩ := E.out
            unfold lastsC
            rw [e1, e2, e3, e4]
            exact sm_div (sm_mul (SM.refl _) (SM.refl _) _) (SM.refl _) _
          exact q.trans (lastsC_sm HX.out HY.out)
        · have E := Lib.hid (And.intro e1 (And.intro e2 (And.intro e3 e4)))
          go_wp2_with fail
          refine (inf_any _).mono ?_
          rintro e w3 ⟨rfl, rfl⟩
          go_wp2
          go_ret2
          refine KEY.out _ _ ?_ h3
          obtain ⟨e1, e2, e3, e4⟩ := E.out
          unfold lastsC
          rw [e1, e2, e3, e4]; rfl
      · have E := Lib.hid (And.intro e1 (And.intro e2 e3))
        go_wp2
        go_ret2
        refine KEY.out _ _ ?_ h3
        obtain ⟨e1, e2, e3⟩ := E.out
        unfold lastsC
        rw [e1, e2, e3]; rfl
    · have E := Lib.hid (And.intro e1 e2)
      go_wp2_with fail
      refine (nan_any _).mono ?_
      rintro e w3 ⟨rfl, rfl⟩
      go_wp2
      go_ret2
      refine KEY.out _ _ ?_ h3
      obtain ⟨e1, e2⟩ := E.out
      unfold lastsC
      rw [e1, e2]; rfl
  · have E := Lib.hid e1
    go_wp2_with fail
    refine (nan_any _).mono ?_
    rintro e w3 ⟨rfl, rfl⟩
    go_wp2
    go_ret2
    refine KEY.out _ _ ?_ h3
    unfold lastsC
    rw [E.out]; rfl
end Go.Proofs.Ytmdfkljmgijdlaa
