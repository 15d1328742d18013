/- A budget's floats over counts that are natural numbers: the tests of BudgetShares. -/
import Derived.Test.YtmdfkljmgijdlaaRa
import Derived.Test.YtmdfkljmgijdlaaPf
namespace Go.Proofs.Ytmdfkljmgijdlaa
open Go.RowKit Ieee
set_option linter.unusedVariables false

theorem target_facts {t : Nat} (ht : t < 18446744073709551616) (h0 : (FloatKind.f64.format.order t 0 == some .gt) = true) (h1 : (FloatKind.f64.format.order t 4607182418800017408 == some .lt) = true) : 0 < t ∧ t < Fl.one := by
  have hnn : ¬ Fl.NaN t := fun g => by rw [fmt_eq, Fl.order_nan_left g] at h0; cases h0
  rw [Fl.gt_key hnn (show ¬ Fl.NaN 0 by decide), show Fl.key 0 = 0 by decide] at h0
  rw [Fl.lt_key hnn (show ¬ Fl.NaN 4607182418800017408 by decide), show Fl.key 4607182418800017408 = 4607182418800017408 by decide] at h1
  have h0 := of_decide_eq_true h0
  have h1 := of_decide_eq_true h1
  unfold Fl.key at h0 h1
  cases hn : Fl.neg t
  · rw [hn] at h0 h1
    have e : Fl.rg t = t := by
      unfold Fl.neg at hn
      unfold Fl.rg
      simp at hn
      omega
    simp [e] at h0 h1
    exact ⟨by omega, by unfold Fl.one; omega⟩
  · rw [hn] at h0
    simp at h0
    omega

/-- The rest: 1 less the target. -/
theorem rest_facts {t : Nat} (h0 : 0 < t) (h1 : t < Fl.one) : subC 4607182418800017408 t = Fl.fsub Fl.one t ∧ 0 < Fl.fsub Fl.one t ∧ Fl.fsub Fl.one t ≤ Fl.one := by
  obtain ⟨e1, e2, e3⟩ := Fl.fsub_one (Nat.le_of_lt h1)
  refine ⟨?_, Fl.fsub_one_pos h1, e2⟩
  unfold subC
  rw [show (4607182418800017408 : Nat) = Fl.one from rfl, e1]; rfl

theorem wrap_nat {g b : Nat} (h : g + b ≤ 1000000000) : wrap64 ((g : Int) + (b : Int)) = ((g + b : Nat) : Int) := by
  rw [IntWalk.wrap64_in _ (by omega)]; omega

theorem rateC_nat {g b : Nat} (h : g + b ≤ 1000000000) : (g + b = 0 → rateC g b = nan0) ∧ (0 < g + b → rateC g b = Fl.fdiv (I b) (I (g + b)) ∧ rateC g b ≤ Fl.one) := by
  constructor
  · intro h0
    unfold rateC
    rw [wrap_nat h, if_pos (by omega)]
  · intro h0
    obtain ⟨h1, h2, h3⟩ := Fl.rate_up (b := b) (n := g + b) (by omega) h0 (by omega)
    have e : rateC g b = Fl.fdiv (I b) (I (g + b)) := by
      unfold rateC
      rw [wrap_nat h, if_neg (by omega)]
      unfold divC
      rw [show floatOfInt .f64 (b : Int) = I b from rfl, show floatOfInt .f64 ((g + b : Nat) : Int) = I (g + b) from rfl, h1]; rfl
    exact ⟨e, by rw [e]; exact h2⟩

theorem burnC_nat {t g b : Nat} (h : g + b ≤ 1000000000) (t0 : 0 < t) (t1 : t < Fl.one) : (g + b = 0 → Fl.NaN (burnC t g b)) ∧ (0 < g + b → burnC t g b = Fl.fdiv (Fl.fdiv (I b) (I (g + b))) (Fl.fsub Fl.one t) ∧ burnC t g b ≤ Fl.infR) := by
  obtain ⟨r1, r2, r3⟩ := rest_facts t0 t1
  constructor
  · intro h0
    unfold burnC
    rw [(rateC_nat h).1 h0]
    unfold divC
    rw [Fl.div_nan (Or.inl nan0_nan)]
    exact nan0_nan
  · intro h0
    obtain ⟨e1, e2⟩ := (rateC_nat h).2 h0
    rw [e1] at e2
    obtain ⟨b1, b2, b3⟩ := Fl.burn_up e2 r3 r2
    have e : burnC t g b = Fl.fdiv (Fl.fdiv (I b) (I (g + b))) (Fl.fsub Fl.one t) := by
      unfold burnC
      rw [e1, r1]
      unfold divC
      rw [b1]; rfl
    exact ⟨e, by rw [e]; exact b2⟩

theorem burnC_mono {t g b m : Nat} (h : g + b + m ≤ 1000000000) (t0 : 0 < t) (t1 : t < Fl.one) (h0 : 0 < g + b) : burnC t g b ≤ burnC t g ((b + m : Nat) : Int) ∧ burnC t g ((b + m : Nat) : Int) ≤ Fl.infR := by
  obtain ⟨r1, r2, r3⟩ := rest_facts t0 t1
  obtain ⟨e1, e2⟩ := (burnC_nat (by omega) t0 t1).2 h0
  obtain ⟨k1, k2⟩ := (burnC_nat (t := t) (g := g) (b := b + m) (by omega) t0 t1).2 (by omega)
  refine ⟨?_, k2⟩
  rw [e1, k1]
  have hy := (rateC_nat (g := g) (b := b + m) (by omega)).2 (by omega)
  rw [hy.1] at hy
  have hm := Fl.rate_mono (b := b) (n := g + b) (m := m) (by omega) h0 (by omega)
  rw [show g + b + m = g + (b + m) by omega] at hm
  exact Fl.burn_mono hm hy.2 r3 r2

theorem nn_up {x : Nat} (h : x ≤ Fl.infR) : ¬ Fl.NaN x ∧ Fl.key x = x := ⟨Fl.nn_pos h, Fl.key_pos h⟩
theorem ne_self {x : Nat} (h : ¬ Fl.NaN x) : (FloatKind.f64.format.order x x != some .eq) = false := by
  rw [bne, Fl.eq_key h h]; simp
theorem eq_self {x : Nat} (h : ¬ Fl.NaN x) : (FloatKind.f64.format.order x x == some .eq) = true := by
  rw [Fl.eq_key h h]; simp
theorem eq_self_nan {x : Nat} (h : Fl.NaN x) : (FloatKind.f64.format.order x x == some .eq) = false := by
  rw [show FloatKind.f64.format.order x x = none from Fl.order_nan_left h]; rfl
theorem ne_self_nan {x : Nat} (h : Fl.NaN x) : (FloatKind.f64.format.order x x != some .eq) = true := by
  rw [show FloatKind.f64.format.order x x = none from Fl.order_nan_left h]; rfl
theorem geq_zero {x : Nat} (h : x ≤ Fl.infR) : (FloatKind.f64.format.order x 0 == some .gt || FloatKind.f64.format.order x 0 == some .eq) = true := by
  obtain ⟨h1, h2⟩ := nn_up h
  rw [Fl.geq_key h1 (show ¬ Fl.NaN 0 by decide), h2, show Fl.key 0 = 0 by decide]; simp

theorem rate_test {z g b : Nat} (h : g + b ≤ 1000000000) (hz : SM z (rateC g b)) :
    (FloatKind.f64.format.order z z != some .eq) = true ∨ ((FloatKind.f64.format.order z z != some .eq) = false ∧ (FloatKind.f64.format.order z 0 == some .gt || FloatKind.f64.format.order z 0 == some .eq) = true ∧
      (FloatKind.f64.format.order z 4607182418800017408 == some .lt || FloatKind.f64.format.order z 4607182418800017408 == some .eq) = true) := by
  by_cases h0 : g + b = 0
  · left
    rw [(rateC_nat h).1 h0] at hz
    exact ne_self_nan (hz.nan.2 nan0_nan)
  · right
    obtain ⟨_, e2⟩ := (rateC_nat h).2 (by omega)
    have hi : rateC g b ≤ Fl.infR := Nat.le_trans e2 (Nat.le_of_lt Fl.one_lt)
    have e := hz.eq (nn_up hi).1
    subst e
    obtain ⟨n1, n2⟩ := nn_up hi
    refine ⟨ne_self n1, geq_zero hi, ?_⟩
    rw [Fl.leq_key n1 (show ¬ Fl.NaN 4607182418800017408 by decide), n2, show Fl.key 4607182418800017408 = 4607182418800017408 by decide]
    have : Fl.one = 4607182418800017408 := rfl
    simp; omega
theorem burn_test {t z g b : Nat} (h : g + b ≤ 1000000000) (t0 : 0 < t) (t1 : t < Fl.one) (hz : SM z (burnC t g b)) :
    (FloatKind.f64.format.order z z != some .eq) = true ∨ ((FloatKind.f64.format.order z z != some .eq) = false ∧ (FloatKind.f64.format.order z 0 == some .gt || FloatKind.f64.format.order z 0 == some .eq) = true) := by
  by_cases h0 : g + b = 0
  · left
    exact ne_self_nan (hz.nan.2 ((burnC_nat h t0 t1).1 h0))
  · right
    obtain ⟨_, e2⟩ := (burnC_nat h t0 t1).2 (by omega)
    have e := hz.eq (nn_up e2).1
    subst e
    exact ⟨ne_self (nn_up e2).1, geq_zero e2⟩
theorem left_test {t z g b : Nat} (h : g + b ≤ 1000000000) (t0 : 0 < t) (t1 : t < Fl.one) (hz : SM z (leftC t g b)) : (FloatKind.f64.format.order z 4607182418800017408 == some .gt) = false := by
  rw [hz.order_left]
  obtain ⟨r1, r2, r3⟩ := rest_facts t0 t1
  by_cases h0 : g + b = 0
  · have e : leftC t g b = nan0 := by unfold leftC; rw [wrap_nat h, if_pos (by omega)]
    rw [e, show FloatKind.f64.format.order nan0 4607182418800017408 = none from Fl.order_nan_left nan0_nan]; rfl
  · obtain ⟨a, d, q, e1, e2, e3, e4, e5⟩ := Fl.left_up (b := b) (n := g + b) r3 r2 (by omega) (by omega) (by omega)
    have e : leftC t g b = q := by
      unfold leftC
      rw [wrap_nat h, if_neg (by omega), r1]
      unfold mulC
      rw [show floatOfInt .f64 ((g + b : Nat) : Int) = I (g + b) from rfl, show floatOfInt .f64 (b : Int) = I b from rfl, e1]
      unfold subC divC
      simp only [Option.getD_some]
      rw [e2]
      simp only [Option.getD_some]
      rw [e3]
      rfl
    rw [e, Fl.gt_key e4 (show ¬ Fl.NaN 4607182418800017408 by decide)]
    have : Fl.key Fl.one = Fl.key 4607182418800017408 := rfl
    simp; omega
theorem grow_test {t z z' g b m : Nat} (h : g + b + m ≤ 1000000000) (t0 : 0 < t) (t1 : t < Fl.one) (hz : SM z (burnC t g b)) (hz' : SM z' (burnC t g ((b + m : Nat) : Int))) :
    (FloatKind.f64.format.order z z == some .eq) = false ∨ ((FloatKind.f64.format.order z z == some .eq) = true ∧ (FloatKind.f64.format.order z' z == some .gt || FloatKind.f64.format.order z' z == some .eq) = true) := by
  by_cases h0 : g + b = 0
  · left
    exact eq_self_nan (hz.nan.2 ((burnC_nat (by omega) t0 t1).1 h0))
  · right
    obtain ⟨m1, m2⟩ := burnC_mono (m := m) h t0 t1 (by omega)
    have i1 := Nat.le_trans m1 m2
    have e := hz.eq (nn_up i1).1
    have e' := hz'.eq (nn_up m2).1
    subst e e'
    refine ⟨eq_self (nn_up i1).1, ?_⟩
    rw [Fl.geq_key (nn_up m2).1 (nn_up i1).1, (nn_up m2).2, (nn_up i1).2]
    exact decide_eq_true (by omega)

/-- x ≥ f. -/
def geqB (x f : Nat) : Bool := FloatKind.f64.format.order x f == some .gt || FloatKind.f64.format.order x f == some .eq
theorem geqB_sm {z c f : Nat} (h : SM z c) : geqB z f = geqB c f := by unfold geqB; rw [h.order_left]
theorem geqB_mono {t g b m f : Nat} (h : g + b + m ≤ 1000000000) (t0 : 0 < t) (t1 : t < Fl.one) (hf : geqB (burnC t g b) f = true) : geqB (burnC t g ((b + m : Nat) : Int)) f = true := by
  by_cases h0 : g + b = 0
  · unfold geqB at hf
    rw [show FloatKind.f64.format.order (burnC t g b) f = none from Fl.order_nan_left ((burnC_nat (by omega) t0 t1).1 h0)] at hf
    cases hf
  · obtain ⟨m1, m2⟩ := burnC_mono (m := m) h t0 t1 (by omega)
    have i1 := Nat.le_trans m1 m2
    by_cases hn : Fl.NaN f
    · unfold geqB at hf
      rw [show FloatKind.f64.format.order (burnC t g b) f = none from Fl.order_nan_right hn] at hf
      cases hf
    · unfold geqB at hf ⊢
      rw [Fl.geq_key (nn_up i1).1 hn, (nn_up i1).2] at hf
      rw [Fl.geq_key (nn_up m2).1 hn, (nn_up m2).2]
      have := of_decide_eq_true hf
      exact decide_eq_true (by omega)
end Go.Proofs.Ytmdfkljmgijdlaa
