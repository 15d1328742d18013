/- Shares of counts as floats: their bounds; more bad makes none less. -/
import Derived.Test.YtmdfkljmgijdlaaJa
namespace Go.Proofs.Ytmdfkljmgijdlaa
open Go.RowKit Ieee
set_option linter.unusedVariables false
namespace Fl

theorem div_le_div {a b r : Rat} (h : a ≤ b) (hr : 0 < r) : a / r ≤ b / r := by
  refine Rat.le_of_mul_le_mul_right ?_ hr
  rw [Rat.div_mul_cancel (Rat.ne_of_gt hr), Rat.div_mul_cancel (Rat.ne_of_gt hr)]; exact h
theorem div_le_one {a r : Rat} (h : a ≤ r) (hr : 0 < r) : a / r ≤ 1 := by
  refine Rat.le_of_mul_le_mul_right ?_ hr
  rw [Rat.div_mul_cancel (Rat.ne_of_gt hr), Rat.one_mul]; exact h
theorem ratio_mono {b n m : Rat} (h : b ≤ n) (hn : 0 < n) (hm : 0 ≤ m) : b / n ≤ (b + m) / (n + m) := by
  have hnm : 0 < n + m := by grind
  have e1 : b / n * n = b := Rat.div_mul_cancel (Rat.ne_of_gt hn)
  have e2 : (b + m) / (n + m) * (n + m) = b + m := Rat.div_mul_cancel (Rat.ne_of_gt hnm)
  have hc : 0 < n * (n + m) := Rat.mul_pos hn hnm
  refine Rat.le_of_mul_le_mul_right ?_ hc
  generalize b / n = x at *
  generalize (b + m) / (n + m) = y at *
  have e3 : x * (n * (n + m)) = b * (n + m) := by rw [← Rat.mul_assoc, e1]
  have e4 : y * (n * (n + m)) = (b + m) * n := by rw [Rat.mul_comm n, ← Rat.mul_assoc, e2]
  rw [e3, e4]
  have := Rat.mul_le_mul_of_nonneg_right h hm
  grind

theorem natR_le {a b : Nat} (h : a ≤ b) : ((a : Nat) : Rat) ≤ ((b : Nat) : Rat) := Rat.natCast_le_natCast.2 h
theorem natR_pos {a : Nat} (h : 0 < a) : (0 : Rat) < ((a : Nat) : Rat) := by
  have := natR_le h
  have e : (0 : Rat) < ((1 : Nat) : Rat) := by decide +kernel
  exact lt_le e this
theorem natR_nonneg (a : Nat) : (0 : Rat) ≤ ((a : Nat) : Rat) := by
  have := natR_le (Nat.zero_le a)
  have e : ((0 : Nat) : Rat) = 0 := by decide +kernel
  rwa [e] at this

/-- The rate of b bad among n. -/
theorem rate_up {b n : Nat} (hb : b ≤ n) (hn : 0 < n) (h53 : n ≤ 9007199254740992) :
    Ieee.double.div (I b) (I n) = some (fdiv (I b) (I n)) ∧ fdiv (I b) (I n) ≤ one ∧ RndTo (((b : Nat) : Rat) / ((n : Nat) : Rat)) (fdiv (I b) (I n)) := by
  have h0 : I n ≠ 0 := by
    have := (I_lt (a := 0) (b := n) (by omega) h53).2 hn
    omega
  obtain ⟨h1, h2, h3⟩ := fdiv_up (I_fin (n := b) (by omega)) (I_fin h53) h0
  rw [I_rv (by omega), I_rv h53] at h3
  refine ⟨h1, le_of_rnd h3 (self_pos one_lt) h2 (Nat.le_of_lt one_lt) ?_, h3⟩
  rw [rv_one]
  exact div_le_one (natR_le hb) (natR_pos hn)
theorem rate_mono {b n m : Nat} (hb : b ≤ n) (hn : 0 < n) (h53 : n + m ≤ 9007199254740992) : fdiv (I b) (I n) ≤ fdiv (I (b + m)) (I (n + m)) := by
  obtain ⟨_, h2, h3⟩ := rate_up hb hn (by omega)
  obtain ⟨_, k2, k3⟩ := rate_up (b := b + m) (n := n + m) (by omega) (by omega) h53
  refine le_of_rnd h3 k3 (Nat.le_trans h2 (Nat.le_of_lt one_lt)) (Nat.le_trans k2 (Nat.le_of_lt one_lt)) ?_
  rw [Rat.natCast_add, Rat.natCast_add]
  exact ratio_mono (natR_le hb) (natR_pos hn) (natR_nonneg m)

/-- The burn of a rate. -/
theorem burn_up {x r : Nat} (hx : x ≤ one) (hr : r ≤ one) (h0 : 0 < r) : Ieee.double.div x r = some (fdiv x r) ∧ fdiv x r ≤ infR ∧ RndTo (rv x / rv r) (fdiv x r) :=
  fdiv_up (Nat.lt_of_le_of_lt hx one_lt) (Nat.lt_of_le_of_lt hr one_lt) (by omega)
theorem burn_mono {x y r : Nat} (hxy : x ≤ y) (hy : y ≤ one) (hr : r ≤ one) (h0 : 0 < r) : fdiv x r ≤ fdiv y r := by
  obtain ⟨_, h2, h3⟩ := burn_up (Nat.le_trans hxy hy) hr h0
  obtain ⟨_, k2, k3⟩ := burn_up hy hr h0
  exact le_of_rnd h3 k3 h2 k2 (div_le_div (rv_le hxy) (rv_pos h0))

/-- What is left of the budget is at most 1. -/
theorem left_up {r b n : Nat} (hr : r ≤ one) (h0 : 0 < r) (hb : b ≤ n) (hn : 0 < n) (h53 : n ≤ 9007199254740992) :
    ∃ a d q, Ieee.double.mul r (I n) = some a ∧ Ieee.double.sub a (I b) = some d ∧ Ieee.double.div d a = some q ∧ ¬ NaN q ∧ key q ≤ key one := by
  have hr' : r < infR := Nat.lt_of_le_of_lt hr one_lt
  have hI := I_fin h53
  have hIb := I_fin (n := b) (by omega)
  have hI1 : one ≤ I n := by
    have := (I_le (a := 1) (b := n) (by omega) h53).2 hn
    have e : I 1 = one := by decide +kernel
    rwa [e] at this
  obtain ⟨m1, m2, m3⟩ := fmul_fin hr' hI
  have hge := fmul_ge (Nat.le_of_lt hr') hI hI1
  have hle : fmul r (I n) ≤ I n := by
    refine le_of_rnd m3 (self_pos hI) m2 (Nat.le_of_lt hI) ?_
    have h4 : rv r ≤ 1 := by rw [← rv_one]; exact rv_le hr
    have := Rat.mul_le_mul_of_nonneg_right h4 (rv_nonneg (I n))
    rwa [Rat.one_mul] at this
  generalize fmul r (I n) = a at *
  have ha : a < infR := Nat.lt_of_le_of_lt hle hI
  have ha0 : 0 < a := by omega
  have fa := fin_lt ha
  have fb := fin_lt hIb
  obtain ⟨d, d1, d2, d3⟩ := sub_fin fa.1 fb.1
  have hd : key d ≤ key a ∧ Fnt d := by
    have e0 : fv a - fv (I b) ≤ fv a := by
      rw [fv_pos (Nat.le_of_lt hIb)]
      have := rv_nonneg (I b)
      grind
    refine ⟨d2.mono (rndTo_self fa.1 (lt64 (Nat.le_of_lt ha))) e0, ?_⟩
    obtain ⟨w1, w2, w3⟩ := rg_word true (Nat.le_of_lt hIb)
    refine d2.fin (x := Ieee.double.word true (I b)) (y := a) (by unfold Fnt; rw [w1]; exact hIb) w3 fa.1 (lt64 (Nat.le_of_lt ha)) ?_ e0
    rw [fv_neg w2, w1, fv_pos (Nat.le_of_lt hIb), fv_pos (Nat.le_of_lt ha)]
    have := rv_nonneg a
    grind
  obtain ⟨q, q1, q2, q3⟩ := div_fin hd.2 fa.1 (by rw [rg_pos (Nat.le_of_lt ha)]; omega)
  refine ⟨a, d, q, m1, d1, q1, q2.notNaN, ?_⟩
  have f1 := fin_lt one_lt
  refine q2.mono (rndTo_self f1.1 (lt64 (Nat.le_of_lt one_lt))) ?_
  rw [fv_pos (Nat.le_of_lt one_lt), rv_one]
  have hp : 0 < fv a := by rw [fv_pos (Nat.le_of_lt ha)]; exact rv_pos ha0
  exact div_le_one (key_le_fv.2 hd.1) hp
end Fl
end Go.Proofs.Ytmdfkljmgijdlaa
