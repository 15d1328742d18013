/- Rounding of binary64 by thresholds: the rung that 'nearest' gives is told by which midpoints lie below the exact value. -/
import Derived.Laws.FloatArith
namespace Go.Proofs.Ytmdfkljmgijdlaa.Fl
open Ieee

/-- The value of rung r, in units of 2^-1074. -/
def Vn (r : Nat) : Nat := if r < 4503599627370496 then r else (4503599627370496 + r % 4503599627370496) * 2 ^ (r / 4503599627370496 - 1)

def infR : Nat := 9218868437227405312

theorem infR_eq : Ieee.double.infRung = infR := by decide +kernel
theorem sw_eq : Ieee.double.signWeight = 9223372036854775808 := by decide +kernel
theorem bin_eq : Ieee.double.binade = 4503599627370496 := by decide +kernel
theorem least_eq : Ieee.double.leastPlace = -1074 := by decide +kernel

theorem Vn_succ (r : Nat) : Vn r < Vn (r + 1) := by
  unfold Vn
  by_cases h1 : r + 1 < 4503599627370496
  · rw [if_pos (by omega), if_pos h1]; omega
  · by_cases h2 : r < 4503599627370496
    · obtain rfl : r = 4503599627370495 := by omega
      decide +kernel
    · rw [if_neg h2, if_neg h1]
      by_cases h3 : (r + 1) % 4503599627370496 = 0
      · have e1 : r % 4503599627370496 = 4503599627370495 := by omega
        have e2 : (r + 1) / 4503599627370496 = r / 4503599627370496 + 1 := by omega
        have e3 : r / 4503599627370496 ≥ 1 := by omega
        rw [h3, e1, e2]
        obtain ⟨k, hk⟩ : ∃ k, r / 4503599627370496 = k + 1 := ⟨r / 4503599627370496 - 1, by omega⟩
        rw [hk]
        simp only [Nat.add_sub_cancel, Nat.pow_succ]
        have := Nat.two_pow_pos k
        omega
      · have e1 : (r + 1) % 4503599627370496 = r % 4503599627370496 + 1 := by omega
        have e2 : (r + 1) / 4503599627370496 = r / 4503599627370496 := by omega
        rw [e1, e2]
        exact Nat.mul_lt_mul_of_pos_right (by omega) (Nat.two_pow_pos _)

theorem Vn_lt {r s : Nat} (h : r < s) : Vn r < Vn s := by
  induction s with
  | zero => omega
  | succ s ih =>
    rcases Nat.lt_succ_iff_lt_or_eq.1 h with h | rfl
    · exact Nat.lt_trans (ih h) (Vn_succ s)
    · exact Vn_succ r

theorem Vn_le {r s : Nat} (h : r ≤ s) : Vn r ≤ Vn s := by
  rcases Nat.lt_or_eq_of_le h with h | rfl
  · exact Nat.le_of_lt (Vn_lt h)
  · exact Nat.le_refl _

/-- In the window of exponent E the rungs are the multiples of 2^E. -/
theorem Vn_window (E k : Nat) (h1 : k ≤ 9007199254740992) (h2 : E = 0 ∨ 4503599627370496 ≤ k) : Vn (E * 4503599627370496 + k) = k * 2 ^ E := by
  unfold Vn
  rcases h2 with rfl | h2
  · by_cases h : k < 4503599627370496
    · rw [if_pos (by omega)]; omega
    · by_cases h3 : k < 9007199254740992
      · rw [if_neg (by omega)]
        have e1 : (0 * 4503599627370496 + k) % 4503599627370496 = k - 4503599627370496 := by omega
        have e2 : (0 * 4503599627370496 + k) / 4503599627370496 = 1 := by omega
        rw [e1, e2]; simp; omega
      · obtain rfl : k = 9007199254740992 := by omega
        decide +kernel
  · rw [if_neg (by omega)]
    by_cases h3 : k < 9007199254740992
    · have e1 : (E * 4503599627370496 + k) % 4503599627370496 = k - 4503599627370496 := by omega
      have e2 : (E * 4503599627370496 + k) / 4503599627370496 - 1 = E := by omega
      rw [e1, e2, show 4503599627370496 + (k - 4503599627370496) = k from by omega]
    · obtain rfl : k = 9007199254740992 := by omega
      have e1 : (E * 4503599627370496 + 9007199254740992) % 4503599627370496 = 0 := by omega
      have e2 : (E * 4503599627370496 + 9007199254740992) / 4503599627370496 - 1 = E + 1 := by omega
      rw [e1, e2, Nat.pow_succ]; omega

/-! ### halves -/

/-- Half-even rounding of a rational x by its threshold. -/
theorem cut_even (neg : Bool) (n d : Nat) (k : Nat) (hk : 1 ≤ k) :
    k ≤ Toward.even.cut neg n d ↔ ((2 * k - 1) * 2 ^ d < 2 * n ∨ ((2 * k - 1) * 2 ^ d = 2 * n ∧ k % 2 = 0)) := by
  unfold Toward.cut
  simp only
  -- reduce to an honest power
  have key : ∀ g : Nat, 0 < g → (k ≤ n / g + (decide (g < 2 * (n % g)) || (g == 2 * (n % g) && n / g % 2 == 1)).toNat ↔ ((2 * k - 1) * g < 2 * n ∨ ((2 * k - 1) * g = 2 * n ∧ k % 2 = 0))) := by
    intro g hg
    have hdm := Nat.div_add_mod n g
    have hml := Nat.mod_lt n hg
    generalize hq : n / g = q at *
    generalize hr : n % g = r at *
    have hn : n = g * q + r := hdm.symm
    subst hn
    obtain ⟨j, rfl⟩ : ∃ j, k = j + 1 := ⟨k - 1, by omega⟩
    have e : (2 * (j + 1) - 1) * g = 2 * (g * j) + g := by
      have : 2 * (j + 1) - 1 = 2 * j + 1 := by omega
      rw [this, Nat.add_mul, Nat.one_mul, Nat.mul_assoc, Nat.mul_comm j g]
    rw [e]
    have hb : (decide (g < 2 * r) || (g == 2 * r && q % 2 == 1)).toNat = if g < 2 * r ∨ (g = 2 * r ∧ q % 2 = 1) then 1 else 0 := by
      by_cases h1 : g < 2 * r
      · simp [h1]
      · by_cases h2 : g = 2 * r
        · by_cases h3 : q % 2 = 1
          · simp [← h2, h3]
          · simp [← h2, h3]
        · simp [h1, h2]
    rw [hb]
    rcases Nat.lt_trichotomy j q with h | h | h
    · have : g * j + g ≤ g * q := by rw [← Nat.mul_succ]; exact Nat.mul_le_mul_left _ h
      constructor
      · intro _; left; omega
      · intro _; omega
    · subst h
      split
      · rename_i hc
        constructor
        · intro _
          rcases hc with hc | hc
          · left; omega
          · right; omega
        · intro _; omega
      · rename_i hc
        constructor
        · intro h; omega
        · intro h
          exfalso; apply hc
          rcases h with h | h
          · left; omega
          · right; omega
    · have : g * q + g ≤ g * j := by rw [← Nat.mul_succ]; exact Nat.mul_le_mul_left _ h
      constructor
      · intro h2; split at h2 <;> omega
      · intro h2; exfalso; omega
  by_cases hd : d ≤ n.log2 + 2
  · rw [Nat.min_eq_left hd, Nat.shiftLeft_eq, Nat.one_mul]
    exact key _ (Nat.two_pow_pos _)
  · rw [Nat.min_eq_right (by omega), Nat.shiftLeft_eq, Nat.one_mul]
    have hn : n < 2 ^ (n.log2 + 1) := Nat.lt_log2_self
    rw [key _ (Nat.two_pow_pos _)]
    have h1 : 2 * n < 2 ^ (n.log2 + 2) := by rw [Nat.pow_succ 2 (n.log2 + 1)]; omega
    have h2 : 2 ^ (n.log2 + 2) ≤ 2 ^ d := Nat.pow_le_pow_right (by omega) (by omega)
    have h3 : 2 ^ (n.log2 + 2) ≤ (2 * k - 1) * 2 ^ (n.log2 + 2) := Nat.le_mul_of_pos_left _ (by omega)
    have h4 : 2 ^ d ≤ (2 * k - 1) * 2 ^ d := Nat.le_mul_of_pos_left _ (by omega)
    constructor
    · intro h; omega
    · intro h; omega

end Go.Proofs.Ytmdfkljmgijdlaa.Fl
