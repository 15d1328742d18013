/- The quotient of binary64: the exact quotient, rounded. -/
import Derived.Test.YtmdfkljmgijdlaaFd
namespace Go.Proofs.Ytmdfkljmgijdlaa.Fl
open Ieee

/-- Where a midpoint lies: a whole number of units of 2^e, or below 2^53 of them. -/
theorem mid_units (K : Nat) (h : 1 ≤ K) (e : Int) : (∃ M : Nat, Mid K = (M : Rat) * (2 : Rat) ^ e) ∨ Mid K < ((9007199254740992 : Nat) : Rat) * (2 : Rat) ^ e := by
  obtain ⟨E, k, hK, hk1, hk2, hk3⟩ : ∃ E k : Nat, K = E * 4503599627370496 + k ∧ 1 ≤ k ∧ k ≤ 9007199254740992 ∧ (E = 0 ∨ 4503599627370496 ≤ k - 1) := by
    by_cases g : K ≤ 9007199254740992
    · exact ⟨0, K, by omega, h, g, Or.inl rfl⟩
    · exact ⟨(K - 1) / 4503599627370496 - 1, K - ((K - 1) / 4503599627370496 - 1) * 4503599627370496, by omega, by omega, by omega, by omega⟩
  have hrv : ∀ j, j ≤ 9007199254740992 → (E = 0 ∨ 4503599627370496 ≤ j) → rv (E * 4503599627370496 + j) = (j : Rat) * (2 : Rat) ^ ((E : Int) - 1074) := by
    intro j h1 h2
    unfold rv unit
    rw [Vn_window E j h1 h2, Rat.natCast_mul, Rat.natCast_pow, Rat.mul_assoc, Int.sub_eq_add_neg, Rat.zpow_add two_ne]
    rfl
  have hmid : Mid K = ((2 * k - 1 : Nat) : Rat) * (2 : Rat) ^ ((E : Int) - 1075) := by
    unfold Mid
    rw [hK, show E * 4503599627370496 + k - 1 = E * 4503599627370496 + (k - 1) from by omega, hrv (k - 1) (by omega) hk3, hrv k hk2 (by omega)]
    obtain ⟨j, rfl⟩ : ∃ j, k = j + 1 := ⟨k - 1, by omega⟩
    rw [show 2 * (j + 1) - 1 = j + j + 1 from by omega, Nat.add_sub_cancel]
    rw [show (E : Int) - 1074 = ((E : Int) - 1075) + 1 from by omega, Rat.zpow_add two_ne, Rat.zpow_one]
    simp only [Rat.natCast_add]
    generalize (2 : Rat) ^ ((E : Int) - 1075) = t
    generalize (j : Rat) = u
    have : ((1 : Nat) : Rat) = 1 := rfl
    rw [this]
    grind
  by_cases hc : e ≤ (E : Int) - 1075
  · left
    refine ⟨(2 * k - 1) * 2 ^ ((E : Int) - 1075 - e).toNat, ?_⟩
    rw [hmid, Rat.natCast_mul, Rat.natCast_pow, Rat.mul_assoc]
    congr 1
    rw [show (((2 : Nat) : Rat) ^ ((E : Int) - 1075 - e).toNat) = (2 : Rat) ^ ((((E : Int) - 1075 - e).toNat : Nat) : Int) from rfl, ← Rat.zpow_add two_ne]
    congr 1; omega
  · right
    have h1 := mid_lt K h
    have h2 : rv K ≤ ((9007199254740992 : Nat) : Rat) * (2 : Rat) ^ ((E : Int) - 1074) := by
      rw [hK, hrv k hk2 (by omega)]
      exact Rat.mul_le_mul_of_nonneg_right (Rat.natCast_le_natCast.2 hk2) (Rat.le_of_lt (zp _))
    have h3 : (2 : Rat) ^ ((E : Int) - 1074) ≤ (2 : Rat) ^ e := by
      have he : e = ((E : Int) - 1074) + ((e - ((E : Int) - 1074)).toNat : Int) := by omega
      rw [he, Rat.zpow_add two_ne, Rat.zpow_natCast]
      have : (1 : Rat) ≤ (2 : Rat) ^ (e - ((E : Int) - 1074)).toNat := by
        have := Nat.two_pow_pos (e - ((E : Int) - 1074)).toNat
        have h : ((1 : Nat) : Rat) ≤ ((2 ^ (e - ((E : Int) - 1074)).toNat : Nat) : Rat) := Rat.natCast_le_natCast.2 this
        rw [Rat.natCast_pow] at h
        exact h
      have hz := zp ((E : Int) - 1074)
      have := Rat.mul_le_mul_of_nonneg_left this (Rat.le_of_lt hz)
      rw [Rat.mul_one] at this
      exact this
    exact lt_le h1 (Rat.le_trans h2 (Rat.mul_le_mul_of_nonneg_left h3 Rat.natCast_nonneg))

/-- A quotient and its sticky form lie alike to every midpoint. -/
theorem sticky_rnd (D n : Nat) (hn : 0 < n) (e : Int) (hq : 9007199254740992 ≤ D / n) (r : Nat)
    (h : IsRnd (((2 * (D / n) + (D % n != 0).toNat : Nat) : Rat) * (2 : Rat) ^ (e - 1)) r) : IsRnd ((D : Rat) / (n : Rat) * (2 : Rat) ^ e) r := by
  refine ⟨h.1, fun K h1 h2 => ?_⟩
  rw [h.2 K h1 h2]
  have hdm := Nat.div_add_mod D n
  have hml := Nat.mod_lt D hn
  generalize D / n = q at *
  generalize D % n = s at *
  have ht := zp e
  have hnp : (0 : Rat) < (n : Rat) := Rat.natCast_pos.2 hn
  have hn0 : (n : Rat) ≠ 0 := Rat.ne_of_gt hnp
  have e1 : ((2 * q + (s != 0).toNat : Nat) : Rat) * (2 : Rat) ^ (e - 1) = ((2 * q + (s != 0).toNat : Nat) : Rat) / 2 * (2 : Rat) ^ e := by
    rw [show e = (e - 1) + 1 from by omega, Rat.zpow_add two_ne, Rat.zpow_one, show e - 1 + 1 - 1 = e - 1 from by omega]
    grind
  rw [e1]
  have hmu := mid_units K h1 e
  generalize (2 : Rat) ^ e = t at *
  have cmp : ∀ a b : Rat, a * t < b * t ↔ a < b := fun a b => Rat.mul_lt_mul_right ht
  have ceq : ∀ a b : Rat, a * t = b * t ↔ a = b := fun a b => ⟨fun h => by
    have h1 := cmp a b; have h2 := cmp b a
    rw [h] at h1 h2
    have n1 : ¬ a < b := fun g => Rat.lt_irrefl (h1.2 g)
    have n2 : ¬ b < a := fun g => Rat.lt_irrefl (h2.2 g)
    exact Rat.le_antisymm (Rat.not_lt.1 n2) (Rat.not_lt.1 n1), fun h => by rw [h]⟩
  have hfl : ∀ M : Nat, ((M : Rat) < (D : Rat) / (n : Rat) ↔ M * n < D) ∧ ((M : Rat) = (D : Rat) / (n : Rat) ↔ M * n = D) := by
    intro M
    constructor
    · rw [Rat.lt_div_iff hnp, ← Rat.natCast_mul, Rat.natCast_lt_natCast]
    · constructor
      · intro g
        have : (M : Rat) * (n : Rat) = (D : Rat) := by rw [g, Rat.div_mul_cancel hn0]
        rw [← Rat.natCast_mul, Rat.natCast_inj] at this
        exact this
      · intro g
        rw [← g, Rat.natCast_mul, Rat.mul_div_cancel hn0]
  have hst : ∀ M : Nat, ((M : Rat) < ((2 * q + (s != 0).toNat : Nat) : Rat) / 2 ↔ 2 * M < 2 * q + (s != 0).toNat) ∧ ((M : Rat) = ((2 * q + (s != 0).toNat : Nat) : Rat) / 2 ↔ 2 * M = 2 * q + (s != 0).toNat) := by
    intro M
    generalize 2 * q + (s != 0).toNat = S
    have e2 : (2 : Rat) = ((2 : Nat) : Rat) := rfl
    constructor
    · rw [Rat.lt_div_iff two_pos, e2, ← Rat.natCast_mul, Rat.natCast_lt_natCast, Nat.mul_comm]
    · constructor
      · intro g
        have : (M : Rat) * 2 = (S : Rat) := by rw [g, Rat.div_mul_cancel two_ne]
        rw [e2, ← Rat.natCast_mul, Rat.natCast_inj] at this
        omega
      · intro g
        rw [← g, Rat.natCast_mul, ← e2]; grind
  rcases hmu with ⟨M, hM⟩ | hlow
  · rw [hM, cmp, ceq, cmp, ceq, (hfl M).1, (hfl M).2, (hst M).1, (hst M).2]
    have hb : (s != 0).toNat = if s = 0 then 0 else 1 := by by_cases g : s = 0 <;> simp [g]
    rw [hb]
    subst hdm
    rcases Nat.lt_trichotomy M q with g | g | g
    · have h3 : M * n + n ≤ n * q := by rw [Nat.mul_comm n q, ← Nat.succ_mul]; exact Nat.mul_le_mul_right _ g
      constructor
      · intro _; left; omega
      · intro _; left; omega
    · subst g
      rw [Nat.mul_comm M n]
      by_cases g : s = 0
      · rw [if_pos g]; subst g; omega
      · rw [if_neg g]; omega
    · have h3 : n * q + n ≤ M * n := by rw [Nat.mul_comm n q, ← Nat.succ_mul]; exact Nat.mul_le_mul_right _ g
      constructor
      · intro h4; exfalso; split at h4 <;> omega
      · intro h4; exfalso; omega
  · have h3 : ((9007199254740992 : Nat) : Rat) ≤ ((2 * q + (s != 0).toNat : Nat) : Rat) / 2 := by
      rcases Nat.lt_or_eq_of_le (show 2 * 9007199254740992 ≤ 2 * q + (s != 0).toNat from by omega) with g | g
      · exact Rat.le_of_lt ((hst _).1.2 g)
      · rw [(hst _).2.2 g]; exact Rat.le_refl
    have h4 : ((9007199254740992 : Nat) : Rat) ≤ (D : Rat) / (n : Rat) := by
      have : 9007199254740992 * n ≤ D := by
        have := Nat.mul_le_mul_right n hq
        rw [Nat.mul_comm q n] at this
        omega
      rcases Nat.lt_or_eq_of_le this with g | g
      · exact Rat.le_of_lt ((hfl _).1.2 g)
      · rw [(hfl _).2.2 g]; exact Rat.le_refl
    constructor
    · intro _; left; exact lt_le hlow (Rat.mul_le_mul_of_nonneg_right h4 (Rat.le_of_lt ht))
    · intro _; left; exact lt_le hlow (Rat.mul_le_mul_of_nonneg_right h3 (Rat.le_of_lt ht))

theorem div_fin {x y : Nat} (hx : Fnt x) (hy : Fnt y) (hy0 : rg y ≠ 0) : ∃ z, Ieee.double.div x y = some z ∧ RndTo (fv x / fv y) z ∧ neg z = (neg x ^^ neg y) := by
  obtain ⟨m, p, ex, vx, mx, _⟩ := read_fin hx
  obtain ⟨n, q, ey, vy, ny, _⟩ := read_fin hy
  have hn : n ≠ 0 := fun g => hy0 (ny.1 g)
  have hnp : 0 < n := by omega
  refine ⟨_, by unfold Format.div; rw [ex, ey]; simp only [Datum.quotient]; rw [if_neg hn]; rfl, ?_, neg_nearest _ _ _⟩
  have hbits : Ieee.double.fractionBits + 2 = 54 := rfl
  rw [hbits]
  simp only [Nat.shiftLeft_eq]
  generalize hmore : 54 + n.log2 - m.log2 = more
  have h := rndTo_nearest (neg x ^^ neg y) (2 * (m * 2 ^ more / n) + (m * 2 ^ more % n != 0).toNat) (p - q - more - 1)
  -- the exact value
  have hnr : (n : Rat) ≠ 0 := Rat.ne_of_gt (Rat.natCast_pos.2 hnp)
  have hval : ((m * 2 ^ more : Nat) : Rat) / (n : Rat) * (2 : Rat) ^ (p - q - more) = rv (rg x) / rv (rg y) := by
    rw [← vx, ← vy, Rat.natCast_mul, Rat.natCast_pow]
    have e1 : (2 : Rat) ^ (p - q - more) = (2 : Rat) ^ p * ((2 : Rat) ^ q)⁻¹ * ((2 : Rat) ^ more)⁻¹ := by
      rw [show p - q - (more : Int) = p + (-q) + (-(more : Int)) from by omega, Rat.zpow_add two_ne, Rat.zpow_add two_ne, Rat.zpow_neg, Rat.zpow_neg, Rat.zpow_natCast]
    rw [e1]
    have a1 : (2 : Rat) ^ q ≠ 0 := Rat.ne_of_gt (zp q)
    have a2 : (2 : Rat) ^ more ≠ 0 := Rat.ne_of_gt (Rat.pow_pos two_pos)
    have e2 : ((2 : Nat) : Rat) = 2 := rfl
    rw [e2]
    rw [Rat.div_def, Rat.div_def, Rat.inv_mul_rev]
    generalize (2 : Rat) ^ q = b at *
    generalize (2 : Rat) ^ more = c at *
    have := Rat.mul_inv_cancel c a2
    grind
  have hnn : (0 : Rat) ≤ rv (rg x) / rv (rg y) := by
    rw [← hval]
    refine Rat.mul_nonneg ?_ (Rat.le_of_lt (zp _))
    rw [Rat.div_def]
    exact Rat.mul_nonneg Rat.natCast_nonneg (Rat.le_of_lt (Rat.inv_pos.2 (Rat.natCast_pos.2 hnp)))
  have hfv : fv x / fv y = if (neg x ^^ neg y) then -(rv (rg x) / rv (rg y)) else rv (rg x) / rv (rg y) := by
    have e3 : ∀ a : Rat, (-a)⁻¹ = -a⁻¹ := fun a => by
      by_cases ha : a = 0
      · subst ha; simp [Rat.inv_zero, Rat.neg_zero]
      · exact Rat.inv_eq_of_mul_eq_one (by rw [Rat.neg_mul, Rat.mul_neg, Rat.neg_neg, Rat.mul_inv_cancel a ha])
    unfold fv
    cases neg x <;> cases neg y <;> simp only [if_true, if_false, Bool.false_eq_true, Bool.xor_false, Bool.xor_true, Bool.not_true, Bool.not_false, Rat.div_def, e3, Rat.neg_mul, Rat.mul_neg, Rat.neg_neg]
  rw [hfv]
  by_cases hm : m = 0
  · -- nought
    have hz : rv (rg x) / rv (rg y) = 0 := by rw [← vx, hm, Rat.div_def, show ((0 : Nat) : Rat) = 0 from rfl, Rat.zero_mul, Rat.zero_mul]
    subst hm
    simp only [Nat.zero_mul, Nat.zero_div, Nat.zero_mod, Nat.mul_zero, Nat.zero_add] at h ⊢
    rw [hz]
    have : ((((0 : Nat) != 0).toNat : Nat) : Rat) = 0 := rfl
    rw [this, Rat.zero_mul] at h
    exact h
  · have hq53 : 9007199254740992 ≤ m * 2 ^ more / n := by
      rw [Nat.le_div_iff_mul_le hnp]
      have h1 : 2 ^ m.log2 ≤ m := Nat.log2_self_le hm
      have h2 : n < 2 ^ (n.log2 + 1) := Nat.lt_log2_self
      have h3 : 2 ^ m.log2 * 2 ^ more ≤ m * 2 ^ more := Nat.mul_le_mul_right _ h1
      rw [← Nat.pow_add] at h3
      have h4 : 2 ^ (53 + (n.log2 + 1)) ≤ 2 ^ (m.log2 + more) := Nat.pow_le_pow_right (by omega) (by omega)
      rw [Nat.pow_add 2 53] at h4
      have h5 : 2 ^ 53 * n ≤ 2 ^ 53 * 2 ^ (n.log2 + 1) := Nat.mul_le_mul_left _ (Nat.le_of_lt h2)
      have e : (2 : Nat) ^ 53 = 9007199254740992 := by decide +kernel
      rw [e] at h4 h5
      exact Nat.le_trans h5 (Nat.le_trans h4 h3)
    have hpos : ∀ S : Nat, (0 : Rat) ≤ (S : Rat) * (2 : Rat) ^ (p - q - more - 1) := fun S => Rat.mul_nonneg Rat.natCast_nonneg (Rat.le_of_lt (zp _))
    generalize hS : 2 * (m * 2 ^ more / n) + (m * 2 ^ more % n != 0).toNat = S at *
    generalize hz : Ieee.double.nearest (neg x ^^ neg y) S (p - q - more - 1) = z at *
    have hrnd : IsRnd ((S : Rat) * (2 : Rat) ^ (p - q - more - 1)) (rg z) := by
      have := h.rnd
      cases hs : (neg x ^^ neg y) <;> rw [hs] at this <;> simp only [if_true, if_false, Bool.false_eq_true] at this
      · rw [ab_nonneg (hpos S)] at this; exact this
      · rw [ab_nonpos (by have := hpos S; grind), Rat.neg_neg] at this; exact this
    rw [← hS] at hrnd
    have hfin := sticky_rnd _ n hnp (p - q - more) hq53 _ hrnd
    rw [hval] at hfin
    have hsz : Fl.neg z = (neg x ^^ neg y) := by rw [← hz]; exact neg_nearest _ _ _
    refine ⟨h.lt, ?_, ?_, ?_⟩
    · cases hs : (neg x ^^ neg y) <;> simp only [if_true, if_false, Bool.false_eq_true]
      · rw [ab_nonneg hnn]; exact hfin
      · rw [ab_nonpos (by grind), Rat.neg_neg]; exact hfin
    · rw [hsz]; intro g; rw [g]; simp only [if_false, Bool.false_eq_true]; exact hnn
    · rw [hsz]; intro g; rw [g]; simp only [if_true]; grind

end Go.Proofs.Ytmdfkljmgijdlaa.Fl
