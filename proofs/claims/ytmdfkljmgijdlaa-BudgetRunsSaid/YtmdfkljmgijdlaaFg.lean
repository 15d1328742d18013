/- Rounding up a float below 2^31, and turning it to an int32. -/
import Derived.Test.YtmdfkljmgijdlaaFf
namespace Go.Proofs.Ytmdfkljmgijdlaa.Fl
open Ieee

theorem cut_gap (n d : Nat) : ∃ g, g = (if d ≤ n.log2 + 2 then 2 ^ d else 2 ^ (n.log2 + 2)) ∧ (1 <<< min d (n.log2 + 2)) = g := by
  refine ⟨_, rfl, ?_⟩
  split
  · rename_i h; rw [Nat.min_eq_left h, Nat.shiftLeft_eq, Nat.one_mul]
  · rename_i h; rw [Nat.min_eq_right (by omega), Nat.shiftLeft_eq, Nat.one_mul]

theorem cut_up_le (n d M : Nat) (h : n ≤ M * 2 ^ d) (hM : 1 ≤ M) : Toward.up.cut false n d ≤ M := by
  unfold Toward.cut
  simp only [Bool.not_false, Bool.true_and]
  obtain ⟨g, hg, e⟩ := cut_gap n d
  rw [e]
  have hgp : 0 < g := by rw [hg]; split <;> exact Nat.two_pow_pos _
  have hd := Nat.div_add_mod n g
  by_cases hc : d ≤ n.log2 + 2
  · rw [if_pos hc] at hg
    have hlt : n / g ≤ M := by
      rw [Nat.div_le_iff_le_mul_add_pred hgp, hg, Nat.mul_comm]; omega
    rcases Nat.lt_or_eq_of_le hlt with h1 | h1
    · cases (n % g != 0) <;> simp <;> omega
    · have : n % g = 0 := by
        rw [h1] at hd
        rw [← hg, Nat.mul_comm] at h
        omega
      simp [this, h1]
  · rw [if_neg hc] at hg
    have hn : n < 2 ^ (n.log2 + 1) := Nat.lt_log2_self
    have : n < g := by rw [hg, Nat.pow_succ 2 (n.log2 + 1)]; omega
    rw [Nat.div_eq_of_lt this]
    cases (n % g != 0) <;> simp <;> omega

theorem cut_zero_exact (k d : Nat) (hk : 1 ≤ k) : Toward.zero.cut false (k * 2 ^ d) d = k := by
  unfold Toward.cut
  simp only
  have hl : d ≤ (k * 2 ^ d).log2 := by
    rw [Nat.le_log2 (by have := Nat.two_pow_pos d; exact Nat.ne_of_gt (Nat.mul_pos (by omega) this))]
    exact Nat.le_mul_of_pos_left _ hk
  rw [Nat.min_eq_left (by omega), Nat.shiftLeft_eq, Nat.one_mul, Nat.mul_div_cancel _ (Nat.two_pow_pos d)]
  simp

/-- 'int32(math.Ceil(x))' is fixed for every x above nought and below 2147483647. -/
theorem ceil_int {x : Nat} (h0 : 0 < x) (h1 : x < 4746794007244308480) :
    ∃ k : Nat, floatToIntVal .f64 (FloatKind.f64.encode ((FloatKind.f64.decode x).integral .up)) .i32 = some (k : Int) := by
  have hx : x < infR := by have := infR_val; omega
  obtain ⟨m, p, e, v, m0, p0, mV⟩ := read_fin (fin_pos hx)
  rw [neg_pos (Nat.le_of_lt hx)] at e
  rw [rg_pos (Nat.le_of_lt hx)] at v m0 mV
  have hdec : FloatKind.f64.decode x = .number false m p := e
  rw [hdec]
  simp only [Datum.integral]
  generalize hk : Toward.up.cut false (m <<< p.toNat) (-p).toNat = k
  -- the value is below 2147483647
  have hlt : rv x < ((2147483647 : Nat) : Rat) := by
    have a : rv x < rv 4746794007244308480 := rv_lt h1
    have b : rv 4746794007244308480 = ((2147483647 : Nat) : Rat) := by
      obtain ⟨c, hc⟩ : ∃ c : Nat, c = 1074 := ⟨_, rfl⟩
      have e : Vn 4746794007244308480 = 2147483647 * 2 ^ c := by subst hc; decide +kernel
      unfold rv unit
      rw [e, Rat.natCast_mul, Rat.natCast_pow, Rat.mul_assoc, show (((2 : Nat) : Rat) ^ c) = (2 : Rat) ^ (c : Int) from rfl, ← Rat.zpow_add two_ne, show (c : Int) + -1074 = 0 from by omega, Rat.zpow_zero, Rat.mul_one]
    rwa [b] at a
  have hkle : k ≤ 2147483647 := by
    rw [← hk]
    refine cut_up_le _ _ _ ?_ (by decide)
    rw [Nat.shiftLeft_eq]
    have hz := zp (-p)
    have : (m : Rat) * (2 : Rat) ^ p ≤ ((2147483647 : Nat) : Rat) := by rw [v]; exact Rat.le_of_lt hlt
    by_cases hp : 0 ≤ p
    · have e1 : (2 : Rat) ^ p = ((2 ^ p.toNat : Nat) : Rat) := by
        rw [Rat.natCast_pow]
        have : p = (p.toNat : Int) := by omega
        conv => lhs; rw [this, Rat.zpow_natCast]
        rfl
      rw [e1, ← Rat.natCast_mul, Rat.natCast_le_natCast] at this
      rw [show (-p).toNat = 0 from by omega]; omega
    · rw [show p.toNat = 0 from by omega, Nat.pow_zero, Nat.mul_one]
      have e1 : (2 : Rat) ^ p * ((2 ^ (-p).toNat : Nat) : Rat) = 1 := by
        rw [Rat.natCast_pow, show (((2 : Nat) : Rat) ^ (-p).toNat) = (2 : Rat) ^ (((-p).toNat : Nat) : Int) from rfl, ← Rat.zpow_add two_ne, show p + (((-p).toNat : Nat) : Int) = 0 from by omega, Rat.zpow_zero]
      have h2 := Rat.mul_le_mul_of_nonneg_right this (Rat.natCast_nonneg (a := 2 ^ (-p).toNat))
      rw [Rat.mul_assoc, e1, Rat.mul_one, ← Rat.natCast_mul, Rat.natCast_le_natCast] at h2
      exact h2
  have henc : FloatKind.f64.encode (.number false k 0) = floatOfInt .f64 (k : Int) := by
    show Ieee.double.nearest false k 0 = Ieee.double.nearest (decide ((k : Int) < 0)) (k : Int).natAbs 0
    rw [decide_eq_false (by omega), Int.natAbs_natCast]
  rw [henc]
  obtain ⟨z1, z2⟩ := ofInt_exact k (by omega)
  generalize floatOfInt .f64 (k : Int) = z at *
  obtain ⟨m', p', e', v', m0', _, _⟩ := read_fin (fin_pos z1)
  rw [neg_pos (Nat.le_of_lt z1)] at e'
  rw [rg_pos (Nat.le_of_lt z1), z2] at v'
  have hdec' : FloatKind.f64.decode z = .number false m' p' := e'
  refine ⟨k, ?_⟩
  unfold floatToIntVal
  rw [hdec']
  simp only [Datum.toInt, Datum.integral]
  have hc : Toward.zero.cut false (m' <<< p'.toNat) (-p').toNat = k := by
    rw [Nat.shiftLeft_eq]
    by_cases hk0 : k = 0
    · subst hk0
      have : m' = 0 := by
        have h3 : (m' : Rat) * (2 : Rat) ^ p' = 0 := v'
        rcases Rat.mul_eq_zero.1 h3 with h4 | h4
        · exact Rat.natCast_eq_zero_iff.1 h4
        · exact absurd h4 (Rat.ne_of_gt (zp p'))
      rw [this]; simp [Toward.cut]
    · by_cases hp : 0 ≤ p'
      · have e1 : (2 : Rat) ^ p' = ((2 ^ p'.toNat : Nat) : Rat) := by
          rw [Rat.natCast_pow]
          have : p' = (p'.toNat : Int) := by omega
          conv => lhs; rw [this, Rat.zpow_natCast]
          rfl
        rw [e1, ← Rat.natCast_mul, Rat.natCast_inj] at v'
        rw [v', show (-p').toNat = 0 from by omega]
        have := cut_zero_exact k 0 (by omega)
        rwa [Nat.pow_zero, Nat.mul_one] at this
      · rw [show p'.toNat = 0 from by omega, Nat.pow_zero, Nat.mul_one]
        have e1 : (2 : Rat) ^ p' * ((2 ^ (-p').toNat : Nat) : Rat) = 1 := by
          rw [Rat.natCast_pow, show (((2 : Nat) : Rat) ^ (-p').toNat) = (2 : Rat) ^ (((-p').toNat : Nat) : Int) from rfl, ← Rat.zpow_add two_ne, show p' + (((-p').toNat : Nat) : Int) = 0 from by omega, Rat.zpow_zero]
        have h2 := congrArg (· * ((2 ^ (-p').toNat : Nat) : Rat)) v'
        simp only [Rat.mul_assoc, e1, Rat.mul_one] at h2
        rw [← Rat.natCast_mul, Rat.natCast_inj] at h2
        rw [h2]
        exact cut_zero_exact k _ (by omega)
  rw [hc]
  have hs : signed false k 0 = (k : Int) := by unfold signed; simp
  simp only [hs]
  rw [if_pos ⟨by simp [IntKind.min, IntKind.signed, IntKind.bits], by simp [IntKind.max, IntKind.signed, IntKind.bits]; omega⟩]

end Go.Proofs.Ytmdfkljmgijdlaa.Fl
