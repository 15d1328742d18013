/- Whole numbers as floats: their sums, differences and products are exact; a bucket of whole numbers. -/
import Derived.Test.YtmdfkljmgijdlaaIa
namespace Go.Proofs.Ytmdfkljmgijdlaa
open Go.RowKit Ieee
set_option linter.unusedVariables false

namespace Fl
theorem cut_zero_le (s : Bool) (n d M : Nat) (h : n ≤ M * 2 ^ d) : Toward.zero.cut s n d ≤ M := by
  unfold Toward.cut
  simp only
  obtain ⟨g, hg, e⟩ := cut_gap n d
  rw [e]
  have hgp : 0 < g := by rw [hg]; split <;> exact Nat.two_pow_pos _
  by_cases hc : d ≤ n.log2 + 2
  · rw [if_pos hc] at hg
    have hlt : n / g ≤ M := by
      rw [Nat.div_le_iff_le_mul_add_pred hgp, hg, Nat.mul_comm]; omega
    simpa using hlt
  · rw [if_neg hc] at hg
    have hn : n < 2 ^ (n.log2 + 1) := Nat.lt_log2_self
    have : n < g := by rw [hg, Nat.pow_succ 2 (n.log2 + 1)]; omega
    rw [Nat.div_eq_of_lt this]
    simp

/-- 'int(x)' of a float from nought to a billion. -/
theorem trunc_int {x : Nat} (h0 : 0 ≤ key x) (h1 : key x ≤ 4741671816366391296) : ∃ k : Nat, k ≤ 1000000000 ∧ floatToIntVal .f64 x .i64 = some (k : Int) := by
  have hi := infR_val
  have hr : rg x ≤ 4741671816366391296 := by unfold key at h0 h1; split at h0 <;> simp_all <;> omega
  have hF : Fnt x := by unfold Fnt; omega
  obtain ⟨m, p, e, v, m0, p0, mV⟩ := read_fin hF
  have hdec : FloatKind.f64.decode x = .number (neg x) m p := e
  have hle : rv (rg x) ≤ ((1000000000 : Nat) : Rat) := by
    have a : rv (rg x) ≤ rv 4741671816366391296 := rv_le hr
    have b : rv 4741671816366391296 = ((1000000000 : Nat) : Rat) := by
      obtain ⟨c, hc⟩ : ∃ c : Nat, c = 1074 := ⟨_, rfl⟩
      have e : Vn 4741671816366391296 = 1000000000 * 2 ^ c := by subst hc; decide +kernel
      unfold rv unit
      rw [e, Rat.natCast_mul, Rat.natCast_pow, Rat.mul_assoc, show (((2 : Nat) : Rat) ^ c) = (2 : Rat) ^ (c : Int) from rfl, ← Rat.zpow_add two_ne, show (c : Int) + -1074 = 0 from by omega, Rat.zpow_zero, Rat.mul_one]
    rwa [b] at a
  have hkle : Toward.zero.cut (neg x) (m <<< p.toNat) (-p).toNat ≤ 1000000000 := by
    refine cut_zero_le _ _ _ _ ?_
    rw [Nat.shiftLeft_eq]
    have this : (m : Rat) * (2 : Rat) ^ p ≤ ((1000000000 : Nat) : Rat) := by rw [v]; exact hle
    by_cases hp : 0 ≤ p
    · have e1 : (2 : Rat) ^ p = ((2 ^ p.toNat : Nat) : Rat) := by
        rw [Rat.natCast_pow]
        have : p = (p.toNat : Int) := by omega
        conv => lhs; rw [this, Rat.zpow_natCast]
        rfl
      rw [e1, ← Rat.natCast_mul, Rat.natCast_le_natCast] at this
      rw [show (-p).toNat = 0 from by omega]; omega
    · rw [show p.toNat = 0 from by omega, Nat.pow_zero, Nat.mul_one]
      have e1 : (2 : Rat) ^ p * ((2 ^ (-p).toNat : Nat) : Rat) = 1 := by
        rw [Rat.natCast_pow, show (((2 : Nat) : Rat) ^ (-p).toNat) = (2 : Rat) ^ (((-p).toNat : Nat) : Int) from rfl, ← Rat.zpow_add two_ne, show p + (((-p).toNat : Nat) : Int) = 0 from by omega, Rat.zpow_zero]
      have h2 := Rat.mul_le_mul_of_nonneg_right this (Rat.natCast_nonneg (a := 2 ^ (-p).toNat))
      rw [Rat.mul_assoc, e1, Rat.mul_one, ← Rat.natCast_mul, Rat.natCast_le_natCast] at h2
      exact h2
  refine ⟨Toward.zero.cut (neg x) (m <<< p.toNat) (-p).toNat, hkle, ?_⟩
  unfold floatToIntVal
  rw [hdec]
  simp only [Datum.toInt, Datum.integral]
  generalize hk : Toward.zero.cut (neg x) (m <<< p.toNat) (-p).toNat = k at *
  have hs : signed (neg x) k 0 = (k : Int) := by
    cases hn : neg x
    · unfold signed; simp
    · have hz : rg x = 0 := by unfold key at h0; rw [hn] at h0; simp at h0; omega
      have : m = 0 := m0.2 hz
      subst this
      have : k = 0 := by rw [← hk]; simp [Toward.cut]
      subst this
      unfold signed; simp
  simp only [hs]
  rw [if_pos ⟨by simp [IntKind.min, IntKind.signed, IntKind.bits], by simp [IntKind.max, IntKind.signed, IntKind.bits]; omega⟩]

theorem rnd_self {x z : Nat} (h : RndTo (rv x) z) (hz : z ≤ infR) (hx : x ≤ infR) : z = x := by
  have h1 := h.rnd
  rw [ab_nonneg (rv_nonneg x), rg_pos hz] at h1
  exact h1.uniq (isRnd_rv hx)
theorem rv_inj {x y : Nat} (h : rv x = rv y) : x = y := by
  rcases Nat.lt_trichotomy x y with g | g | g
  · have := rv_lt g; rw [h] at this; exact absurd this (Rat.lt_irrefl)
  · exact g
  · have := rv_lt g; rw [h] at this; exact absurd this (Rat.lt_irrefl)
end Fl

/-- A whole number as a float. -/
def I (n : Nat) : Nat := floatOfInt .f64 (n : Int)
theorem I_fin {n : Nat} (h : n ≤ 9007199254740992) : I n < Fl.infR := (Fl.ofInt_exact n h).1
theorem I_rv {n : Nat} (h : n ≤ 9007199254740992) : Fl.rv (I n) = (n : Rat) := (Fl.ofInt_exact n h).2
theorem I_le {a b : Nat} (ha : a ≤ 9007199254740992) (hb : b ≤ 9007199254740992) : I a ≤ I b ↔ a ≤ b := by
  constructor
  · intro h
    have := Fl.rv_le h
    rw [I_rv ha, I_rv hb, Rat.natCast_le_natCast] at this
    exact this
  · intro h
    rcases Nat.lt_or_ge (I b) (I a) with g | g
    · have := Fl.rv_lt g
      rw [I_rv ha, I_rv hb] at this
      have h2 : ((a : Nat) : Rat) ≤ (b : Rat) := Rat.natCast_le_natCast.2 h
      exact absurd (Fl.lt_le this h2) (Rat.lt_irrefl)
    · exact g
theorem I_lt {a b : Nat} (ha : a ≤ 9007199254740992) (hb : b ≤ 9007199254740992) : I a < I b ↔ a < b := by
  have := I_le hb ha; omega
theorem I_zero : I 0 = 0 := by decide +kernel
theorem I_min {a b : Nat} (ha : a ≤ 9007199254740992) (hb : b ≤ 9007199254740992) : min (I a) (I b) = I (min a b) := by
  have h1 := I_le ha hb
  have h2 := I_le hb ha
  rcases Nat.le_total a b with g | g
  · rw [Nat.min_eq_left g, Nat.min_eq_left (h1.2 g)]
  · rw [Nat.min_eq_right g, Nat.min_eq_right (h2.2 g)]
theorem I_add {a b : Nat} (h : a + b ≤ 9007199254740992) : Ieee.double.add (I a) (I b) = some (I (a + b)) := by
  obtain ⟨h1, h2, h3⟩ := Fl.fadd_fin (I_fin (n := a) (by omega)) (I_fin (n := b) (by omega))
  rw [I_rv (by omega), I_rv (by omega), ← Rat.natCast_add, ← I_rv h] at h3
  rw [h1, Fl.rnd_self h3 h2 (Nat.le_of_lt (I_fin h))]
theorem I_mul {a b : Nat} (ha : a ≤ 9007199254740992) (hb : b ≤ 9007199254740992) (h : a * b ≤ 9007199254740992) : Ieee.double.mul (I a) (I b) = some (I (a * b)) := by
  obtain ⟨h1, h2, h3⟩ := Fl.fmul_fin (I_fin ha) (I_fin hb)
  rw [I_rv ha, I_rv hb, ← Rat.natCast_mul, ← I_rv h] at h3
  rw [h1, Fl.rnd_self h3 h2 (Nat.le_of_lt (I_fin h))]
theorem I_sub {a b : Nat} (ha : a ≤ 9007199254740992) (h : b ≤ a) : Ieee.double.sub (I a) (I b) = some (I (a - b)) := by
  obtain ⟨h1, h2, h3⟩ := Fl.fsub_pos (I_fin ha) ((I_le (by omega) ha).2 h)
  have e : ((a : Nat) : Rat) - (b : Rat) = ((a - b : Nat) : Rat) := by
    have : (a : Nat) = (a - b) + b := by omega
    conv => lhs; rw [this, Rat.natCast_add]
    grind
  rw [I_rv ha, I_rv (by omega), e, ← I_rv (n := a - b) (by omega)] at h3
  rw [h1, Fl.rnd_self h3 (Nat.le_trans h2 (Nat.le_of_lt (I_fin ha))) (Nat.le_of_lt (I_fin (by omega)))]
theorem I_fadd {a b : Nat} (h : a + b ≤ 9007199254740992) : Fl.fadd (I a) (I b) = I (a + b) := by unfold Fl.fadd; rw [I_add h]; rfl
theorem I_fmul {a b : Nat} (ha : a ≤ 9007199254740992) (hb : b ≤ 9007199254740992) (h : a * b ≤ 9007199254740992) : Fl.fmul (I a) (I b) = I (a * b) := by unfold Fl.fmul; rw [I_mul ha hb h]; rfl
theorem I_fsub {a b : Nat} (ha : a ≤ 9007199254740992) (h : b ≤ a) : Fl.fsub (I a) (I b) = I (a - b) := by unfold Fl.fsub; rw [I_sub ha h]; rfl
theorem I_plain {a : Nat} (ha : a ≤ 9007199254740992) : plainF (I a) = I a := by
  have h := Fl.fin_lt (I_fin ha)
  unfold plainF
  rw [Fl.eq_key h.2.2 (show ¬ Fl.NaN 0 by decide), h.2.1, show Fl.key 0 = 0 by decide]
  split
  · rename_i g; simp at g; exact g.symm
  · rfl
theorem I_size {a : Nat} (ha : a ≤ 9007199254740992) : sizeF (I a) = true := by
  have h := Fl.fin_lt (I_fin ha)
  exact (sizeF_iff _).2 ⟨h.1, by rw [h.2.1]; omega⟩
theorem I_finite {a : Nat} (ha : a ≤ 9007199254740992) : finiteF (I a) = true := (finiteF_iff _).2 (Fl.fin_lt (I_fin ha)).1
theorem I_64 {a : Nat} (ha : a ≤ 9007199254740992) : I a < 18446744073709551616 := Fl.lt64 (Nat.le_of_lt (I_fin ha))

theorem div_low {x r : Rat} (a1 : ((1 : Nat) : Rat) ≤ x) (a2 : r ≤ ((65536 : Nat) : Rat)) (hr : 0 < r) : ((1 : Nat) : Rat) / ((65536 : Nat) : Rat) ≤ x / r := by
  have e : x / r * r = x := Rat.div_mul_cancel (Rat.ne_of_gt hr)
  refine Rat.not_lt.1 fun h => ?_
  have h1 := Rat.mul_lt_mul_of_pos_right h hr
  rw [e] at h1
  have h2 : ((1 : Nat) : Rat) / ((65536 : Nat) : Rat) * r ≤ ((1 : Nat) : Rat) / ((65536 : Nat) : Rat) * ((65536 : Nat) : Rat) := Rat.mul_le_mul_of_nonneg_left a2 (by decide +kernel)
  have h3 : ((1 : Nat) : Rat) / ((65536 : Nat) : Rat) * ((65536 : Nat) : Rat) = ((1 : Nat) : Rat) := by decide +kernel
  rw [h3] at h2
  exact Rat.lt_irrefl (Fl.lt_le h1 (Rat.le_trans h2 a1))
theorem div_high {x r : Rat} (a1 : x ≤ ((1023 : Nat) : Rat)) (a2 : ((1 : Nat) : Rat) ≤ r) (hr : 0 < r) : x / r ≤ ((1023 : Nat) : Rat) := by
  have e : x / r * r = x := Rat.div_mul_cancel (Rat.ne_of_gt hr)
  refine Rat.not_lt.1 fun h => ?_
  have h1 := Rat.mul_lt_mul_of_pos_right h hr
  rw [e] at h1
  have h2 : ((1023 : Nat) : Rat) * ((1 : Nat) : Rat) ≤ ((1023 : Nat) : Rat) * r := Rat.mul_le_mul_of_nonneg_left a2 (by decide +kernel)
  have h3 : ((1023 : Nat) : Rat) * ((1 : Nat) : Rat) = ((1023 : Nat) : Rat) := by decide +kernel
  rw [h3] at h2
  exact Rat.lt_irrefl (Fl.le_lt (Rat.le_trans a1 h2) h1)

def stI (r b k m : Nat) : St := ⟨I r, I b, I k, I m⟩
theorem stI_good {r b k m : Nat} (hr : r ≤ 65535) (hb : b ≤ 65535) (hk : k ≤ b) (hm : m ≤ 1000) : (stI r b k m).Good :=
  ⟨I_fin (by omega), I_fin (by omega), I_fin (by omega), Fl.fin_pos (I_fin (by omega))⟩
theorem refillI {r b k m : Nat} (hr : r ≤ 65535) (hb : b ≤ 65535) (hk : k ≤ b) (m' : Nat) (hm : m ≤ m') (hm' : m' ≤ 1000) :
    refillF (stI r b k m) (I m') = stI r b (min b (k + r * (m' - m))) m' := by
  have hmul : r * (m' - m) ≤ 65535 * 1000 := Nat.mul_le_mul hr (by omega)
  have e1 := (Fl.fin_lt (I_fin (n := m) (by omega))).2.1
  have e2 := (Fl.fin_lt (I_fin (n := m') (by omega))).2.1
  unfold refillF
  show (if Fl.key (I m') ≤ Fl.key (I m) then _ else _) = _
  rw [e1, e2]
  by_cases h : m' ≤ m
  · rw [if_pos (by have := (I_le (a := m') (b := m) (by omega) (by omega)).2 h; omega)]
    have : m' = m := by omega
    subst this
    rw [Nat.sub_self, Nat.mul_zero, Nat.add_zero, Nat.min_eq_right hk]
  · rw [if_neg (by have := (I_lt (a := m) (b := m') (by omega) (by omega)).2 (by omega); omega)]
    unfold stI
    congr 1
    show (if I r = 0 then I k else min (I b) (Fl.fadd (I k) (Fl.fmul (I r) (Fl.fsub (I m') (I m))))) = _
    rw [I_fsub (by omega) hm, I_fmul (by omega) (by omega) (by omega), I_fadd (by omega), I_min (by omega) (by omega)]
    split
    · rename_i g
      rw [← I_zero] at g
      have : r = 0 := by
        have h1 := (I_le (a := r) (b := 0) (by omega) (by omega)).1 (by omega)
        omega
      subst this
      rw [Nat.zero_mul, Nat.add_zero, Nat.min_eq_right hk]
    · rfl
/-- Taking of a bucket of whole numbers. -/
theorem takeI_ok {r b k m n : Nat} (hb : b ≤ 65535) (hk : k ≤ b) (h : n ≤ k) : takeR (stI r b k m) (I n) = (I (k - n), true, stI r b (k - n) m) := by
  unfold takeR stI
  simp only
  rw [I_plain (by omega), if_pos ((I_le (by omega) (by omega)).2 h), I_fsub (by omega) h]
theorem takeI_no {r b k m n : Nat} (hr : r ≤ 65535) (hb : b ≤ 65535) (hk : k ≤ b) (hn : n ≤ 1023) (h : k < n) :
    ∃ x, takeR (stI r b k m) (I n) = (x, false, stI r b k m) ∧ (FloatKind.f64.format.order x 0 == some .gt) = true ∧
      (FloatKind.f64.format.order x 9094988921128908188 == some .gt) = (decide (r = 0) || decide (b < n)) := by
  unfold takeR
  rw [if_neg (by show ¬ (plainF (I n) ≤ I k); rw [I_plain (by omega)]; have := (I_lt (a := k) (b := n) (by omega) (by omega)).2 h; omega)]
  have hi := Fl.infR_val
  have gt_pos : ∀ {x y : Nat}, x ≤ Fl.infR → y ≤ Fl.infR → (FloatKind.f64.format.order x y == some .gt) = decide (y < x) := by
    intro x y hx hy
    rw [Fl.gt_key (Fl.nn_pos hx) (Fl.nn_pos hy), Fl.key_pos hx, Fl.key_pos hy]; simp
  have er : (I r = 0) ↔ r = 0 := by
    have z := I_zero
    constructor
    · intro g
      have h1 := (I_le (a := r) (b := 0) (by omega) (by omega)).1 (by omega)
      omega
    · intro g; rw [g]; exact z
  have eb : I b < plainF (I n) ↔ b < n := by rw [I_plain (by omega), I_lt (by omega) (by omega)]
  by_cases hc : r = 0 ∨ b < n
  · rw [if_pos (by rcases hc with g | g; exact .inl (er.2 g); exact .inr (eb.2 g))]
    refine ⟨_, rfl, ?_, ?_⟩
    · rw [gt_pos (Nat.le_refl _) (Nat.zero_le _)]; simp; omega
    · rw [gt_pos (Nat.le_refl _) (by omega)]
      rcases hc with g | g <;> simp [g] <;> omega
  · rw [if_neg (by intro g; rcases g with g | g; exact hc (.inl (er.1 g)); exact hc (.inr (eb.1 g)))]
    refine ⟨_, rfl, ?_⟩
    show _ ∧ _
    have hr0 : r ≠ 0 := fun g => hc (.inl g)
    have e0 : Fl.fsub (I n) (stI r b k m).tok = I (n - k) := I_fsub (by omega) (by omega)
    rw [e0]
    show (FloatKind.f64.format.order (Fl.fdiv (I (n - k)) (I r)) 0 == some .gt) = true ∧ (FloatKind.f64.format.order (Fl.fdiv (I (n - k)) (I r)) 9094988921128908188 == some .gt) = _
    obtain ⟨_, d2, d3⟩ := Fl.fdiv_up (I_fin (n := n - k) (by omega)) (I_fin (n := r) (by omega)) (fun g => hr0 (er.1 g))
    have c0 : I 65536 ≠ 0 := by decide +kernel
    obtain ⟨_, f2, f3⟩ := Fl.fdiv_up (I_fin (n := 1) (by omega)) (I_fin (n := 65536) (by omega)) c0
    have fpos : 0 < Fl.fdiv (I 1) (I 65536) := by decide +kernel
    have fmax : I 1023 < 9094988921128908188 := by decide +kernel
    rw [I_rv (by omega), I_rv (by omega)] at d3 f3
    have hrp : (0 : Rat) < (r : Rat) := by have := Rat.natCast_lt_natCast.2 (show 0 < r by omega); exact this
    have low : ((1 : Nat) : Rat) / ((65536 : Nat) : Rat) ≤ ((n - k : Nat) : Rat) / (r : Rat) := by
      have a1 : ((1 : Nat) : Rat) ≤ ((n - k : Nat) : Rat) := Rat.natCast_le_natCast.2 (by omega)
      have a2 : (r : Rat) ≤ ((65536 : Nat) : Rat) := Rat.natCast_le_natCast.2 (by omega)
      exact div_low a1 a2 hrp
    have high : ((n - k : Nat) : Rat) / (r : Rat) ≤ ((1023 : Nat) : Rat) := by
      have a1 : ((n - k : Nat) : Rat) ≤ ((1023 : Nat) : Rat) := Rat.natCast_le_natCast.2 (by omega)
      have a2 : ((1 : Nat) : Rat) ≤ (r : Rat) := Rat.natCast_le_natCast.2 (by omega)
      exact div_high a1 a2 hrp
    have g1 := Fl.le_of_rnd f3 d3 f2 d2 low
    have g2 := Fl.le_of_rnd d3 (Fl.self_pos (I_fin (n := 1023) (by omega))) d2 (Nat.le_of_lt (I_fin (by omega))) (by rw [I_rv (by omega)]; exact high)
    refine ⟨?_, ?_⟩
    · rw [gt_pos d2 (Nat.zero_le _)]; simp; omega
    · rw [gt_pos d2 (by omega)]
      have : ¬ b < n := fun g => hc (.inr g)
      simp [hr0, this]; omega
end Go.Proofs.Ytmdfkljmgijdlaa
