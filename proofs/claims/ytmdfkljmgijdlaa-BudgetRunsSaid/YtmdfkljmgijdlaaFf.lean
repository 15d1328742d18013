/- Floats that are not below nought: as natural numbers (their words), in the naturals' order. -/
import Derived.Test.YtmdfkljmgijdlaaFe
namespace Go.Proofs.Ytmdfkljmgijdlaa.Fl
open Ieee

/-- 1.0 -/
def one : Nat := 4607182418800017408
def fmul (x y : Nat) : Nat := (Ieee.double.mul x y).getD 0
def fadd (x y : Nat) : Nat := (Ieee.double.add x y).getD 0
def fsub (x y : Nat) : Nat := (Ieee.double.sub x y).getD 0
def fdiv (x y : Nat) : Nat := (Ieee.double.div x y).getD 0

theorem infR_val : infR = 9218868437227405312 := rfl
theorem rg_pos {x : Nat} (h : x ≤ infR) : rg x = x := by unfold rg; exact Nat.mod_eq_of_lt (by have := infR_val; omega)
theorem neg_pos {x : Nat} (h : x ≤ infR) : neg x = false := by
  unfold neg; rw [Nat.div_eq_of_lt (by have := infR_val; omega)]; rfl
theorem fin_pos {x : Nat} (h : x < infR) : Fnt x := by unfold Fnt; rw [rg_pos (Nat.le_of_lt h)]; exact h
theorem nn_pos {x : Nat} (h : x ≤ infR) : ¬ NaN x := by unfold NaN; rw [rg_pos h]; omega
theorem key_pos {x : Nat} (h : x ≤ infR) : key x = x := by unfold key; rw [neg_pos h, rg_pos h]; rfl
theorem fv_pos {x : Nat} (h : x ≤ infR) : fv x = rv x := by rw [fv_nonneg (neg_pos h), rg_pos h]
theorem lt64 {x : Nat} (h : x ≤ infR) : x < 18446744073709551616 := by have := infR_val; omega

theorem compare_cast (x y : Nat) : compare (x : Int) (y : Int) = compare x y := by
  rw [compare_int]
  simp only [compare, compareOfLessAndEq]
  have h1 : ((x : Int) < y) ↔ x < y := by omega
  have h2 : ((x : Int) = y) ↔ x = y := by omega
  simp only [h1, h2]

theorem order_pos {x y : Nat} (hx : x ≤ infR) (hy : y ≤ infR) : Ieee.double.order x y = some (compare x y) := by
  rw [order_any (nn_pos hx) (nn_pos hy), key_pos hx, key_pos hy, compare_cast]

theorem read_inf : Ieee.double.read infR = .infinity false := by
  rw [read_eq]; decide +kernel

/-- What is rounded from above nought, and bears no sign, is its own rung. -/
theorem pos_of {v : Rat} {z : Nat} (h : RndTo v z) (hn : neg z = false) : z ≤ infR := by
  have h1 := h.lt
  have h2 := h.rnd.1
  unfold neg at hn
  unfold rg at h2
  have := infR_val
  have h3 : z / 9223372036854775808 < 2 := by omega
  have h4 : ¬ z / 9223372036854775808 = 1 := by
    intro g; rw [g] at hn; exact absurd hn (by decide)
  omega

theorem le_of_rnd {v v' : Rat} {z z' : Nat} (h : RndTo v z) (h' : RndTo v' z') (hz : z ≤ infR) (hz' : z' ≤ infR) (hv : v ≤ v') : z ≤ z' := by
  have := h.mono h' hv
  rw [key_pos hz, key_pos hz'] at this
  omega

theorem self_pos {x : Nat} (h : x < infR) : RndTo (rv x) x := by
  have := rndTo_self (fin_pos h) (lt64 (Nat.le_of_lt h))
  rwa [fv_pos (Nat.le_of_lt h)] at this

theorem rv_one : rv one = 1 := by
  unfold rv one
  obtain ⟨k, hk⟩ : ∃ k : Nat, k = 1074 := ⟨_, rfl⟩
  have h1 : Vn 4607182418800017408 = 2 ^ k := by subst hk; decide +kernel
  rw [h1, Rat.natCast_pow]
  have : unit * (2 : Rat) ^ (k : Int) = 1 := by
    unfold unit
    rw [← Rat.zpow_add two_ne, show (-1074 : Int) + (k : Int) = 0 from by omega, Rat.zpow_zero]
  rw [Rat.mul_comm]
  exact this

theorem one_lt : one < infR := by decide

/-- a product of floats not below nought -/
theorem fmul_fin {x y : Nat} (hx : x < infR) (hy : y < infR) : Ieee.double.mul x y = some (fmul x y) ∧ fmul x y ≤ infR ∧ RndTo (rv x * rv y) (fmul x y) := by
  obtain ⟨z, h1, h2, h3⟩ := mul_fin (fin_pos hx) (fin_pos hy)
  have e : fmul x y = z := by unfold fmul; rw [h1]; rfl
  rw [fv_pos (Nat.le_of_lt hx), fv_pos (Nat.le_of_lt hy)] at h2
  rw [neg_pos (Nat.le_of_lt hx), neg_pos (Nat.le_of_lt hy)] at h3
  rw [e]
  exact ⟨h1, pos_of h2 h3, h2⟩

theorem mul_inf {y : Nat} (hy : y < infR) (h0 : y ≠ 0) : Ieee.double.mul infR y = some infR := by
  obtain ⟨m, p, ey, vy, my, _⟩ := read_fin (fin_pos hy)
  rw [rg_pos (Nat.le_of_lt hy)] at my
  unfold Format.mul
  rw [read_inf, ey, neg_pos (Nat.le_of_lt hy)]
  simp only [Datum.product]
  rw [if_neg (fun g => h0 (my.1 g))]
  rfl

theorem fmul_pos {x y : Nat} (hx : x ≤ infR) (hy : y < infR) (h : x < infR ∨ y ≠ 0) : Ieee.double.mul x y = some (fmul x y) ∧ fmul x y ≤ infR := by
  rcases Nat.lt_or_eq_of_le hx with g | g
  · have := fmul_fin g hy; exact ⟨this.1, this.2.1⟩
  · subst g
    rcases h with h | h
    · exact absurd h (Nat.lt_irrefl _)
    · have := mul_inf hy h
      have e : fmul infR y = infR := by unfold fmul; rw [this]; rfl
      rw [e]; exact ⟨this, Nat.le_refl _⟩

theorem fmul_inf {y : Nat} (hy : y < infR) (h0 : y ≠ 0) : fmul infR y = infR := by unfold fmul; rw [mul_inf hy h0]; rfl

theorem fmul_le {x y : Nat} (hx : x ≤ infR) (hy : y ≤ one) (h : x < infR ∨ y ≠ 0) : fmul x y ≤ x := by
  have hy' : y < infR := Nat.lt_of_le_of_lt hy one_lt
  rcases Nat.lt_or_eq_of_le hx with g | g
  · obtain ⟨_, h2, h3⟩ := fmul_fin g hy'
    refine le_of_rnd h3 (self_pos g) h2 hx ?_
    have h4 : rv y ≤ 1 := by rw [← rv_one]; exact rv_le hy
    have := Rat.mul_le_mul_of_nonneg_left h4 (rv_nonneg x)
    rwa [Rat.mul_one] at this
  · subst g; exact (fmul_pos (Nat.le_refl _) hy' h).2

theorem fmul_ge {x y : Nat} (hx : x ≤ infR) (hy : y < infR) (h1 : one ≤ y) : x ≤ fmul x y := by
  have h0 : y ≠ 0 := by have : one = 4607182418800017408 := rfl; omega
  rcases Nat.lt_or_eq_of_le hx with g | g
  · obtain ⟨_, h2, h3⟩ := fmul_fin g hy
    refine le_of_rnd (self_pos g) h3 hx h2 ?_
    have h4 : 1 ≤ rv y := by rw [← rv_one]; exact rv_le h1
    have := Rat.mul_le_mul_of_nonneg_left h4 (rv_nonneg x)
    rwa [Rat.mul_one] at this
  · rw [g, fmul_inf hy h0]; exact Nat.le_refl _

theorem fmul_one {x : Nat} (hx : x ≤ infR) : fmul x one = x :=
  Nat.le_antisymm (fmul_le hx (Nat.le_refl _) (Or.inr (by decide))) (fmul_ge hx one_lt (Nat.le_refl _))

/-- 1 - y -/
theorem fsub_one {y : Nat} (hy : y ≤ one) : Ieee.double.sub one y = some (fsub one y) ∧ fsub one y ≤ one ∧ RndTo (1 - rv y) (fsub one y) := by
  have hy' : y < infR := Nat.lt_of_le_of_lt hy one_lt
  obtain ⟨z, h1, h2, h3⟩ := sub_fin (fin_pos one_lt) (fin_pos hy')
  have e : fsub one y = z := by unfold fsub; rw [h1]; rfl
  rw [fv_pos (Nat.le_of_lt one_lt), fv_pos (Nat.le_of_lt hy'), rv_one] at h2 h3
  have h4 : rv y ≤ 1 := by rw [← rv_one]; exact rv_le hy
  have hz := pos_of h2 (h3 (neg_pos (Nat.le_of_lt one_lt)) (by grind))
  rw [e]
  refine ⟨h1, le_of_rnd h2 (self_pos one_lt) hz (Nat.le_of_lt one_lt) ?_, h2⟩
  have := rv_nonneg y
  rw [rv_one]; grind

theorem fsub_one_zero : fsub one 0 = one := by unfold fsub; decide +kernel

/-- What is above nought and a number of the format from below is above nought. -/
theorem fsub_one_pos {y : Nat} (hy : y < one) : 0 < fsub one y := by
  obtain ⟨_, h2, h3⟩ := fsub_one (Nat.le_of_lt hy)
  have hz : fsub one y ≤ infR := Nat.le_trans h2 (Nat.le_of_lt one_lt)
  -- the midpoint of the rungs 0 and 1 lies below
  have hr := h3.rnd
  rw [rg_pos hz] at hr
  have hlt : rv y < 1 := by rw [← rv_one]; exact rv_lt hy
  rw [ab_nonneg (by grind)] at hr
  refine (hr.2 1 (Nat.le_refl _) (by decide)).2 (Or.inl ?_)
  -- rv one - rv y is at least one unit
  have h5 : rv (y + 1) ≤ 1 := by rw [← rv_one]; exact rv_le hy
  have h6 : Mid 1 = unit / 2 := by
    unfold Mid rv
    have e0 : Vn 0 = 0 := by decide +kernel
    have e1 : Vn 1 = 1 := by decide +kernel
    rw [show 1 - 1 = 0 from rfl, e0, e1]
    have : ((0 : Nat) : Rat) = 0 := rfl
    have h1 : ((1 : Nat) : Rat) = 1 := rfl
    rw [this, h1]; grind
  have h7 : rv y + unit ≤ rv (y + 1) := by
    unfold rv
    have := Vn_succ y
    have h8 : ((Vn y + 1 : Nat) : Rat) ≤ (Vn (y + 1) : Rat) := Rat.natCast_le_natCast.2 this
    have h9 := Rat.mul_le_mul_of_nonneg_right h8 (Rat.le_of_lt (show 0 < unit from zp _))
    rw [Rat.natCast_add, Rat.add_mul] at h9
    have h1 : ((1 : Nat) : Rat) = 1 := rfl
    rw [h1, Rat.one_mul] at h9
    exact h9
  have hu : 0 < unit := zp _
  rw [h6]
  grind


theorem read_notfin {x : Nat} (h : ¬ Fnt x) (hn : ¬ NaN x) : Ieee.double.read x = .infinity (neg x) := by
  have e : rg x = infR := by unfold NaN Fnt at *; omega
  rw [read_eq, if_neg (by rw [e]; decide), if_neg (by rw [e]; exact Nat.lt_irrefl _), if_pos e]

theorem mul_some {x y : Nat} (hx : ¬ NaN x) (hy : Fnt y) (h0 : rg y ≠ 0) : Ieee.double.mul x y = some (fmul x y) := by
  by_cases fx : Fnt x
  · obtain ⟨z, h1, _⟩ := mul_fin fx hy
    unfold fmul; rw [h1]; rfl
  · obtain ⟨m, p, ey, _, my, _⟩ := read_fin hy
    have : ∃ z, Ieee.double.mul x y = some z := by
      unfold Format.mul
      rw [read_notfin fx hx, ey]
      simp only [Datum.product]
      rw [if_neg (fun g => h0 (my.1 g))]
      exact ⟨_, rfl⟩
    obtain ⟨z, hz⟩ := this
    unfold fmul; rw [hz]; rfl

/-- whole numbers below 2^53 are told as they are -/
theorem ofInt_exact (n : Nat) (h : n ≤ 9007199254740992) : floatOfInt .f64 n < infR ∧ rv (floatOfInt .f64 n) = (n : Rat) := by
  have hr := ofInt (n : Int)
  have hneg : neg (floatOfInt .f64 (n : Int)) = false := by
    have : floatOfInt .f64 (n : Int) = Ieee.double.nearest (decide ((n : Int) < 0)) (n : Int).natAbs 0 := rfl
    rw [this, neg_nearest]; simp
  generalize floatOfInt .f64 (n : Int) = z at *
  have hz := pos_of hr hneg
  -- n is a number of the format
  obtain ⟨r, hr1, hr2⟩ : ∃ r, r < infR ∧ rv r = ((n : Int) : Rat) := by
    by_cases h0 : n = 0
    · subst h0; exact ⟨0, by decide, rv_zero⟩
    · -- shift up to the window of 53 bits
      have hl1 : 2 ^ n.log2 ≤ n := Nat.log2_self_le h0
      have hl2 : n < 2 ^ (n.log2 + 1) := Nat.lt_log2_self
      generalize n.log2 = L at *
      have hL : L ≤ 53 := by
        rcases Nat.lt_or_ge 53 L with g | g
        · exfalso
          have : 2 ^ 54 ≤ 2 ^ L := Nat.pow_le_pow_right (by omega) g
          have e : (2 : Nat) ^ 54 = 18014398509481984 := by decide +kernel
          omega
        · exact g
      obtain ⟨c, hc⟩ : ∃ c : Nat, c = 1074 := ⟨_, rfl⟩
      have key : ∀ (k E : Nat), k ≤ 9007199254740992 → 4503599627370496 ≤ k → k * 2 ^ E = n * 2 ^ c → E ≤ 1100 → ∃ r, r < infR ∧ rv r = ((n : Int) : Rat) := by
        intro k E hk1 hk2 hk hE
        refine ⟨E * 4503599627370496 + k, by have := infR_val; omega, ?_⟩
        unfold rv
        rw [Vn_window E k hk1 (Or.inr hk2), hk, Rat.natCast_mul, Rat.natCast_pow, Rat.mul_assoc]
        have : ((2 : Nat) : Rat) ^ c * unit = 1 := by
          unfold unit
          rw [show (((2 : Nat) : Rat) ^ c) = (2 : Rat) ^ (c : Int) from rfl, ← Rat.zpow_add two_ne, show (c : Int) + -1074 = 0 from by omega, Rat.zpow_zero]
        rw [this, Rat.mul_one]; rfl
      by_cases hL2 : L ≤ 52
      · refine key (n * 2 ^ (52 - L)) (1022 + L) ?_ ?_ ?_ (by omega)
        · have : n * 2 ^ (52 - L) ≤ 2 ^ (L + 1) * 2 ^ (52 - L) := Nat.mul_le_mul_right _ (Nat.le_of_lt hl2)
          rw [← Nat.pow_add, show L + 1 + (52 - L) = 53 from by omega] at this
          have e : (2 : Nat) ^ 53 = 9007199254740992 := by decide +kernel
          omega
        · have : 2 ^ L * 2 ^ (52 - L) ≤ n * 2 ^ (52 - L) := Nat.mul_le_mul_right _ hl1
          rw [← Nat.pow_add, show L + (52 - L) = 52 from by omega] at this
          have e : (2 : Nat) ^ 52 = 4503599627370496 := by decide +kernel
          omega
        · rw [Nat.mul_assoc, ← Nat.pow_add, show 52 - L + (1022 + L) = c from by omega]
      · -- n = 2^53
        obtain rfl : L = 53 := by omega
        have e : (2 : Nat) ^ 53 = 9007199254740992 := by decide +kernel
        obtain rfl : n = 9007199254740992 := by omega
        refine key 4503599627370496 1075 (by omega) (by omega) ?_ (by omega)
        rw [show 1075 = 1 + c from by omega, Nat.pow_add, ← Nat.mul_assoc]
  rw [← hr2] at hr
  have a := le_of_rnd hr (self_pos hr1) hz (Nat.le_of_lt hr1) Rat.le_refl
  have b := le_of_rnd (self_pos hr1) hr (Nat.le_of_lt hr1) hz Rat.le_refl
  have e : z = r := by omega
  subst e
  exact ⟨hr1, hr2⟩

end Go.Proofs.Ytmdfkljmgijdlaa.Fl
