/- The values of binary64 words as rationals; comparing is comparing of keys; each operation on finite words gives its exact value, rounded. -/
import Derived.Test.YtmdfkljmgijdlaaFb
namespace Go.Proofs.Ytmdfkljmgijdlaa.Fl
open Ieee

def neg (x : Nat) : Bool := x / 9223372036854775808 % 2 == 1
def rg (x : Nat) : Nat := x % 9223372036854775808
def Fnt (x : Nat) : Prop := rg x < infR
def NaN (x : Nat) : Prop := infR < rg x
def fv (x : Nat) : Rat := if neg x then -rv (rg x) else rv (rg x)
def key (x : Nat) : Int := if neg x then -(rg x : Int) else (rg x : Int)

instance (x : Nat) : Decidable (Fnt x) := by unfold Fnt; infer_instance
instance (x : Nat) : Decidable (NaN x) := by unfold NaN; infer_instance

theorem read_eq (x : Nat) : Ieee.double.read x =
    if rg x < 4503599627370496 then .number (neg x) (rg x) (-1074)
    else if rg x < infR then .number (neg x) (4503599627370496 + rg x % 4503599627370496) (-1074 + (rg x / 4503599627370496 - 1 : Nat))
    else if rg x = infR then .infinity (neg x) else .nan (neg x) (rg x - infR) := by
  unfold Format.read
  simp only [sw_eq, bin_eq, infR_eq, least_eq]
  rfl

theorem read_fin {x : Nat} (h : Fnt x) : ∃ m p, Ieee.double.read x = .number (neg x) m p ∧ (m : Rat) * (2 : Rat) ^ p = rv (rg x) ∧ (m = 0 ↔ rg x = 0) ∧ -1074 ≤ p ∧ m * 2 ^ (p + 1074).toNat = Vn (rg x) := by
  rw [read_eq]
  unfold Fnt at h
  by_cases h1 : rg x < 4503599627370496
  · rw [if_pos h1]
    refine ⟨_, _, rfl, ?_, Iff.rfl, by omega, ?_⟩
    · unfold rv Vn; rw [if_pos h1]; rfl
    · unfold Vn; rw [if_pos h1]; simp
  · rw [if_neg h1, if_pos h]
    have hV : Vn (rg x) = (4503599627370496 + rg x % 4503599627370496) * 2 ^ (rg x / 4503599627370496 - 1) := by unfold Vn; rw [if_neg h1]
    generalize rg x / 4503599627370496 - 1 = e at *
    refine ⟨_, _, rfl, ?_, by omega, by omega, ?_⟩
    · unfold rv
      rw [hV, Rat.natCast_mul, Rat.natCast_pow, Int.add_comm, Rat.zpow_add two_ne]
      unfold unit
      rw [Rat.zpow_natCast, Rat.mul_assoc]; rfl
    · rw [hV, show (-1074 + (e : Int) + 1074).toNat = e from by omega]

theorem rv_eq_zero {r : Nat} : rv r = 0 ↔ r = 0 := by
  constructor
  · intro h
    rcases Nat.eq_zero_or_pos r with g | g
    · exact g
    · have := rv_lt g; rw [rv_zero, h] at this; exact absurd this Rat.lt_irrefl
  · rintro rfl; exact rv_zero

/-! ### comparing -/
theorem compare_int (a b : Int) : compare a b = if a < b then .lt else if a = b then .eq else .gt := by
  simp only [compare, compareOfLessAndEq]

theorem compare_congr {a b c d : Int} (h1 : a < b ↔ c < d) (h2 : a = b ↔ c = d) : compare a b = compare c d := by
  rw [compare_int, compare_int]; simp only [h1, h2]

theorem signed_eq (s : Bool) (m u : Nat) : signed s m u = if s then -((m * 2 ^ u : Nat) : Int) else ((m * 2 ^ u : Nat) : Int) := by
  unfold signed; simp only [Nat.shiftLeft_eq]

theorem shift_cmp (A B : Int) (t : Nat) : compare (A * (2 ^ t : Nat)) (B * (2 ^ t : Nat)) = compare A B := by
  have hp : (0 : Int) < ((2 ^ t : Nat) : Int) := by exact Int.natCast_pos.2 (Nat.two_pow_pos t)
  rw [compare_int, compare_int]
  have e1 : A * ((2 ^ t : Nat) : Int) < B * ((2 ^ t : Nat) : Int) ↔ A < B := Int.mul_lt_mul_right hp
  have e2 : A * ((2 ^ t : Nat) : Int) = B * ((2 ^ t : Nat) : Int) ↔ A = B := ⟨fun h => Int.eq_of_mul_eq_mul_right (by omega) h, fun h => by rw [h]⟩
  simp only [e1, e2]

theorem key_cmp (s t : Bool) (a b : Nat) :
    compare (if s then -(Vn a : Int) else (Vn a : Int)) (if t then -(Vn b : Int) else (Vn b : Int)) = compare (if s then -(a : Int) else (a : Int)) (if t then -(b : Int) else (b : Int)) := by
  have h0 : ∀ r, Vn r = 0 ↔ r = 0 := fun r => by
    have h00 : Vn 0 = 0 := by decide +kernel
    constructor
    · intro h
      rcases Nat.eq_zero_or_pos r with g | g
      · exact g
      · have := Vn_lt g; omega
    · rintro rfl; exact h00
  have hl : ∀ r s, Vn r < Vn s ↔ r < s := fun r s => ⟨fun h => by
    rcases Nat.lt_or_ge r s with g | g
    · exact g
    · have := Vn_le g; omega, Vn_lt⟩
  have hab := hl a b
  have hba := hl b a
  have ha := h0 a
  have hb := h0 b
  cases s <;> cases t <;> simp only [if_true, if_false, Bool.false_eq_true] <;> exact compare_congr (by omega) (by omega)

theorem fit (s : Bool) (m : Nat) (p base : Int) (hb : base ≤ p) (h1 : -1074 ≤ base) (V : Nat) (hV : m * 2 ^ (p + 1074).toNat = V) :
    signed s m (p - base).toNat * ((2 ^ (base + 1074).toNat : Nat) : Int) = if s then -(V : Int) else (V : Int) := by
  rw [signed_eq]
  have e : (p + 1074).toNat = (p - base).toNat + (base + 1074).toNat := by omega
  rw [e, Nat.pow_add, ← Nat.mul_assoc] at hV
  cases s <;> simp only [if_true, if_false, Bool.false_eq_true]
  · rw [← Int.natCast_mul, hV]
  · rw [Int.neg_mul, ← Int.natCast_mul, hV]

theorem order_fin {x y : Nat} (hx : Fnt x) (hy : Fnt y) : Ieee.double.order x y = some (compare (key x) (key y)) := by
  obtain ⟨m, p, ex, _, _, h1, hm⟩ := read_fin hx
  obtain ⟨n, q, ey, _, _, h2, hn⟩ := read_fin hy
  unfold Format.order
  rw [ex, ey]
  simp only [Datum.order]
  congr 1
  have hb : -1074 ≤ min p q := by omega
  have f1 := fit (neg x) m p (min p q) (Int.min_le_left _ _) hb _ hm
  have f2 := fit (neg y) n q (min p q) (Int.min_le_right _ _) hb _ hn
  rw [← shift_cmp _ _ (min p q + 1074).toNat, f1, f2]
  unfold key
  exact key_cmp _ _ _ _

theorem order_any {x y : Nat} (hx : ¬ NaN x) (hy : ¬ NaN y) : Ieee.double.order x y = some (compare (key x) (key y)) := by
  by_cases fx : Fnt x
  · by_cases fy : Fnt y
    · exact order_fin fx fy
    · obtain ⟨m, p, ex, _⟩ := read_fin fx
      have ey : rg y = infR := by unfold NaN Fnt at *; omega
      have ry : Ieee.double.read y = .infinity (neg y) := by
        rw [read_eq, if_neg (by rw [ey]; decide), if_neg (by rw [ey]; exact Nat.lt_irrefl _), if_pos ey]
      unfold Format.order
      rw [ex, ry]
      simp only [Datum.order]
      congr 1
      rw [compare_int]; unfold key Fnt at *
      rw [ey]
      cases neg x <;> cases neg y <;> simp only [if_true, if_false, Bool.false_eq_true]
      · rw [if_pos (by omega)]
      · rw [if_neg (by unfold infR at *; omega), if_neg (by unfold infR at *; omega)]
      · rw [if_pos (by unfold infR at *; omega)]
      · rw [if_neg (by omega), if_neg (by omega)]
  · have exx : rg x = infR := by unfold NaN Fnt at *; omega
    have rx : Ieee.double.read x = .infinity (neg x) := by
      rw [read_eq, if_neg (by rw [exx]; decide), if_neg (by rw [exx]; exact Nat.lt_irrefl _), if_pos exx]
    by_cases fy : Fnt y
    · obtain ⟨m, p, ey, _⟩ := read_fin fy
      unfold Format.order
      rw [ey, rx]
      simp only [Datum.order]
      congr 1
      rw [compare_int]; unfold key Fnt at *
      rw [exx]
      cases neg x <;> cases neg y <;> simp only [if_true, if_false, Bool.false_eq_true]
      · rw [if_neg (by omega), if_neg (by omega)]
      · rw [if_neg (by unfold infR at *; omega), if_neg (by unfold infR at *; omega)]
      · rw [if_pos (by unfold infR at *; omega)]
      · rw [if_pos (by omega)]
    · have ey : rg y = infR := by unfold NaN Fnt at *; omega
      have ry : Ieee.double.read y = .infinity (neg y) := by
        rw [read_eq, if_neg (by rw [ey]; decide), if_neg (by rw [ey]; exact Nat.lt_irrefl _), if_pos ey]
      unfold Format.order
      rw [rx, ry]
      simp only [Datum.order]
      congr 1
      unfold key
      rw [exx, ey]
      cases neg x <;> cases neg y <;> decide +kernel

theorem order_nan_left {x y : Nat} (hx : NaN x) : Ieee.double.order x y = none := by
  have rx : ∃ s f, Ieee.double.read x = .nan s f := by
    unfold NaN at hx
    refine ⟨neg x, rg x - infR, ?_⟩
    rw [read_eq, if_neg (by unfold infR at hx; omega), if_neg (by omega), if_neg (by omega)]
  obtain ⟨s, f, rx⟩ := rx
  unfold Format.order; rw [rx]; rfl

theorem order_nan_right {x y : Nat} (hy : NaN y) : Ieee.double.order x y = none := by
  have ry : ∃ s f, Ieee.double.read y = .nan s f := by
    unfold NaN at hy
    refine ⟨neg y, rg y - infR, ?_⟩
    rw [read_eq, if_neg (by unfold infR at hy; omega), if_neg (by omega), if_neg (by omega)]
  obtain ⟨s, f, ry⟩ := ry
  unfold Format.order; rw [ry]
  cases Ieee.double.read x <;> rfl

end Go.Proofs.Ytmdfkljmgijdlaa.Fl
