/- Rounding of binary64: the threshold law over rationals; monotone, exact at the numbers of the format. -/
import Derived.Laws.FloatArith
namespace Go.Proofs.Ytmdfkljmgijdlaa.Fl
open Ieee

/-- The value of rung r, in units of 2^-1074. -/
def Vn (r : Nat) : Nat := if r < 4503599627370496 then r else (4503599627370496 + r % 4503599627370496) * 2 ^ (r / 4503599627370496 - 1)

def infR : Nat := 9218868437227405312

theorem infR_eq : Ieee.double.infRung = infR := by decide +kernel
theorem sw_eq : Ieee.double.signWeight = 9223372036854775808 := by decide +kernel
theorem bin_eq : Ieee.double.binade = 4503599627370496 := by decide +kernel
theorem least_eq : Ieee.double.leastPlace = -1074 := by decide +kernel

theorem Vn_succ (r : Nat) : Vn r < Vn (r + 1) := by
  unfold Vn
  by_cases h1 : r + 1 < 4503599627370496
  · rw [if_pos (by omega), if_pos h1]; omega
  · by_cases h2 : r < 4503599627370496
    · obtain rfl : r = 4503599627370495 := by omega
      decide +kernel
    · rw [if_neg h2, if_neg h1]
      by_cases h3 : (r + 1) % 4503599627370496 = 0
      · have e1 : r % 4503599627370496 = 4503599627370495 := by omega
        have e2 : (r + 1) / 4503599627370496 = r / 4503599627370496 + 1 := by omega
        have e3 : r / 4503599627370496 ≥ 1 := by omega
        rw [h3, e1, e2]
        obtain ⟨k, hk⟩ : ∃ k, r / 4503599627370496 = k + 1 := ⟨r / 4503599627370496 - 1, by omega⟩
        rw [hk]
        simp only [Nat.add_sub_cancel, Nat.pow_succ]
        have := Nat.two_pow_pos k
        omega
      · have e1 : (r + 1) % 4503599627370496 = r % 4503599627370496 + 1 := by omega
        have e2 : (r + 1) / 4503599627370496 = r / 4503599627370496 := by omega
        rw [e1, e2]
        exact Nat.mul_lt_mul_of_pos_right (by omega) (Nat.two_pow_pos _)

theorem Vn_lt {r s : Nat} (h : r < s) : Vn r < Vn s := by
  induction s with
  | zero => omega
  | succ s ih =>
    rcases Nat.lt_succ_iff_lt_or_eq.1 h with h | rfl
    · exact Nat.lt_trans (ih h) (Vn_succ s)
    · exact Vn_succ r

theorem Vn_le {r s : Nat} (h : r ≤ s) : Vn r ≤ Vn s := by
  rcases Nat.lt_or_eq_of_le h with h | rfl
  · exact Nat.le_of_lt (Vn_lt h)
  · exact Nat.le_refl _

/-- In the window of exponent E the rungs are the multiples of 2^E. -/
theorem Vn_window (E k : Nat) (h1 : k ≤ 9007199254740992) (h2 : E = 0 ∨ 4503599627370496 ≤ k) : Vn (E * 4503599627370496 + k) = k * 2 ^ E := by
  unfold Vn
  rcases h2 with rfl | h2
  · by_cases h : k < 4503599627370496
    · rw [if_pos (by omega)]; omega
    · by_cases h3 : k < 9007199254740992
      · rw [if_neg (by omega)]
        have e1 : (0 * 4503599627370496 + k) % 4503599627370496 = k - 4503599627370496 := by omega
        have e2 : (0 * 4503599627370496 + k) / 4503599627370496 = 1 := by omega
        rw [e1, e2]; simp; omega
      · obtain rfl : k = 9007199254740992 := by omega
        decide +kernel
  · rw [if_neg (by omega)]
    by_cases h3 : k < 9007199254740992
    · have e1 : (E * 4503599627370496 + k) % 4503599627370496 = k - 4503599627370496 := by omega
      have e2 : (E * 4503599627370496 + k) / 4503599627370496 - 1 = E := by omega
      rw [e1, e2, show 4503599627370496 + (k - 4503599627370496) = k from by omega]
    · obtain rfl : k = 9007199254740992 := by omega
      have e1 : (E * 4503599627370496 + 9007199254740992) % 4503599627370496 = 0 := by omega
      have e2 : (E * 4503599627370496 + 9007199254740992) / 4503599627370496 - 1 = E + 1 := by omega
      rw [e1, e2, Nat.pow_succ]; omega

/-! ### halves -/

/-- Half-even rounding of a rational x by its threshold. -/
theorem cut_even (neg : Bool) (n d : Nat) (k : Nat) (hk : 1 ≤ k) :
    k ≤ Toward.even.cut neg n d ↔ ((2 * k - 1) * 2 ^ d < 2 * n ∨ ((2 * k - 1) * 2 ^ d = 2 * n ∧ k % 2 = 0)) := by
  unfold Toward.cut
  simp only
  -- reduce to an honest power
  have key : ∀ g : Nat, 0 < g → (k ≤ n / g + (decide (g < 2 * (n % g)) || (g == 2 * (n % g) && n / g % 2 == 1)).toNat ↔ ((2 * k - 1) * g < 2 * n ∨ ((2 * k - 1) * g = 2 * n ∧ k % 2 = 0))) := by
    intro g hg
    have hdm := Nat.div_add_mod n g
    have hml := Nat.mod_lt n hg
    generalize hq : n / g = q at *
    generalize hr : n % g = r at *
    have hn : n = g * q + r := hdm.symm
    subst hn
    obtain ⟨j, rfl⟩ : ∃ j, k = j + 1 := ⟨k - 1, by omega⟩
    have e : (2 * (j + 1) - 1) * g = 2 * (g * j) + g := by
      have : 2 * (j + 1) - 1 = 2 * j + 1 := by omega
      rw [this, Nat.add_mul, Nat.one_mul, Nat.mul_assoc, Nat.mul_comm j g]
    rw [e]
    have hb : (decide (g < 2 * r) || (g == 2 * r && q % 2 == 1)).toNat = if g < 2 * r ∨ (g = 2 * r ∧ q % 2 = 1) then 1 else 0 := by
      by_cases h1 : g < 2 * r
      · simp [h1]
      · by_cases h2 : g = 2 * r
        · by_cases h3 : q % 2 = 1
          · simp [← h2, h3]
          · simp [← h2, h3]
        · simp [h1, h2]
    rw [hb]
    rcases Nat.lt_trichotomy j q with h | h | h
    · have : g * j + g ≤ g * q := by rw [← Nat.mul_succ]; exact Nat.mul_le_mul_left _ h
      constructor
      · intro _; left; omega
      · intro _; omega
    · subst h
      split
      · rename_i hc
        constructor
        · intro _
          rcases hc with hc | hc
          · left; omega
          · right; omega
        · intro _; omega
      · rename_i hc
        constructor
        · intro h; omega
        · intro h
          exfalso; apply hc
          rcases h with h | h
          · left; omega
          · right; omega
    · have : g * q + g ≤ g * j := by rw [← Nat.mul_succ]; exact Nat.mul_le_mul_left _ h
      constructor
      · intro h2; split at h2 <;> omega
      · intro h2; exfalso; omega
  by_cases hd : d ≤ n.log2 + 2
  · rw [Nat.min_eq_left hd, Nat.shiftLeft_eq, Nat.one_mul]
    exact key _ (Nat.two_pow_pos _)
  · rw [Nat.min_eq_right (by omega), Nat.shiftLeft_eq, Nat.one_mul]
    have hn : n < 2 ^ (n.log2 + 1) := Nat.lt_log2_self
    rw [key _ (Nat.two_pow_pos _)]
    have h1 : 2 * n < 2 ^ (n.log2 + 2) := by rw [Nat.pow_succ 2 (n.log2 + 1)]; omega
    have h2 : 2 ^ (n.log2 + 2) ≤ 2 ^ d := Nat.pow_le_pow_right (by omega) (by omega)
    have h3 : 2 ^ (n.log2 + 2) ≤ (2 * k - 1) * 2 ^ (n.log2 + 2) := Nat.le_mul_of_pos_left _ (by omega)
    have h4 : 2 ^ d ≤ (2 * k - 1) * 2 ^ d := Nat.le_mul_of_pos_left _ (by omega)
    constructor
    · intro h; omega
    · intro h; omega

end Go.Proofs.Ytmdfkljmgijdlaa.Fl
namespace Go.Proofs.Ytmdfkljmgijdlaa.Fl
open Ieee

def unit : Rat := (2 : Rat) ^ (-1074 : Int)
def rv (r : Nat) : Rat := (Vn r : Rat) * unit
def Mid (k : Nat) : Rat := (rv (k - 1) + rv k) / 2
/-- r is v rounded: which midpoints lie below v. -/
def IsRnd (v : Rat) (r : Nat) : Prop := r ≤ infR ∧ ∀ k, 1 ≤ k → k ≤ infR → (k ≤ r ↔ Mid k < v ∨ (Mid k = v ∧ k % 2 = 0))

theorem two_ne : (2 : Rat) ≠ 0 := by decide
theorem two_pos : (0 : Rat) < 2 := by decide
theorem zp (i : Int) : (0 : Rat) < (2 : Rat) ^ i := Rat.zpow_pos two_pos

theorem rv_lt {r s : Nat} (h : r < s) : rv r < rv s := by
  unfold rv
  exact Rat.mul_lt_mul_of_pos_right (Rat.natCast_lt_natCast.2 (Vn_lt h)) (by unfold unit; exact zp _)
theorem rv_le {r s : Nat} (h : r ≤ s) : rv r ≤ rv s := by
  rcases Nat.lt_or_eq_of_le h with h | rfl
  · exact Rat.le_of_lt (rv_lt h)
  · exact Rat.le_refl
theorem rv_lt_iff {r s : Nat} : rv r < rv s ↔ r < s := by
  constructor
  · intro h
    rcases Nat.lt_or_ge r s with g | g
    · exact g
    · exact absurd h (Rat.not_lt.2 (rv_le g))
  · exact rv_lt
theorem rv_zero : rv 0 = 0 := by unfold rv Vn; simp [Rat.zero_mul]
theorem rv_nonneg (r : Nat) : 0 ≤ rv r := by rw [← rv_zero]; exact rv_le (Nat.zero_le _)
theorem mid_lt (k : Nat) (h : 1 ≤ k) : Mid k < rv k := by
  have := rv_lt (r := k - 1) (s := k) (by omega)
  unfold Mid; grind
theorem lt_mid (k : Nat) (h : 1 ≤ k) : rv (k - 1) < Mid k := by
  have := rv_lt (r := k - 1) (s := k) (by omega)
  unfold Mid; grind

theorem IsRnd.mono {v v' : Rat} {r r' : Nat} (h : IsRnd v r) (h' : IsRnd v' r') (hv : v ≤ v') : r ≤ r' := by
  rcases Nat.eq_zero_or_pos r with rfl | hr
  · exact Nat.zero_le _
  · refine (h'.2 r hr h.1).2 ?_
    rcases (h.2 r hr h.1).1 (Nat.le_refl _) with g | ⟨g, g2⟩
    · left; grind
    · by_cases e : v = v'
      · right; exact ⟨g.trans e, g2⟩
      · left; have := Rat.lt_of_le_of_ne hv e; grind

theorem IsRnd.uniq {v : Rat} {r r' : Nat} (h : IsRnd v r) (h' : IsRnd v r') : r = r' :=
  Nat.le_antisymm (h.mono h' Rat.le_refl) (h'.mono h Rat.le_refl)

/-- Exact at the numbers of the format. -/
theorem isRnd_rv {r : Nat} (h : r ≤ infR) : IsRnd (rv r) r := by
  refine ⟨h, fun k h1 _ => ?_⟩
  constructor
  · intro hk
    left
    have := mid_lt k h1
    have := rv_le hk
    grind
  · intro g
    rcases Nat.lt_or_ge r k with hk | hk
    · exfalso
      have a := lt_mid k h1
      have b := rv_le (r := r) (s := k - 1) (by omega)
      rcases g with g | ⟨g, _⟩ <;> grind
    · exact hk

theorem lt_le {a b c : Rat} (h : a < b) (k : b ≤ c) : a < c := by grind
theorem le_lt {a b c : Rat} (h : a ≤ b) (k : b < c) : a < c := by grind

theorem half_lem (j t : Rat) : (j * t + (j + ((1 : Nat) : Rat)) * t) / 2 = (j + j + ((1 : Nat) : Rat)) / 2 * t := by grind

theorem scale_lt (a b t D : Rat) (ht : 0 < t) (hD : 0 < D) : a / 2 * t < b / D * t ↔ a * D < 2 * b := by
  rw [Rat.mul_lt_mul_right ht, Rat.lt_div_iff hD]
  constructor <;> intro h <;> grind
theorem scale_eq (a b t D : Rat) (ht : 0 < t) (hD : 0 < D) : a / 2 * t = b / D * t ↔ a * D = 2 * b := by
  have h1 := scale_lt a b t D ht hD
  have ht0 : t ≠ 0 := Rat.ne_of_gt ht
  have hD0 : D ≠ 0 := Rat.ne_of_gt hD
  constructor
  · intro h
    have e : a / 2 = b / D := by
      have := congrArg (· / t) h
      simpa [Rat.mul_div_cancel ht0] using this
    have e2 : a / 2 * D = b := by rw [e, Rat.div_mul_cancel hD0]
    grind
  · intro h
    have e2 : b = a / 2 * D := by grind
    rw [e2, Rat.mul_div_cancel hD0]

/-- The rung of 'nearest', told apart. -/
def rung (m : Nat) (p : Int) : Nat :=
  let last := max (p + m.log2 - 52) (-1074)
  min ((last + 1074).toNat * 4503599627370496 + Toward.even.cut false (m <<< (p - last).toNat) (last - p).toNat) infR

theorem cut_neg (s : Bool) (n d : Nat) : Toward.even.cut s n d = Toward.even.cut false n d := rfl

theorem nearest_eq (s : Bool) (m : Nat) (p : Int) (h : m ≠ 0) : Ieee.double.nearest s m p = Ieee.double.word s (rung m p) := by
  unfold Format.nearest
  rw [if_neg h]
  simp only [least_eq, bin_eq, infR_eq, cut_neg s]
  rfl

theorem isRnd_rung (m : Nat) (p : Int) (h : m ≠ 0) : IsRnd ((m : Rat) * (2 : Rat) ^ p) (rung m p) := by
  have hl1 : 2 ^ m.log2 ≤ m := Nat.log2_self_le h
  have hl2 : m < 2 ^ (m.log2 + 1) := Nat.lt_log2_self
  unfold rung
  simp only
  generalize hL : m.log2 = L at *
  generalize hlast : max (p + (L : Int) - 52) (-1074) = last
  generalize ha : (p - last).toNat = a
  generalize hd : (last - p).toNat = d
  generalize hE : (last + 1074).toNat = E
  have hEl : last = (E : Int) - 1074 := by omega
  have hp : p = last + a - d := by omega
  have had : a = 0 ∨ d = 0 := by omega
  -- the window
  have hn : m <<< a = m * 2 ^ a := Nat.shiftLeft_eq _ _
  generalize hnn : m <<< a = n at *
  have hup : n < 9007199254740992 * 2 ^ d := by
    rcases had with rfl | rfl
    · have : 2 ^ (L + 1) ≤ 2 ^ (53 + d) := Nat.pow_le_pow_right (by omega) (by omega)
      rw [Nat.pow_add 2 53 d] at this
      have e : (2 : Nat) ^ 53 = 9007199254740992 := by decide +kernel
      omega
    · have e : n < 2 ^ (L + 1) * 2 ^ a := by rw [hn]; exact Nat.mul_lt_mul_of_pos_right hl2 (Nat.two_pow_pos _)
      rw [← Nat.pow_add] at e
      have : 2 ^ (L + 1 + a) ≤ 2 ^ 53 := Nat.pow_le_pow_right (by omega) (by omega)
      have e2 : (2 : Nat) ^ 53 = 9007199254740992 := by decide +kernel
      omega
  have hlo : E = 0 ∨ 4503599627370496 * 2 ^ d ≤ n := by
    by_cases hE0 : E = 0
    · exact Or.inl hE0
    · right
      have hl : last = p + L - 52 := by omega
      rcases had with rfl | rfl
      · have e : L = 52 + d := by omega
        rw [e, Nat.pow_add 2 52 d] at hl1
        have e2 : (2 : Nat) ^ 52 = 4503599627370496 := by decide +kernel
        omega
      · have e : 2 ^ L * 2 ^ a ≤ n := by rw [hn]; exact Nat.mul_le_mul_right _ hl1
        rw [← Nat.pow_add, show L + a = 52 from by omega] at e
        have e2 : (2 : Nat) ^ 52 = 4503599627370496 := by decide +kernel
        omega
  have hcut := cut_even false n d
  generalize Toward.even.cut false n d = kept at *
  have hD : 0 < 2 ^ d := Nat.two_pow_pos _
  have hkept : kept ≤ 9007199254740992 := by
    rcases Nat.lt_or_ge 9007199254740992 kept with g | g
    · exfalso
      have h1 := (hcut kept (by omega)).1 (Nat.le_refl _)
      have h2 : 18014398509481985 * 2 ^ d ≤ (2 * kept - 1) * 2 ^ d := Nat.mul_le_mul_right _ (by omega)
      generalize (2 * kept - 1) * 2 ^ d = z at *
      omega
    · exact g
  -- over the rationals
  generalize ht : (2 : Rat) ^ last = t
  have htp : 0 < t := by rw [← ht]; exact zp _
  generalize hDr : ((2 ^ d : Nat) : Rat) = D
  have hDp : 0 < D := by rw [← hDr]; exact Rat.natCast_pos.2 hD
  have hv : (m : Rat) * (2 : Rat) ^ p = (n : Rat) / D * t := by
    rw [hp, Int.sub_eq_add_neg, Rat.zpow_add two_ne, Rat.zpow_add two_ne, Rat.zpow_neg, ht, hn, ← hDr]
    rw [Rat.natCast_mul, Rat.natCast_pow, Rat.natCast_pow]
    simp only [Rat.zpow_natCast, Rat.div_def]
    simp only [Rat.natCast_ofNat]
    grind
  rw [hv]
  have hrv : ∀ k, k ≤ 9007199254740992 → (E = 0 ∨ 4503599627370496 ≤ k) → rv (E * 4503599627370496 + k) = (k : Rat) * t := by
    intro k h1 h2
    unfold rv
    rw [Vn_window E k h1 h2, Rat.natCast_mul, Rat.natCast_pow, Rat.mul_assoc, ← ht, hEl, Int.sub_eq_add_neg, Rat.zpow_add two_ne]
    unfold unit
    rfl
  have hvD : (n : Rat) / D * t * D = (n : Rat) * t := by
    rw [Rat.mul_assoc, Rat.mul_comm t D, ← Rat.mul_assoc, Rat.div_mul_cancel (Rat.ne_of_gt hDp)]
  refine And.intro (Nat.min_le_right (E * 4503599627370496 + kept) infR) ?_
  intro K hK1 hK2
  have hmin : K ≤ min (E * 4503599627370496 + kept) infR ↔ K ≤ E * 4503599627370496 + kept := Nat.le_min.trans ⟨fun h => h.1, fun h => ⟨h, hK2⟩⟩
  rw [hmin]
  by_cases hA : E ≠ 0 ∧ K ≤ E * 4503599627370496 + 4503599627370496
  · -- below the window
    have hlo' : 4503599627370496 * 2 ^ d ≤ n := hlo.resolve_left hA.1
    have hk : 4503599627370496 ≤ kept := (hcut 4503599627370496 (by omega)).2 (by left; omega)
    constructor
    · intro _
      left
      have h1 := mid_lt K hK1
      have h2 := rv_le hA.2
      rw [hrv 4503599627370496 (by omega) (Or.inr (by omega))] at h2
      have h3 : ((4503599627370496 : Nat) : Rat) * t ≤ (n : Rat) / D * t := by
        refine Rat.mul_le_mul_of_nonneg_right ?_ (Rat.le_of_lt htp)
        refine Rat.le_of_mul_le_mul_right (c := D) ?_ hDp
        rw [Rat.div_mul_cancel (Rat.ne_of_gt hDp), ← hDr, ← Rat.natCast_mul]
        exact Rat.natCast_le_natCast.2 hlo'
      exact lt_le h1 (Rat.le_trans h2 h3)
    · intro _; omega
  · by_cases hC : E * 4503599627370496 + 9007199254740992 < K
    · -- above the window
      constructor
      · intro _; omega
      · intro g
        exfalso
        have h1 := lt_mid K hK1
        have h2 := rv_le (r := E * 4503599627370496 + 9007199254740992) (s := K - 1) (by omega)
        rw [hrv 9007199254740992 (by omega) (Or.inr (by omega))] at h2
        have h3 : (n : Rat) / D * t ≤ ((9007199254740992 : Nat) : Rat) * t := by
          refine Rat.mul_le_mul_of_nonneg_right ?_ (Rat.le_of_lt htp)
          refine Rat.le_of_mul_le_mul_right (c := D) ?_ hDp
          rw [Rat.div_mul_cancel (Rat.ne_of_gt hDp), ← hDr, ← Rat.natCast_mul]
          exact Rat.natCast_le_natCast.2 (Nat.le_of_lt hup)
        have h4 := le_lt (Rat.le_trans h3 h2) h1
        rcases g with g | ⟨g, _⟩
        · exact Rat.lt_irrefl (lt_le h4 (Rat.le_of_lt g))
        · rw [g] at h4; exact Rat.lt_irrefl h4
    · -- within
      obtain ⟨k, rfl⟩ : ∃ k, K = E * 4503599627370496 + k := ⟨K - E * 4503599627370496, by omega⟩
      have hk1 : 1 ≤ k := by omega
      have hk2 : k ≤ 9007199254740992 := by omega
      have hk3 : E = 0 ∨ 4503599627370496 ≤ k - 1 := by omega
      have hmid : Mid (E * 4503599627370496 + k) = ((2 * k - 1 : Nat) : Rat) / 2 * t := by
        unfold Mid
        rw [show E * 4503599627370496 + k - 1 = E * 4503599627370496 + (k - 1) from by omega, hrv (k - 1) (by omega) hk3, hrv k hk2 (by omega)]
        obtain ⟨j, rfl⟩ : ∃ j, k = j + 1 := ⟨k - 1, by omega⟩
        rw [show 2 * (j + 1) - 1 = j + j + 1 from by omega, Nat.add_sub_cancel]
        simp only [Rat.natCast_add]
        exact half_lem _ _
      have hpar : (E * 4503599627370496 + k) % 2 = k % 2 := by omega
      rw [hmid, hpar, scale_lt _ _ _ _ htp hDp, scale_eq _ _ _ _ htp hDp]
      rw [show (E * 4503599627370496 + k ≤ E * 4503599627370496 + kept) ↔ k ≤ kept from by omega, hcut k hk1]
      rw [← hDr, ← Rat.natCast_mul, show (2 : Rat) * (n : Rat) = ((2 * n : Nat) : Rat) from by rw [Rat.natCast_mul]; rfl, Rat.natCast_lt_natCast, Rat.natCast_inj]

end Go.Proofs.Ytmdfkljmgijdlaa.Fl
