/- The waits of a plan, as plain functions of its numbers; what holds of them. -/
import Derived.Test.YtmdfkljmgijdlaaGc
namespace Go.Proofs.Ytmdfkljmgijdlaa
open Go.RowKit Fl

def bAt (f g : Nat) : Nat → Nat | 0 => plainF f | k + 1 => fmul (bAt f g k) (plainF g)
def partF (j : Nat) (s i : Int) : Nat := fmul (plainF j) (drawF s i)
def dF (j : Nat) (s i : Int) : Nat := fsub one (partF j s i)
def capF (f g c k : Nat) : Nat := minF (bAt f g k) (plainF c)
/-- the (k+1)-th wait -/
def waitK (f g c j : Nat) (s : Int) (k : Nat) : Nat := fmul (capF f g c k) (dF j s ((k : Int) + 1))
def waitsL (f g c j : Nat) (s : Int) (n : Nat) : List Nat := (List.range n).map (waitK f g c j s)

theorem waitsL_succ (f g c j : Nat) (s : Int) (n : Nat) : waitsL f g c j s (n + 1) = waitsL f g c j s n ++ [waitK f g c j s n] := by
  unfold waitsL; rw [List.range_succ, List.map_append]; rfl
theorem waitsL_len (f g c j : Nat) (s : Int) (n : Nat) : (waitsL f g c j s n).length = n := by unfold waitsL; simp

theorem fmt_eq : FloatKind.f64.format = Ieee.double := rfl

theorem nan_order {x y : Nat} (h : NaN x) : Ieee.double.order x y = none := order_nan_left h

theorem ge0_iff (x : Nat) : ge0 x = true ↔ ¬ NaN x ∧ 0 ≤ key x := by
  unfold ge0
  rw [fmt_eq]
  by_cases h : NaN x
  · rw [nan_order h]; simp [h]
  · rw [order_any h (nn_pos (Nat.zero_le _)), key_pos (Nat.zero_le _), compare_int]
    simp only [h, not_false_eq_true, true_and]
    by_cases h1 : key x < (0 : Nat)
    · rw [if_pos h1]; simp; omega
    · rw [if_neg h1]
      by_cases h2 : key x = (0 : Nat)
      · rw [if_pos h2]; simp; omega
      · rw [if_neg h2]; simp; omega

theorem sizeF_iff (x : Nat) : sizeF x = true ↔ Fnt x ∧ 0 ≤ key x := by
  have e : sizeF x = (ge0 x && (Ieee.double.order x 9218868437227405311 == some .lt || Ieee.double.order x 9218868437227405311 == some .eq)) := rfl
  rw [e, Bool.and_eq_true, ge0_iff]
  have hm : (9218868437227405311 : Nat) ≤ infR := by decide
  by_cases h : NaN x
  · have : ¬ Fnt x := by unfold NaN Fnt at *; omega
    simp [h, this]
  · rw [order_any h (nn_pos hm), key_pos hm, compare_int]
    have hi := infR_val
    have hf : Fnt x ↔ -(infR : Int) < key x ∧ key x < (infR : Int) := by
      unfold Fnt key
      cases neg x <;> simp only [if_true, if_false, Bool.false_eq_true] <;> constructor <;> intro g <;> (try refine And.intro ?_ ?_) <;> omega
    rw [hf]
    simp only [h, not_false_eq_true, true_and]
    by_cases h1 : key x < (9218868437227405311 : Nat)
    · rw [if_pos h1]; simp; omega
    · rw [if_neg h1]
      by_cases h2 : key x = (9218868437227405311 : Nat)
      · rw [if_pos h2]; simp; omega
      · rw [if_neg h2]; simp; omega

/-- a float not below nought, its sign struck -/
theorem plainF_pos {x : Nat} (hx : x < 18446744073709551616) (h : ¬ NaN x) (h0 : 0 ≤ key x) : plainF x ≤ infR ∧ key (plainF x) = key x ∧ (Fnt x → plainF x < infR) := by
  unfold plainF
  rw [fmt_eq, order_any h (nn_pos (Nat.zero_le _)), key_pos (Nat.zero_le _), compare_int]
  by_cases h1 : key x < (0 : Nat)
  · omega
  · rw [if_neg h1]
    by_cases h2 : key x = (0 : Nat)
    · rw [if_pos h2]
      simp only [beq_self_eq_true, if_true]
      exact ⟨Nat.zero_le _, by rw [key_pos (Nat.zero_le _)]; exact h2.symm, fun _ => by decide⟩
    · rw [if_neg h2]
      have : ((some Ordering.gt == some Ordering.eq) = true) = False := by decide
      simp only [this, if_false]
      -- no sign
      have hn : neg x = false := by
        cases hn : neg x
        · rfl
        · unfold key at *; rw [hn] at h0 h1 h2; simp only [if_true] at *; omega
      have hx2 : x = rg x := by
        unfold neg rg at *
        have : x / 9223372036854775808 < 2 := by omega
        have h4 : ¬ x / 9223372036854775808 = 1 := by intro g; rw [g] at hn; exact absurd hn (by decide)
        omega
      unfold NaN Fnt at *
      exact ⟨by omega, trivial, fun g => by omega⟩

theorem plainF_le {x y : Nat} (hx : x < 18446744073709551616) (h : ¬ NaN x) (h0 : 0 ≤ key x) (h1 : key x ≤ key y) (hy : y ≤ infR) : plainF x ≤ y := by
  obtain ⟨a, b, _⟩ := plainF_pos hx h h0
  rw [key_pos a] at b
  rw [key_pos hy] at h1
  omega

/-- the lesser of two floats not below nought -/
theorem minF_pos {x y : Nat} (hx : x ≤ infR) (hy : y ≤ infR) : minF x y = min x y := by
  have rd : ∀ z, z ≤ infR → (Ieee.double.read z == .infinity true) = false ∧ (Ieee.double.read z).isNaN = false ∧ (Ieee.double.read z).isZero = decide (z = 0) ∧ (Ieee.double.read z).neg = false := by
    intro z hz
    rcases Nat.lt_or_eq_of_le hz with g | g
    · obtain ⟨m, p, e, _, h0, _⟩ := read_fin (fin_pos g)
      rw [rg_pos hz] at h0
      rw [e, neg_pos hz]
      refine ⟨rfl, rfl, ?_, rfl⟩
      by_cases hm : m = 0
      · rw [decide_eq_true (h0.1 hm)]; subst hm; rfl
      · rw [decide_eq_false (fun g => hm (h0.2 g))]
        cases m with
        | zero => exact absurd rfl hm
        | succ m => rfl
    · subst g; rw [read_inf]; exact ⟨by decide, rfl, by decide, rfl⟩
  obtain ⟨a1, a2, a3, a4⟩ := rd x hx
  obtain ⟨b1, b2, b3, _⟩ := rd y hy
  have ho := order_pos hx hy
  unfold Ieee.Format.order at ho
  have dec : ∀ z, FloatKind.f64.decode z = Ieee.double.read z := fun _ => rfl
  unfold minF
  simp only [dec, a1, a2, a3, a4, b1, b2, b3, ho, Bool.or_self, Bool.false_eq_true, if_false]
  by_cases h0 : x = 0 ∧ y = 0
  · obtain ⟨rfl, rfl⟩ := h0; rfl
  · have : (decide (x = 0) && decide (y = 0)) = false := by
      rw [Bool.and_eq_false_iff, decide_eq_false_iff_not, decide_eq_false_iff_not]; omega
    rw [this]
    simp only [Bool.false_eq_true, if_false]
    have hc : (some (compare x y) == some Ordering.lt) = decide (x < y) := by
      by_cases h1 : x < y
      · rw [Nat.compare_eq_lt.2 h1, decide_eq_true h1]; rfl
      · rw [decide_eq_false h1]
        cases hc : compare x y
        · exact absurd (Nat.compare_eq_lt.1 hc) h1
        · rfl
        · rfl
    rw [hc]
    by_cases h1 : x < y
    · rw [decide_eq_true h1, if_pos rfl]; omega
    · rw [decide_eq_false h1, if_neg (by decide)]; omega

/-- A plan that may be. -/
structure Plan (t : Int) (f g c d j n : Nat) : Prop where
  t1 : 1 ≤ t
  t2 : t ≤ 100
  f0 : Fnt f ∧ 0 ≤ key f
  g0 : Fnt g ∧ 0 ≤ key g
  c0 : ¬ NaN c ∧ 0 ≤ key c
  d0 : ¬ NaN d ∧ 0 ≤ key d
  j0 : ¬ NaN j ∧ 0 ≤ key j
  j1 : key j ≤ one
  n0 : n ≤ 64

theorem le1_iff {x : Nat} (h : ¬ NaN x) : le1 x = true ↔ key x ≤ one := by
  unfold le1
  rw [fmt_eq]
  have ho : (4607182418800017408 : Nat) ≤ infR := by decide
  rw [order_any h (nn_pos ho), key_pos ho, compare_int]
  have : one = 4607182418800017408 := rfl
  by_cases h1 : key x < (4607182418800017408 : Nat)
  · rw [if_pos h1]; simp; omega
  · rw [if_neg h1]
    by_cases h2 : key x = (4607182418800017408 : Nat)
    · rw [if_pos h2]; simp; omega
    · rw [if_neg h2]; simp; omega

theorem plan_of {t : Int} {f g c d j n : Nat} (h : badPlan t f g c d j n = false) : Plan t f g c d j n := by
  unfold badPlan at h
  simp only [Bool.or_eq_false_iff, decide_eq_false_iff_not, Bool.not_eq_false', Bool.and_eq_true] at h
  obtain ⟨⟨⟨⟨⟨⟨⟨h1, h2⟩, h3⟩, h4⟩, h5⟩, h6⟩, h7, h8⟩, h9⟩ := h
  have j0 := (ge0_iff j).1 h7
  exact ⟨by omega, by omega, (sizeF_iff f).1 h3, (sizeF_iff g).1 h4, (ge0_iff c).1 h5, (ge0_iff d).1 h6, j0, (le1_iff j0.1).1 h8, by omega⟩


section
variable {t : Int} {f g c d j n : Nat} {s : Int}

theorem fmul_zero {x : Nat} (hx : x < infR) : fmul x 0 = 0 := by
  obtain ⟨_, h2, h3⟩ := fmul_fin hx (show 0 < infR by decide)
  have h4 : rv x * rv 0 = rv 0 := by rw [rv_zero, Rat.mul_zero]
  rw [h4] at h3
  have := le_of_rnd h3 (self_pos (show 0 < infR by decide)) h2 (Nat.zero_le _) Rat.le_refl
  omega

theorem zero_fmul {x : Nat} (hx : x < infR) : fmul 0 x = 0 := by
  obtain ⟨_, h2, h3⟩ := fmul_fin (show 0 < infR by decide) hx
  have h4 : rv 0 * rv x = rv 0 := by rw [rv_zero, Rat.zero_mul]
  rw [h4] at h3
  have := le_of_rnd h3 (self_pos (show 0 < infR by decide)) h2 (Nat.zero_le _) Rat.le_refl
  omega

theorem fmul_le' {x y : Nat} (hx : x ≤ one) (hy : y < infR) : fmul x y ≤ y := by
  have hx' : x < infR := Nat.lt_of_le_of_lt hx one_lt
  obtain ⟨_, h2, h3⟩ := fmul_fin hx' hy
  refine le_of_rnd h3 (self_pos hy) h2 (Nat.le_of_lt hy) ?_
  have h4 : rv x ≤ 1 := by rw [← rv_one]; exact rv_le hx
  have := Rat.mul_le_mul_of_nonneg_right h4 (rv_nonneg y)
  rwa [Rat.one_mul] at this

theorem Plan.pf (hp : Plan t f g c d j n) (hw : f < 18446744073709551616) : plainF f < infR := (plainF_pos hw (fun h => by have := hp.f0.1; unfold Fnt NaN at *; omega) hp.f0.2).2.2 hp.f0.1
theorem Plan.pg (hp : Plan t f g c d j n) (hw : g < 18446744073709551616) : plainF g < infR := (plainF_pos hw (fun h => by have := hp.g0.1; unfold Fnt NaN at *; omega) hp.g0.2).2.2 hp.g0.1
theorem Plan.pc (hp : Plan t f g c d j n) (hw : c < 18446744073709551616) : plainF c ≤ infR := (plainF_pos hw hp.c0.1 hp.c0.2).1
theorem Plan.pj (hp : Plan t f g c d j n) (hw : j < 18446744073709551616) : plainF j ≤ one := plainF_le hw hp.j0.1 hp.j0.2 (by rw [key_pos (Nat.le_of_lt one_lt)]; exact hp.j1) (Nat.le_of_lt one_lt)

theorem bAt_any (hf : plainF f < infR) (hg : plainF g < infR) (k : Nat) : bAt f g k ≤ infR ∧ (bAt f g k < infR ∨ plainF g ≠ 0) := by
  induction k with
  | zero => exact ⟨Nat.le_of_lt hf, Or.inl hf⟩
  | succ k ih =>
    have h := fmul_pos ih.1 hg ih.2
    refine ⟨h.2, ?_⟩
    by_cases h0 : plainF g = 0
    · left
      have : bAt f g k < infR := ih.2.resolve_right (fun g => g h0)
      show fmul (bAt f g k) (plainF g) < infR
      rw [h0, fmul_zero this]; decide
    · exact Or.inr h0
theorem bAt_mul (hf : plainF f < infR) (hg : plainF g < infR) (k : Nat) : Ieee.double.mul (bAt f g k) (plainF g) = some (bAt f g (k + 1)) :=
  (fmul_pos (bAt_any hf hg k).1 hg (bAt_any hf hg k).2).1

theorem capF_eq (hf : plainF f < infR) (hg : plainF g < infR) (hc : plainF c ≤ infR) (k : Nat) : capF f g c k = min (bAt f g k) (plainF c) := minF_pos (bAt_any hf hg k).1 hc

theorem partF_any (hj : plainF j ≤ one) (i : Int) : Ieee.double.mul (plainF j) (drawF s i) = some (partF j s i) ∧ partF j s i < one := by
  have hd := drawF_lt s i
  have hd' : drawF s i < infR := Nat.lt_trans hd one_lt
  refine ⟨(fmul_fin (Nat.lt_of_le_of_lt hj one_lt) hd').1, Nat.lt_of_le_of_lt (fmul_le' hj hd') hd⟩
theorem dF_any (hj : plainF j ≤ one) (i : Int) : Ieee.double.sub 4607182418800017408 (partF j s i) = some (dF j s i) ∧ 0 < dF j s i ∧ dF j s i ≤ one := by
  have hp := (partF_any (s := s) hj i).2
  exact ⟨(fsub_one (Nat.le_of_lt hp)).1, fsub_one_pos hp, (fsub_one (Nat.le_of_lt hp)).2.1⟩
theorem waitK_any (hf : plainF f < infR) (hg : plainF g < infR) (hc : plainF c ≤ infR) (hj : plainF j ≤ one) (k : Nat) :
    Ieee.double.mul (capF f g c k) (dF j s ((k : Int) + 1)) = some (waitK f g c j s k) ∧ waitK f g c j s k ≤ capF f g c k ∧ capF f g c k ≤ plainF c := by
  obtain ⟨_, h1, h2⟩ := dF_any (s := s) hj ((k : Int) + 1)
  have hcap := capF_eq hf hg hc k
  have hle : capF f g c k ≤ infR := by rw [hcap]; exact Nat.le_trans (Nat.min_le_right _ _) hc
  refine ⟨(fmul_pos hle (Nat.lt_of_le_of_lt h2 one_lt) (Or.inr (by omega))).1, fmul_le hle h2 (Or.inr (by omega)), by rw [hcap]; exact Nat.min_le_right _ _⟩

/-- without jitter -/
theorem waitK_calm (hf : plainF f < infR) (hg : plainF g < infR) (hc : plainF c ≤ infR) (hj : plainF j = 0) (k : Nat) : waitK f g c j s k = capF f g c k := by
  have hd' : drawF s ((k : Int) + 1) < infR := Nat.lt_trans (drawF_lt s _) one_lt
  have h1 : partF j s ((k : Int) + 1) = 0 := by unfold partF; rw [hj]; exact zero_fmul hd'
  have h2 : dF j s ((k : Int) + 1) = one := by unfold dF; rw [h1]; exact fsub_one_zero
  have hle : capF f g c k ≤ infR := by rw [capF_eq hf hg hc]; exact Nat.le_trans (Nat.min_le_right _ _) hc
  unfold waitK; rw [h2]; exact fmul_one hle

theorem capF_rise (hf : plainF f < infR) (hg : plainF g < infR) (hc : plainF c ≤ infR) (h1 : one ≤ plainF g) (k : Nat) : capF f g c k ≤ capF f g c (k + 1) := by
  rw [capF_eq hf hg hc, capF_eq hf hg hc]
  have : bAt f g k ≤ bAt f g (k + 1) := fmul_ge (bAt_any hf hg k).1 hg h1
  omega
end

end Go.Proofs.Ytmdfkljmgijdlaa
