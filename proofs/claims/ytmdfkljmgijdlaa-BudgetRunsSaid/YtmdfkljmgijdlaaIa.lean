/- What a bucket computes, on bits of floats: the numbers of a bucket are from +0 up, and finite. -/
import Derived.Test.YtmdfkljmgijdlaaHc
namespace Go.Proofs.Ytmdfkljmgijdlaa
open Go.RowKit Ieee
set_option linter.unusedVariables false

namespace Fl
/-- The comparisons of the program, by key. -/
theorem lt_key {x y : Nat} (hx : ¬ NaN x) (hy : ¬ NaN y) : (FloatKind.f64.format.order x y == some .lt) = decide (key x < key y) := by
  rw [fmt_eq, order_any hx hy, compare_int]
  by_cases h : key x < key y
  · rw [if_pos h]; simp [h]
  · rw [if_neg h]; by_cases h2 : key x = key y
    · rw [if_pos h2]; simp; omega
    · rw [if_neg h2]; simp; omega
theorem eq_key {x y : Nat} (hx : ¬ NaN x) (hy : ¬ NaN y) : (FloatKind.f64.format.order x y == some .eq) = decide (key x = key y) := by
  rw [fmt_eq, order_any hx hy, compare_int]
  by_cases h : key x < key y
  · rw [if_pos h]; simp; omega
  · rw [if_neg h]; by_cases h2 : key x = key y
    · rw [if_pos h2]; simp [h2]
    · rw [if_neg h2]; simp [h2]
theorem gt_key {x y : Nat} (hx : ¬ NaN x) (hy : ¬ NaN y) : (FloatKind.f64.format.order x y == some .gt) = decide (key y < key x) := by
  rw [fmt_eq, order_any hx hy, compare_int]
  by_cases h : key x < key y
  · rw [if_pos h]; simp; omega
  · rw [if_neg h]; by_cases h2 : key x = key y
    · rw [if_pos h2]; simp; omega
    · rw [if_neg h2]; simp; omega
theorem leq_key {x y : Nat} (hx : ¬ NaN x) (hy : ¬ NaN y) : (FloatKind.f64.format.order x y == some .lt || FloatKind.f64.format.order x y == some .eq) = decide (key x ≤ key y) := by
  rw [lt_key hx hy, eq_key hx hy]
  by_cases h : key x < key y
  · simp [h]; omega
  · by_cases h2 : key x = key y <;> simp [h2] ; omega
theorem geq_key {x y : Nat} (hx : ¬ NaN x) (hy : ¬ NaN y) : (FloatKind.f64.format.order x y == some .gt || FloatKind.f64.format.order x y == some .eq) = decide (key y ≤ key x) := by
  rw [gt_key hx hy, eq_key hx hy]
  by_cases h : key y < key x
  · simp [h]; omega
  · by_cases h2 : key x = key y <;> simp [h2] ; omega
theorem fin_nn {x : Nat} (h : Fnt x) : ¬ NaN x := by unfold NaN Fnt at *; omega
theorem fin_lt {x : Nat} (h : x < infR) : Fnt x ∧ key x = x ∧ ¬ NaN x := ⟨fin_pos h, key_pos (Nat.le_of_lt h), nn_pos (Nat.le_of_lt h)⟩

theorem rv_pos {x : Nat} (h : 0 < x) : 0 < rv x := by have := rv_lt h; rwa [rv_zero] at this

/-- The difference of two numbers, the greater less the smaller. -/
theorem fsub_up {x y : Nat} (hx : Fnt x) (hy : Fnt y) (h : key y ≤ key x) (hs : neg x = false ∨ key y < key x) : Ieee.double.sub x y = some (fsub x y) ∧ fsub x y ≤ infR ∧ RndTo (fv x - fv y) (fsub x y) := by
  obtain ⟨z, hz, hr, hn⟩ := sub_fin hx hy
  have e : fsub x y = z := by unfold fsub; rw [hz]; rfl
  rw [e]
  have hv : fv y ≤ fv x := key_le_fv.2 h
  have hv0 : (0 : Rat) ≤ fv x - fv y := by grind
  refine ⟨hz, ?_, hr⟩
  rcases hs with hs | hs
  · exact pos_of hr (hn hs hv0)
  · have hlt : fv y < fv x := key_lt_fv.2 hs
    refine pos_of hr ?_
    cases hz2 : neg z
    · rfl
    · have := hr.neg hz2
      exfalso; grind

theorem mul_inf' {x : Nat} (hx : x < infR) (h0 : x ≠ 0) : Ieee.double.mul x infR = some infR := by
  obtain ⟨m, p, ey, vy, my, _⟩ := read_fin (fin_pos hx)
  rw [rg_pos (Nat.le_of_lt hx)] at my
  unfold Format.mul
  rw [read_inf, ey, neg_pos (Nat.le_of_lt hx)]
  simp only [Datum.product]
  rw [if_neg (fun g => h0 (my.1 g))]
  rfl

theorem fmul_up {x y : Nat} (hx : x < infR) (h0 : x ≠ 0) (hy : y ≤ infR) : Ieee.double.mul x y = some (fmul x y) ∧ fmul x y ≤ infR := by
  rcases Nat.lt_or_eq_of_le hy with g | g
  · have := fmul_fin hx g; exact ⟨this.1, this.2.1⟩
  · subst g
    have := mul_inf' hx h0
    have e : fmul x infR = infR := by unfold fmul; rw [this]; rfl
    rw [e]; exact ⟨this, Nat.le_refl _⟩

theorem fadd_fin {x y : Nat} (hx : x < infR) (hy : y < infR) : Ieee.double.add x y = some (fadd x y) ∧ fadd x y ≤ infR ∧ RndTo (rv x + rv y) (fadd x y) := by
  obtain ⟨z, h1, h2, h3⟩ := add_fin (fin_pos hx) (fin_pos hy)
  have e : fadd x y = z := by unfold fadd; rw [h1]; rfl
  rw [fv_pos (Nat.le_of_lt hx), fv_pos (Nat.le_of_lt hy)] at h2 h3
  have a := rv_nonneg x
  have b := rv_nonneg y
  rw [e]
  exact ⟨h1, pos_of h2 (h3 (neg_pos (Nat.le_of_lt hx)) (by grind)), h2⟩

theorem add_inf' {x : Nat} (hx : x < infR) : Ieee.double.add x infR = some infR := by
  obtain ⟨m, p, ey, vy, my, _⟩ := read_fin (fin_pos hx)
  unfold Format.add
  rw [read_inf, ey]
  rfl

theorem fadd_up {x y : Nat} (hx : x < infR) (hy : y ≤ infR) : Ieee.double.add x y = some (fadd x y) ∧ fadd x y ≤ infR := by
  rcases Nat.lt_or_eq_of_le hy with g | g
  · have := fadd_fin hx g; exact ⟨this.1, this.2.1⟩
  · subst g
    have := add_inf' hx
    have e : fadd x infR = infR := by unfold fadd; rw [this]; rfl
    rw [e]; exact ⟨this, Nat.le_refl _⟩

theorem fsub_pos {x y : Nat} (hx : x < infR) (h : y ≤ x) : Ieee.double.sub x y = some (fsub x y) ∧ fsub x y ≤ x ∧ RndTo (rv x - rv y) (fsub x y) := by
  have hy : y < infR := Nat.lt_of_le_of_lt h hx
  obtain ⟨h1, h2, h3⟩ := fsub_up (fin_pos hx) (fin_pos hy) (by rw [key_pos (Nat.le_of_lt hx), key_pos (Nat.le_of_lt hy)]; omega) (.inl (neg_pos (Nat.le_of_lt hx)))
  rw [fv_pos (Nat.le_of_lt hx), fv_pos (Nat.le_of_lt hy)] at h3
  refine ⟨h1, le_of_rnd h3 (self_pos hx) h2 (Nat.le_of_lt hx) (by have := rv_nonneg y; grind), h3⟩

theorem fdiv_up {x y : Nat} (hx : x < infR) (hy : y < infR) (h0 : y ≠ 0) : Ieee.double.div x y = some (fdiv x y) ∧ fdiv x y ≤ infR ∧ RndTo (rv x / rv y) (fdiv x y) := by
  obtain ⟨z, h1, h2, h3⟩ := div_fin (fin_pos hx) (fin_pos hy) (by rw [rg_pos (Nat.le_of_lt hy)]; exact h0)
  have e : fdiv x y = z := by unfold fdiv; rw [h1]; rfl
  rw [fv_pos (Nat.le_of_lt hx), fv_pos (Nat.le_of_lt hy)] at h2
  rw [neg_pos (Nat.le_of_lt hx), neg_pos (Nat.le_of_lt hy)] at h3
  rw [e]
  exact ⟨h1, pos_of h2 (by rw [h3]; rfl), h2⟩
end Fl

theorem finiteF_iff (x : Nat) : finiteF x = true ↔ Fl.Fnt x := by
  have hi := Fl.infR_val
  by_cases h : Fl.NaN x
  · have h1 : finiteF x = false := by unfold finiteF; rw [fmt_eq, Fl.order_nan_left h, Fl.order_nan_left h]; rfl
    have : ¬ Fl.Fnt x := by unfold Fl.NaN Fl.Fnt at *; omega
    simp [h1, this]
  · have e1 : ¬ Fl.NaN 18442240474082181119 := by unfold Fl.NaN Fl.rg; omega
    have e2 : ¬ Fl.NaN 9218868437227405311 := by unfold Fl.NaN Fl.rg; omega
    have k1 : Fl.key 18442240474082181119 = -9218868437227405311 := by decide
    have k2 : Fl.key 9218868437227405311 = 9218868437227405311 := by decide
    have e : finiteF x = (decide (Fl.key 18442240474082181119 ≤ Fl.key x) && decide (Fl.key x ≤ Fl.key 9218868437227405311)) := by
      rw [← Fl.geq_key h e1, ← Fl.leq_key h e2]; rfl
    rw [e, k1, k2]
    have hf : Fl.Fnt x ↔ -9218868437227405311 ≤ Fl.key x ∧ Fl.key x ≤ 9218868437227405311 := by
      unfold Fl.Fnt Fl.key
      cases Fl.neg x <;> simp only [if_true, if_false, Bool.false_eq_true] <;> constructor <;> intro g <;> (try refine And.intro ?_ ?_) <;> omega
    rw [hf]; simp
theorem fin24_eq {x : Nat} (hx : x < 18446744073709551616) : fin24 x = finiteF x := by
  have h1 := fin24_iff hx
  have h2 := finiteF_iff x
  cases h3 : fin24 x <;> cases h4 : finiteF x <;> simp_all
theorem size24_eq {x : Nat} (hx : x < 18446744073709551616) : (!fin24 x || lt0 x) = !sizeF x := by
  have h1 := fin24_iff hx
  have h2 := sizeF_iff x
  by_cases hF : Fl.Fnt x
  · have hn : ¬ Fl.NaN x := by unfold Fl.Fnt Fl.NaN at *; omega
    have h3 := lt0_iff hn
    rw [h1.2 hF]
    cases h4 : lt0 x
    · have : ¬ Fl.key x < 0 := fun g => by rw [h3.2 g] at h4; cases h4
      rw [h2.2 ⟨hF, by omega⟩]; rfl
    · have := h3.1 h4
      cases h5 : sizeF x
      · rfl
      · have := h2.1 h5; omega
  · have e1 : fin24 x = false := by cases h4 : fin24 x with
      | false => rfl
      | true => exact absurd (h1.1 h4) hF
    have e2 : sizeF x = false := by cases h4 : sizeF x with
      | false => rfl
      | true => exact absurd (h2.1 h4).1 hF
    rw [e1, e2]; rfl
theorem plain_size {x : Nat} (hx : x < 18446744073709551616) (h : sizeF x = true) : plainF x < Fl.infR ∧ Fl.key x = plainF x ∧ Fl.Fnt x := by
  obtain ⟨hF, h0⟩ := (sizeF_iff x).1 h
  obtain ⟨h1, h2, h3⟩ := plainF_pos hx (Fl.fin_nn hF) h0
  exact ⟨h3 hF, by rw [← h2, Fl.key_pos h1], hF⟩
theorem plain_self {x : Nat} (h : plainF x ≠ 0) : plainF x = x := by
  unfold plainF at *
  split at h
  · exact absurd rfl h
  · rename_i h2; rw [if_neg h2]

/-- The numbers of a bucket. -/
structure St where
  rate : Nat
  burst : Nat
  tok : Nat
  now : Nat
structure St.Good (s : St) : Prop where
  rate : s.rate < Fl.infR
  burst : s.burst < Fl.infR
  tok : s.tok < Fl.infR
  now : Fl.Fnt s.now

def moreF (s : St) (t : Nat) : Nat := Fl.fmul s.rate (Fl.fsub t s.now)
def sumF (s : St) (t : Nat) : Nat := Fl.fadd s.tok (moreF s t)
def refillF (s : St) (t : Nat) : St :=
  if Fl.key t ≤ Fl.key s.now then s else ⟨s.rate, s.burst, if s.rate = 0 then s.tok else min s.burst (sumF s t), t⟩
theorem more_facts {s : St} (h : s.Good) {t : Nat} (ht : Fl.Fnt t) (hk : Fl.key s.now < Fl.key t) (h0 : s.rate ≠ 0) :
    Ieee.double.sub t s.now = some (Fl.fsub t s.now) ∧ Ieee.double.mul s.rate (Fl.fsub t s.now) = some (moreF s t) ∧ Ieee.double.add s.tok (moreF s t) = some (sumF s t) ∧ sumF s t ≤ Fl.infR := by
  obtain ⟨h1, h2, _⟩ := Fl.fsub_up ht h.now (by omega) (.inr hk)
  obtain ⟨h3, h4⟩ := Fl.fmul_up h.rate h0 h2
  obtain ⟨h5, h6⟩ := Fl.fadd_up h.tok h4
  exact ⟨h1, h3, h5, h6⟩
theorem refill_good {s : St} (h : s.Good) {t : Nat} (ht : Fl.Fnt t) : (refillF s t).Good := by
  unfold refillF
  split
  · exact h
  · refine ⟨h.rate, h.burst, ?_, ht⟩
    show (if s.rate = 0 then s.tok else min s.burst (sumF s t)) < _
    split
    · exact h.tok
    · exact Nat.lt_of_le_of_lt (Nat.min_le_left _ _) h.burst

/-- Taking: the answer, whether it was given, and the bucket behind it. -/
def takeR (r : St) (n : Nat) : Nat × Bool × St :=
  if plainF n ≤ r.tok then (Fl.fsub r.tok (plainF n), true, { r with tok := Fl.fsub r.tok (plainF n) })
  else if r.rate = 0 ∨ r.burst < plainF n then (Fl.infR, false, r)
  else (Fl.fdiv (Fl.fsub n r.tok) r.rate, false, r)
def takeF (s : St) (n t : Nat) : Nat × Bool × St := takeR (refillF s t) n
theorem takeR_good {r : St} (g : r.Good) (n : Nat) : (takeR r n).2.2.Good := by
  unfold takeR
  split
  · rename_i hle
    refine ⟨g.rate, g.burst, ?_, g.now⟩
    exact Nat.lt_of_le_of_lt (Fl.fsub_pos g.tok hle).2.1 g.tok
  · split <;> exact g
theorem take_good {s : St} (h : s.Good) (n : Nat) {t : Nat} (ht : Fl.Fnt t) : (takeF s n t).2.2.Good := takeR_good (refill_good h ht) n
theorem refill_rate (s : St) (t : Nat) : (refillF s t).rate = s.rate ∧ (refillF s t).burst = s.burst := by
  unfold refillF; split <;> exact ⟨rfl, rfl⟩
end Go.Proofs.Ytmdfkljmgijdlaa
