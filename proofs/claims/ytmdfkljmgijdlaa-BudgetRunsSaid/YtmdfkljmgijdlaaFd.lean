/- The operations of binary64 on finite words: the result is the exact value, rounded. -/
import Derived.Test.YtmdfkljmgijdlaaFc
namespace Go.Proofs.Ytmdfkljmgijdlaa.Fl
open Ieee

def ab (v : Rat) : Rat := if v < 0 then -v else v
/-- z is v rounded. -/
structure RndTo (v : Rat) (z : Nat) : Prop where
  lt : z < 18446744073709551616
  rnd : IsRnd (ab v) (rg z)
  pos : neg z = false → 0 ≤ v
  neg : neg z = true → v ≤ 0

theorem ab_nonneg {v : Rat} (h : 0 ≤ v) : ab v = v := by unfold ab; rw [if_neg (Rat.not_lt.2 h)]
theorem ab_nonpos {v : Rat} (h : v ≤ 0) : ab v = -v := by
  unfold ab
  split
  · rfl
  · have : v = 0 := by grind
    rw [this]; rfl

theorem RndTo.notNaN {v : Rat} {z : Nat} (h : RndTo v z) : ¬ NaN z := by unfold NaN; have := h.rnd.1; omega

theorem isRnd_zero {r : Nat} (h : IsRnd 0 r) : r = 0 := by
  have := isRnd_rv (r := 0) (by decide)
  rw [rv_zero] at this
  exact h.uniq this

theorem RndTo.mono {v v' : Rat} {z z' : Nat} (h : RndTo v z) (h' : RndTo v' z') (hv : v ≤ v') : key z ≤ key z' := by
  unfold key
  cases hz : Fl.neg z <;> cases hz' : Fl.neg z' <;> simp only [if_true, if_false, Bool.false_eq_true]
  · have a := h.rnd; have b := h'.rnd
    rw [ab_nonneg (h.pos hz)] at a
    rw [ab_nonneg (h'.pos hz')] at b
    have := a.mono b hv
    omega
  · have h1 := h.pos hz; have h2 := h'.neg hz'
    have e1 : v = 0 := by grind
    have e2 : v' = 0 := by grind
    have a := h.rnd; have b := h'.rnd
    rw [e1, ab_nonneg Rat.le_refl] at a
    rw [e2, ab_nonneg Rat.le_refl] at b
    rw [isRnd_zero a, isRnd_zero b]; decide
  · omega
  · have a := h.rnd; have b := h'.rnd
    rw [ab_nonpos (h.neg hz)] at a
    rw [ab_nonpos (h'.neg hz')] at b
    have := b.mono a (Rat.neg_le_neg hv)
    omega

theorem fv_nonneg {x : Nat} (h : neg x = false) : fv x = rv (rg x) := by unfold fv; simp [h]
theorem fv_neg {x : Nat} (h : neg x = true) : fv x = -rv (rg x) := by unfold fv; simp [h]

theorem rndTo_self {x : Nat} (h : Fnt x) (hx : x < 18446744073709551616) : RndTo (fv x) x := by
  have hr := isRnd_rv (r := rg x) (Nat.le_of_lt h)
  refine ⟨hx, ?_, ?_, ?_⟩
  · cases hn : Fl.neg x
    · rw [fv_nonneg hn, ab_nonneg (rv_nonneg _)]; exact hr
    · rw [fv_neg hn, ab_nonpos (by have := rv_nonneg (rg x); grind), Rat.neg_neg]; exact hr
  · intro hn; rw [fv_nonneg hn]; exact rv_nonneg _
  · intro hn; rw [fv_neg hn]; have := rv_nonneg (rg x); grind

theorem key_le_fv {x y : Nat} : fv x ≤ fv y ↔ key x ≤ key y := by
  have hl : ∀ a b, rv a ≤ rv b ↔ a ≤ b := fun a b => ⟨fun h => by
    rcases Nat.lt_or_ge b a with g | g
    · exact absurd (lt_le (rv_lt g) h) Rat.lt_irrefl
    · exact g, rv_le⟩
  have ha := rv_nonneg (rg x)
  have hb := rv_nonneg (rg y)
  have h1 := hl (rg x) (rg y)
  have h2 := hl (rg y) (rg x)
  have za := rv_eq_zero (r := rg x)
  have zb := rv_eq_zero (r := rg y)
  unfold fv key
  cases neg x <;> cases neg y <;> simp only [if_true, if_false, Bool.false_eq_true]
  · rw [h1]; omega
  · constructor
    · intro h
      have e1 : rv (rg x) = 0 := by grind
      have e2 : rv (rg y) = 0 := by grind
      rw [za.1 e1, zb.1 e2]; decide
    · intro h
      have e1 : rg x = 0 := by omega
      have e2 : rg y = 0 := by omega
      rw [za.2 e1, zb.2 e2]; decide
  · constructor
    · intro _; omega
    · intro _; grind
  · rw [Rat.neg_le_neg_iff, h2]; omega

theorem key_lt_fv {x y : Nat} : fv x < fv y ↔ key x < key y := by
  rw [← Rat.not_le, key_le_fv]; omega
theorem key_eq_fv {x y : Nat} : fv x = fv y ↔ key x = key y := by
  have a := key_le_fv (x := x) (y := y)
  have b := key_le_fv (x := y) (y := x)
  constructor
  · intro h
    have := a.1 (by rw [h]; exact Rat.le_refl)
    have := b.1 (by rw [h]; exact Rat.le_refl)
    omega
  · intro h
    exact Rat.le_antisymm (a.2 (by omega)) (b.2 (by omega))

/-- Between finite numbers the result is one. -/
theorem RndTo.fin {v : Rat} {z : Nat} (h : RndTo v z) {x y : Nat} (hx : Fnt x) (hx2 : x < 18446744073709551616) (hy : Fnt y) (hy2 : y < 18446744073709551616) (h1 : fv x ≤ v) (h2 : v ≤ fv y) : Fnt z := by
  have a := (rndTo_self hx hx2).mono h h1
  have b := h.mono (rndTo_self hy hy2) h2
  unfold key Fnt at *
  revert a b
  cases Fl.neg x <;> cases Fl.neg y <;> cases Fl.neg z <;> simp only [if_true, if_false, Bool.false_eq_true] <;> intro a b <;> omega

/-- What is a number of the format is told as it is. -/
theorem RndTo.exact {z x : Nat} (h : RndTo (fv x) z) (hx : Fnt x) (hx2 : x < 18446744073709551616) : fv z = fv x ∧ Fnt z :=
  ⟨key_eq_fv.2 (Int.le_antisymm (h.mono (rndTo_self hx hx2) Rat.le_refl) ((rndTo_self hx hx2).mono h Rat.le_refl)), h.fin hx hx2 hx hx2 Rat.le_refl Rat.le_refl⟩

/-! ### writing -/
theorem rg_word (s : Bool) {r : Nat} (h : r ≤ infR) : rg (Ieee.double.word s r) = r ∧ neg (Ieee.double.word s r) = s ∧ Ieee.double.word s r < 18446744073709551616 := by
  unfold Format.word rg neg
  rw [sw_eq]
  have : infR = 9218868437227405312 := rfl
  cases s
  · simp only [if_false, Bool.false_eq_true]
    refine ⟨Nat.mod_eq_of_lt (by omega), ?_, by omega⟩
    rw [show r / 9223372036854775808 = 0 from by omega]; rfl
  · simp only [if_true]
    refine ⟨by omega, ?_, by omega⟩
    rw [show (9223372036854775808 + r) / 9223372036854775808 = 1 from by omega]; rfl

theorem rndTo_nearest (s : Bool) (m : Nat) (p : Int) : RndTo (if s then -((m : Rat) * (2 : Rat) ^ p) else (m : Rat) * (2 : Rat) ^ p) (Ieee.double.nearest s m p) := by
  have hnn : (0 : Rat) ≤ (m : Rat) * (2 : Rat) ^ p := Rat.mul_nonneg Rat.natCast_nonneg (Rat.le_of_lt (zp p))
  by_cases hm : m = 0
  · subst hm
    have e : Ieee.double.nearest s 0 p = Ieee.double.word s 0 := by unfold Format.nearest; rw [if_pos rfl]
    rw [e]
    obtain ⟨h1, h2, h3⟩ := rg_word s (r := 0) (by decide)
    have hz : (((0 : Nat) : Rat) * (2 : Rat) ^ p) = 0 := by rw [show ((0 : Nat) : Rat) = 0 from rfl, Rat.zero_mul]
    have hh : (if s then -(((0 : Nat) : Rat) * (2 : Rat) ^ p) else ((0 : Nat) : Rat) * (2 : Rat) ^ p) = 0 := by rw [hz]; cases s <;> rfl
    rw [hh]
    refine ⟨h3, ?_, fun _ => Rat.le_refl, fun _ => Rat.le_refl⟩
    rw [h1, ab_nonneg Rat.le_refl, ← rv_zero]
    exact isRnd_rv (by decide)
  · rw [nearest_eq s m p hm]
    have hr := isRnd_rung m p hm
    obtain ⟨h1, h2, h3⟩ := rg_word s hr.1
    refine ⟨h3, ?_, ?_, ?_⟩
    · rw [h1]
      cases s
      · simp only [if_false, Bool.false_eq_true]; rw [ab_nonneg hnn]; exact hr
      · simp only [if_true]; rw [ab_nonpos (by grind), Rat.neg_neg]; exact hr
    · rw [h2]; rintro rfl; simp only [if_false, Bool.false_eq_true]; exact hnn
    · rw [h2]; rintro rfl; simp only [if_true]; grind

theorem neg_nearest (s : Bool) (m : Nat) (p : Int) : neg (Ieee.double.nearest s m p) = s := by
  unfold Format.nearest
  split
  · exact (rg_word _ (by decide)).2.1
  · exact (rg_word _ (by rw [infR_eq]; exact Nat.min_le_right _ _)).2.1

/-! ### the operations -/
theorem fv_read {x m : Nat} {p : Int} (h : (m : Rat) * (2 : Rat) ^ p = rv (rg x)) : fv x = if neg x then -((m : Rat) * (2 : Rat) ^ p) else (m : Rat) * (2 : Rat) ^ p := by
  unfold fv; rw [h]

theorem mul_fin {x y : Nat} (hx : Fnt x) (hy : Fnt y) : ∃ z, Ieee.double.mul x y = some z ∧ RndTo (fv x * fv y) z ∧ neg z = (neg x ^^ neg y) := by
  obtain ⟨m, p, ex, vx, _⟩ := read_fin hx
  obtain ⟨n, q, ey, vy, _⟩ := read_fin hy
  refine ⟨_, by unfold Format.mul; rw [ex, ey]; rfl, ?_, neg_nearest _ _ _⟩
  have h := rndTo_nearest (neg x ^^ neg y) (m * n) (p + q)
  have e : ((m * n : Nat) : Rat) * (2 : Rat) ^ (p + q) = rv (rg x) * rv (rg y) := by
    rw [Rat.zpow_add two_ne, Rat.natCast_mul, ← vx, ← vy]; grind
  rw [e] at h
  have e2 : fv x * fv y = if (neg x ^^ neg y) then -(rv (rg x) * rv (rg y)) else rv (rg x) * rv (rg y) := by
    unfold fv
    cases neg x <;> cases neg y <;> simp only [if_true, if_false, Bool.false_eq_true, Bool.xor_false, Bool.xor_true, Bool.not_true, Bool.not_false, Rat.neg_mul, Rat.mul_neg, Rat.neg_neg]
  rw [e2]
  exact h

theorem signed_val (s : Bool) (m : Nat) (p base : Int) (hb : base ≤ p) : ((signed s m (p - base).toNat : Int) : Rat) * (2 : Rat) ^ base = if s then -((m : Rat) * (2 : Rat) ^ p) else (m : Rat) * (2 : Rat) ^ p := by
  rw [signed_eq]
  have e : p = ((p - base).toNat : Int) + base := by omega
  have e2 : ((m * 2 ^ (p - base).toNat : Nat) : Rat) * (2 : Rat) ^ base = (m : Rat) * (2 : Rat) ^ p := by
    conv => rhs; rw [e, Rat.zpow_add two_ne, Rat.zpow_natCast]
    rw [Rat.natCast_mul, Rat.natCast_pow, Rat.mul_assoc]; rfl
  cases s <;> simp only [if_true, if_false, Bool.false_eq_true]
  · rw [← e2]; rfl
  · rw [← e2, Rat.intCast_neg, Rat.neg_mul]; rfl

theorem sum_fin (s t : Bool) (m n : Nat) (p q : Int) : ∃ z, ((Datum.number s m p).sum (Datum.number t n q)).map Ieee.double.write = some z ∧
    RndTo ((if s then -((m : Rat) * (2 : Rat) ^ p) else (m : Rat) * (2 : Rat) ^ p) + (if t then -((n : Rat) * (2 : Rat) ^ q) else (n : Rat) * (2 : Rat) ^ q)) z ∧
    (s = false → 0 ≤ (if s then -((m : Rat) * (2 : Rat) ^ p) else (m : Rat) * (2 : Rat) ^ p) + (if t then -((n : Rat) * (2 : Rat) ^ q) else (n : Rat) * (2 : Rat) ^ q) → neg z = false) := by
  refine ⟨_, rfl, ?_⟩
  rw [← signed_val s m p (min p q) (Int.min_le_left _ _), ← signed_val t n q (min p q) (Int.min_le_right _ _), ← Rat.add_mul, ← Rat.intCast_add]
  generalize hT : signed s m (p - min p q).toNat + signed t n (q - min p q).toNat = T
  have h := rndTo_nearest (if T = 0 then s && t else decide (T < 0)) T.natAbs (min p q)
  have e : (T : Rat) * (2 : Rat) ^ min p q = if (if T = 0 then s && t else decide (T < 0)) then -((T.natAbs : Rat) * (2 : Rat) ^ min p q) else (T.natAbs : Rat) * (2 : Rat) ^ min p q := by
    by_cases h0 : T = 0
    · subst h0
      have hz : ((0 : Int) : Rat) = 0 := rfl
      have hz2 : (((0 : Int).natAbs : Nat) : Rat) = 0 := rfl
      rw [hz, hz2, Rat.zero_mul]
      cases s <;> cases t <;> rfl
    · rw [if_neg h0]
      by_cases h1 : T < 0
      · simp only [h1, decide_true, if_true]
        have : T = -(T.natAbs : Int) := by omega
        conv => lhs; rw [this, Rat.intCast_neg, Rat.neg_mul]
        rfl
      · simp only [h1, decide_false, if_false, Bool.false_eq_true]
        have : T = (T.natAbs : Int) := by omega
        conv => lhs; rw [this]
        rfl
  refine ⟨?_, ?_⟩
  · rw [e]
    exact h
  · intro hs hnn
    refine (neg_nearest _ _ _).trans ?_
    show (if T = 0 then s && t else decide (T < 0)) = false
    by_cases h0 : T = 0
    · rw [if_pos h0, hs]; rfl
    · rw [if_neg h0]
      have hz := zp (min p q)
      by_cases h1 : T < 0
      · exfalso
        have h2 : (T : Rat) < 0 := by
          have := Rat.intCast_lt_intCast.2 h1
          exact this
        have h3 : (T : Rat) * (2 : Rat) ^ min p q < 0 := by
          have := Rat.mul_lt_mul_of_pos_right h2 hz
          rwa [Rat.zero_mul] at this
        exact Rat.lt_irrefl (lt_le h3 hnn)
      · simp [h1]

theorem add_fin {x y : Nat} (hx : Fnt x) (hy : Fnt y) : ∃ z, Ieee.double.add x y = some z ∧ RndTo (fv x + fv y) z ∧ (neg x = false → 0 ≤ fv x + fv y → neg z = false) := by
  obtain ⟨m, p, ex, vx, _⟩ := read_fin hx
  obtain ⟨n, q, ey, vy, _⟩ := read_fin hy
  rw [fv_read vx, fv_read vy]
  unfold Format.add; rw [ex, ey]
  exact sum_fin _ _ _ _ _ _

theorem sub_fin {x y : Nat} (hx : Fnt x) (hy : Fnt y) : ∃ z, Ieee.double.sub x y = some z ∧ RndTo (fv x - fv y) z ∧ (neg x = false → 0 ≤ fv x - fv y → neg z = false) := by
  obtain ⟨m, p, ex, vx, _⟩ := read_fin hx
  obtain ⟨n, q, ey, vy, _⟩ := read_fin hy
  have e : fv x - fv y = fv x + (if !neg y then -((n : Rat) * (2 : Rat) ^ q) else (n : Rat) * (2 : Rat) ^ q) := by
    rw [fv_read vy]
    cases neg y <;> simp only [if_true, if_false, Bool.false_eq_true, Bool.not_true, Bool.not_false] <;> grind
  rw [e, fv_read vx]
  unfold Format.sub; rw [ex, ey]
  exact sum_fin _ _ _ _ _ _

theorem ofInt (n : Int) : RndTo (n : Rat) (floatOfInt .f64 n) := by
  have h := rndTo_nearest (decide (n < 0)) n.natAbs 0
  have e : (n : Rat) = if decide (n < 0) then -((n.natAbs : Rat) * (2 : Rat) ^ (0 : Int)) else (n.natAbs : Rat) * (2 : Rat) ^ (0 : Int) := by
    rw [Rat.zpow_zero, Rat.mul_one]
    by_cases h1 : n < 0
    · simp only [h1, decide_true, if_true]
      have : n = -(n.natAbs : Int) := by omega
      conv => lhs; rw [this, Rat.intCast_neg]
      rfl
    · simp only [h1, decide_false, if_false, Bool.false_eq_true]
      have : n = (n.natAbs : Int) := by omega
      conv => lhs; rw [this]
      rfl
  rw [e]; exact h

end Go.Proofs.Ytmdfkljmgijdlaa.Fl
