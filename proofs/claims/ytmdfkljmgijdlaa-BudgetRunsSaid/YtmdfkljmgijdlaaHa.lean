/- Contracts of the document's small float functions: IsNaN, IsInf, Abs, finite, the bits, Same, Check. -/
import Derived.Test.YtmdfkljmgijdlaaGg
import Derived.Test.YtmdfkljmgijdlaaK2
namespace Go.Proofs.Ytmdfkljmgijdlaa
open Go.RowKit
set_option linter.unusedVariables false

def nanF (x : Nat) : Bool := FloatKind.f64.format.order x x != some .eq
theorem isNaN_any (x : Nat) (w : World) : Calls Try.prog 87 #[.float .f64 x] w fun e w' => e = .returned (.bool (nanF x)) ∧ w = w' := by
  go_enter Try.func87, Try.ntmps87
  go_wp2
  go_ret
  exact ⟨rfl, rfl⟩

theorem bits_run (x : Nat) (w : World) : (callFunc 86 #[.float .f64 x]).run Try.prog w = .ok (.value (.int .u64 x)) w := by
  rw [run_callFunc_extern Try.func86 (by kernel_rfl) (by kernel_rfl) (by kernel_rfl) (e := Extern.MathFloatBits.float64bits) (by kernel_rfl)]
  rfl
theorem frombits_run (x : Int) (w : World) : (callFunc 19 #[.int .u64 x]).run Try.prog w = .ok (.value (.float .f64 x.toNat)) w := by
  rw [run_callFunc_extern Try.func19 (by kernel_rfl) (by kernel_rfl) (by kernel_rfl) (e := Extern.MathFloatBits.float64frombits) (by kernel_rfl)]
  rfl

def absF (x : Nat) : Nat := (bits .andNot .u64 (x : Int) 9223372036854775808).toNat
theorem abs_any (x : Nat) (w : World) : Calls Try.prog 152 #[.float .f64 x] w fun e w' => e = .returned (.float .f64 (absF x)) ∧ w = w' := by
  have h1 := bits_run x
  have h2 := frombits_run
  go_enter Try.func152, Try.ntmps152
  go_wp2
  go_ret
  exact ⟨rfl, rfl⟩

theorem absF_eq {x : Nat} (h : x < 18446744073709551616) : absF x = Fl.rg x := by
  unfold absF Fl.rg
  have e := u64_andNot_nat x 9223372036854775808 h (by decide)
  rw [show ((9223372036854775808 : Nat) : Int) = 9223372036854775808 from rfl] at e
  rw [e, Int.toNat_natCast, show 18446744073709551615 - 9223372036854775808 = 2 ^ 63 - 1 from by decide +kernel, Nat.and_two_pow_sub_one_eq_mod]

def infF (x : Nat) : Bool := FloatKind.f64.format.order (absF x) 9218868437227405311 == some .gt
theorem isInf_any (x : Nat) (w : World) : Calls Try.prog 131 #[.float .f64 x, .int .i64 0] w fun e w' => e = .returned (.bool (infF x)) ∧ w = w' := by
  go_enter Try.func131, Try.ntmps131
  go_wp2_with (go_at_call 152; refine (abs_any _ _).mono ?_; rintro e w' ⟨rfl, rfl⟩)
  go_ret
  exact ⟨rfl, rfl⟩

def fin24 (x : Nat) : Bool := !nanF x && !infF x
theorem finite24_any (x : Nat) (w : World) : Calls Try.prog 82 #[.float .f64 x] w fun e w' => e = .returned (.bool (fin24 x)) ∧ w = w' := by
  cases h : nanF x
  · have hf : fin24 x = !infF x := by unfold fin24; rw [h]; rfl
    rw [hf]; clear hf
    go_enter Try.func82, Try.ntmps82
    go_wp2_with (first | (go_at_call 87; refine (isNaN_any _ _).mono ?_; rintro e w' ⟨rfl, rfl⟩) | (go_at_call 131; refine (isInf_any _ _).mono ?_; rintro e w' ⟨rfl, rfl⟩))
    go_ret
    exact ⟨rfl, rfl⟩
  · have hf : fin24 x = false := by unfold fin24; rw [h]; rfl
    rw [hf]; clear hf
    go_enter Try.func82, Try.ntmps82
    go_wp2_with (first | (go_at_call 87; refine (isNaN_any _ _).mono ?_; rintro e w' ⟨rfl, rfl⟩) | (go_at_call 131; refine (isInf_any _ _).mono ?_; rintro e w' ⟨rfl, rfl⟩))
    go_ret
    exact ⟨rfl, rfl⟩

theorem nanF_iff (x : Nat) : nanF x = true ↔ Fl.NaN x := by
  unfold nanF
  rw [fmt_eq]
  by_cases h : Fl.NaN x
  · rw [Fl.order_nan_left h]; simp [h]
  · rw [Fl.order_any h h, Fl.compare_int, if_neg (by omega), if_pos rfl]; simp [h]

theorem fin24_iff {x : Nat} (hx : x < 18446744073709551616) : fin24 x = true ↔ Fl.Fnt x := by
  unfold fin24
  have hn := nanF_iff x
  by_cases h : Fl.NaN x
  · rw [hn.2 h]
    have : ¬ Fl.Fnt x := by unfold Fl.Fnt Fl.NaN at *; omega
    simp [this]
  · have h1 : nanF x = false := by cases h2 : nanF x <;> simp_all
    rw [h1]
    unfold infF
    have hr : Fl.rg x ≤ Fl.infR := by unfold Fl.NaN at h; omega
    have hm : (9218868437227405311 : Nat) ≤ Fl.infR := by decide
    rw [absF_eq hx, fmt_eq, Fl.order_pos hr hm]
    have hi := Fl.infR_val
    unfold Fl.Fnt
    by_cases h3 : 9218868437227405311 < Fl.rg x
    · rw [Nat.compare_eq_gt.2 h3]; simp; omega
    · cases hc : compare (Fl.rg x) 9218868437227405311
      · simp; omega
      · simp; omega
      · exact absurd (Nat.compare_eq_gt.1 hc) h3

def lt0 (x : Nat) : Bool := FloatKind.f64.format.order x 0 == some .lt
theorem lt0_iff {x : Nat} (h : ¬ Fl.NaN x) : lt0 x = true ↔ Fl.key x < 0 := by
  unfold lt0
  rw [fmt_eq, Fl.order_any h (Fl.nn_pos (Nat.zero_le _)), Fl.key_pos (Nat.zero_le _), Fl.compare_int]
  by_cases h1 : Fl.key x < (0 : Nat)
  · rw [if_pos h1]; simp; omega
  · rw [if_neg h1]
    by_cases h2 : Fl.key x = (0 : Nat)
    · rw [if_pos h2]; simp; omega
    · rw [if_neg h2]; simp; omega

def bad24 (t : Int) (f g c d j : Nat) (n : Nat) : Bool :=
  decide (t < 1) || decide (100 < t) || !fin24 f || lt0 f || !fin24 g || lt0 g || nanF c || lt0 c || nanF d || lt0 d || !(ge0 j && le1 j) || decide (64 < n)

theorem bad24_eq {t : Int} {f g c d j n : Nat} (hf : f < 18446744073709551616) (hg : g < 18446744073709551616) : bad24 t f g c d j n = badPlan t f g c d j n := by
  have size : ∀ x, x < 18446744073709551616 → (!fin24 x || lt0 x) = !sizeF x := by
    intro x hx
    have h1 := fin24_iff hx
    have h2 := sizeF_iff x
    by_cases hF : Fl.Fnt x
    · have hn : ¬ Fl.NaN x := by unfold Fl.Fnt Fl.NaN at *; omega
      have h3 := lt0_iff hn
      rw [h1.2 hF]
      cases h4 : lt0 x
      · have : ¬ Fl.key x < 0 := fun g => by rw [h3.2 g] at h4; cases h4
        rw [h2.2 ⟨hF, by omega⟩]; rfl
      · have := h3.1 h4
        cases h5 : sizeF x
        · rfl
        · have := h2.1 h5; omega
    · have e1 : fin24 x = false := by cases h4 : fin24 x with
        | false => rfl
        | true => exact absurd (h1.1 h4) hF
      have e2 : sizeF x = false := by cases h4 : sizeF x with
        | false => rfl
        | true => exact absurd (h2.1 h4).1 hF
      rw [e1, e2]; rfl
  have nn : ∀ x, (nanF x || lt0 x) = !ge0 x := by
    intro x
    have h1 := nanF_iff x
    have h2 := ge0_iff x
    by_cases hN : Fl.NaN x
    · rw [h1.2 hN]
      have : ge0 x = false := by cases h4 : ge0 x with
        | false => rfl
        | true => exact absurd hN (h2.1 h4).1
      rw [this]; rfl
    · have e1 : nanF x = false := by cases h4 : nanF x with
        | false => rfl
        | true => exact absurd (h1.1 h4) hN
      have h3 := lt0_iff hN
      rw [e1]
      cases h4 : lt0 x
      · have : ¬ Fl.key x < 0 := fun g => by rw [h3.2 g] at h4; cases h4
        rw [h2.2 ⟨hN, by omega⟩]; rfl
      · have := h3.1 h4
        cases h5 : ge0 x
        · rfl
        · have := h2.1 h5; omega
  unfold bad24 badPlan
  rw [← size f hf, ← size g hg, ← nn c, ← nn d]
  simp only [Bool.or_assoc]

def plan24E (t : Int) (f g c d j : Nat) (n : Nat) : Int := if bad24 t f g c d j n then 240 else 0

set_option maxRecDepth 100000 in
set_option maxHeartbeats 4000000 in
theorem check24_any (t : Int) (f g c j d : Nat) (s : Int) (a : Option Addr) (n cp : Nat) (w : World) :
    Calls Try.prog 41 #[.agg #[.int .i64 t, .float .f64 f, .float .f64 g, .float .f64 c, .float .f64 j, .float .f64 d, .int .u64 s, .slice a n cp]] w fun e w' =>
      e = .returned (.int .i64 (plan24E t f g c d j n)) ∧ Below w.heap.size w w' := by
  have fin : ∀ b, bad24 t f g c d j n = b → plan24E t f g c d j n = if b then 240 else 0 := by intro b hb; unfold plan24E; rw [hb]
  by_cases h1 : t < 1
  · rw [fin true (by simp [bad24, h1])]
    clear fin
    go_enter Try.func41, Try.ntmps41
    go_wp2_with (first | (go_at_call 82; refine (finite24_any _ _).mono ?_; rintro e w' ⟨rfl, rfl⟩) | (go_at_call 87; refine (isNaN_any _ _).mono ?_; rintro e w' ⟨rfl, rfl⟩))
    go_ret
    exact ⟨rfl, (Below.refl _ _).alloc (Nat.le_refl _) _⟩
  by_cases h2 : 100 < t
  · rw [fin true (by simp [bad24, h1, h2])]
    clear fin
    go_enter Try.func41, Try.ntmps41
    go_wp2_with (first | (go_at_call 82; refine (finite24_any _ _).mono ?_; rintro e w' ⟨rfl, rfl⟩) | (go_at_call 87; refine (isNaN_any _ _).mono ?_; rintro e w' ⟨rfl, rfl⟩))
    go_ret
    exact ⟨rfl, (Below.refl _ _).alloc (Nat.le_refl _) _⟩
  cases h3 : fin24 f
  · rw [fin true (by simp [bad24, h1, h2, h3])]
    clear fin
    go_enter Try.func41, Try.ntmps41
    go_wp2_with (first | (go_at_call 82; refine (finite24_any _ _).mono ?_; rintro e w' ⟨rfl, rfl⟩) | (go_at_call 87; refine (isNaN_any _ _).mono ?_; rintro e w' ⟨rfl, rfl⟩))
    go_ret
    exact ⟨rfl, (Below.refl _ _).alloc (Nat.le_refl _) _⟩
  cases h4 : lt0 f
  rotate_left
  · rw [fin true (by simp [bad24, h1, h2, h3, h4])]
    clear fin
    unfold lt0 at h4
    go_enter Try.func41, Try.ntmps41
    go_wp2_with (first | (go_at_call 82; refine (finite24_any _ _).mono ?_; rintro e w' ⟨rfl, rfl⟩) | (go_at_call 87; refine (isNaN_any _ _).mono ?_; rintro e w' ⟨rfl, rfl⟩))
    go_ret
    exact ⟨rfl, (Below.refl _ _).alloc (Nat.le_refl _) _⟩
  cases h5 : fin24 g
  · rw [fin true (by simp [bad24, h1, h2, h3, h4, h5])]
    clear fin
    unfold lt0 at h4
    go_enter Try.func41, Try.ntmps41
    go_wp2_with (first | (go_at_call 82; refine (finite24_any _ _).mono ?_; rintro e w' ⟨rfl, rfl⟩) | (go_at_call 87; refine (isNaN_any _ _).mono ?_; rintro e w' ⟨rfl, rfl⟩))
    go_ret
    exact ⟨rfl, (Below.refl _ _).alloc (Nat.le_refl _) _⟩
  cases h6 : lt0 g
  rotate_left
  · rw [fin true (by simp [bad24, h1, h2, h3, h4, h5, h6])]
    clear fin
    unfold lt0 at h4
    unfold lt0 at h6
    go_enter Try.func41, Try.ntmps41
    go_wp2_with (first | (go_at_call 82; refine (finite24_any _ _).mono ?_; rintro e w' ⟨rfl, rfl⟩) | (go_at_call 87; refine (isNaN_any _ _).mono ?_; rintro e w' ⟨rfl, rfl⟩))
    go_ret
    exact ⟨rfl, (Below.refl _ _).alloc (Nat.le_refl _) _⟩
  cases h7 : nanF c
  rotate_left
  · rw [fin true (by simp [bad24, h1, h2, h3, h4, h5, h6, h7])]
    clear fin
    unfold lt0 at h4
    unfold lt0 at h6
    go_enter Try.func41, Try.ntmps41
    go_wp2_with (first | (go_at_call 82; refine (finite24_any _ _).mono ?_; rintro e w' ⟨rfl, rfl⟩) | (go_at_call 87; refine (isNaN_any _ _).mono ?_; rintro e w' ⟨rfl, rfl⟩))
    go_ret
    exact ⟨rfl, (Below.refl _ _).alloc (Nat.le_refl _) _⟩
  cases h8 : lt0 c
  rotate_left
  · rw [fin true (by simp [bad24, h1, h2, h3, h4, h5, h6, h7, h8])]
    clear fin
    unfold lt0 at h4
    unfold lt0 at h6
    unfold lt0 at h8
    go_enter Try.func41, Try.ntmps41
    go_wp2_with (first | (go_at_call 82; refine (finite24_any _ _).mono ?_; rintro e w' ⟨rfl, rfl⟩) | (go_at_call 87; refine (isNaN_any _ _).mono ?_; rintro e w' ⟨rfl, rfl⟩))
    go_ret
    exact ⟨rfl, (Below.refl _ _).alloc (Nat.le_refl _) _⟩
  cases h9 : nanF d
  rotate_left
  · rw [fin true (by simp [bad24, h1, h2, h3, h4, h5, h6, h7, h8, h9])]
    clear fin
    unfold lt0 at h4
    unfold lt0 at h6
    unfold lt0 at h8
    go_enter Try.func41, Try.ntmps41
    go_wp2_with (first | (go_at_call 82; refine (finite24_any _ _).mono ?_; rintro e w' ⟨rfl, rfl⟩) | (go_at_call 87; refine (isNaN_any _ _).mono ?_; rintro e w' ⟨rfl, rfl⟩))
    go_ret
    exact ⟨rfl, (Below.refl _ _).alloc (Nat.le_refl _) _⟩
  cases h10 : lt0 d
  rotate_left
  · rw [fin true (by simp [bad24, h1, h2, h3, h4, h5, h6, h7, h8, h9, h10])]
    clear fin
    unfold lt0 at h4
    unfold lt0 at h6
    unfold lt0 at h8
    unfold lt0 at h10
    go_enter Try.func41, Try.ntmps41
    go_wp2_with (first | (go_at_call 82; refine (finite24_any _ _).mono ?_; rintro e w' ⟨rfl, rfl⟩) | (go_at_call 87; refine (isNaN_any _ _).mono ?_; rintro e w' ⟨rfl, rfl⟩))
    go_ret
    exact ⟨rfl, (Below.refl _ _).alloc (Nat.le_refl _) _⟩
  cases h11 : ge0 j
  · rw [fin true (by simp [bad24, h1, h2, h3, h4, h5, h6, h7, h8, h9, h10, h11])]
    clear fin
    unfold lt0 at h4
    unfold lt0 at h6
    unfold lt0 at h8
    unfold lt0 at h10
    unfold ge0 at h11
    go_enter Try.func41, Try.ntmps41
    go_wp2_with (first | (go_at_call 82; refine (finite24_any _ _).mono ?_; rintro e w' ⟨rfl, rfl⟩) | (go_at_call 87; refine (isNaN_any _ _).mono ?_; rintro e w' ⟨rfl, rfl⟩))
    go_ret
    exact ⟨rfl, (Below.refl _ _).alloc (Nat.le_refl _) _⟩
  cases h12 : le1 j
  · rw [fin true (by simp [bad24, h1, h2, h3, h4, h5, h6, h7, h8, h9, h10, h11, h12])]
    clear fin
    unfold lt0 at h4
    unfold lt0 at h6
    unfold lt0 at h8
    unfold lt0 at h10
    unfold ge0 at h11
    unfold le1 at h12
    go_enter Try.func41, Try.ntmps41
    go_wp2_with (first | (go_at_call 82; refine (finite24_any _ _).mono ?_; rintro e w' ⟨rfl, rfl⟩) | (go_at_call 87; refine (isNaN_any _ _).mono ?_; rintro e w' ⟨rfl, rfl⟩))
    go_ret
    exact ⟨rfl, (Below.refl _ _).alloc (Nat.le_refl _) _⟩
  by_cases h13 : 64 < n
  · rw [fin true (by simp [bad24, h1, h2, h3, h4, h5, h6, h7, h8, h9, h10, h11, h12, h13])]
    clear fin
    unfold lt0 at h4
    unfold lt0 at h6
    unfold lt0 at h8
    unfold lt0 at h10
    unfold ge0 at h11
    unfold le1 at h12
    have hn : decide ((n : Int) > 64) = true := by simp; omega
    go_enter Try.func41, Try.ntmps41
    go_wp2_with (first | (go_at_call 82; refine (finite24_any _ _).mono ?_; rintro e w' ⟨rfl, rfl⟩) | (go_at_call 87; refine (isNaN_any _ _).mono ?_; rintro e w' ⟨rfl, rfl⟩))
    go_ret
    exact ⟨rfl, (Below.refl _ _).alloc (Nat.le_refl _) _⟩
  · rw [fin false (by simp [bad24, h1, h2, h3, h4, h5, h6, h7, h8, h9, h10, h11, h12, h13])]
    clear fin
    unfold lt0 at h4
    unfold lt0 at h6
    unfold lt0 at h8
    unfold lt0 at h10
    unfold ge0 at h11
    unfold le1 at h12
    have hn : ¬ 64 < (n : Int) := by omega
    go_enter Try.func41, Try.ntmps41
    go_wp2_with (first | (go_at_call 82; refine (finite24_any _ _).mono ?_; rintro e w' ⟨rfl, rfl⟩) | (go_at_call 87; refine (isNaN_any _ _).mono ?_; rintro e w' ⟨rfl, rfl⟩))
    go_ret
    exact ⟨rfl, (Below.refl _ _).alloc (Nat.le_refl _) _⟩

end Go.Proofs.Ytmdfkljmgijdlaa
