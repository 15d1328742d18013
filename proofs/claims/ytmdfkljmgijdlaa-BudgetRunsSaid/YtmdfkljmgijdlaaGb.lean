/- Contracts of retry's Check, and of draw. -/
import Derived.Test.YtmdfkljmgijdlaaGa
namespace Go.Proofs.Ytmdfkljmgijdlaa
open Go.RowKit

def ge0 (x : Nat) : Bool := FloatKind.f64.format.order x 0 == some .gt || FloatKind.f64.format.order x 0 == some .eq
def le1 (x : Nat) : Bool := FloatKind.f64.format.order x 4607182418800017408 == some .lt || FloatKind.f64.format.order x 4607182418800017408 == some .eq

def badPlan (t : Int) (f g c d j : Nat) (n : Nat) : Bool :=
  decide (t < 1) || decide (100 < t) || !sizeF f || !sizeF g || !ge0 c || !ge0 d || !(ge0 j && le1 j) || decide (64 < n)
def planE (t : Int) (f g c d j : Nat) (n : Nat) : Int := if badPlan t f g c d j n then 240 else 0

set_option maxHeartbeats 2000000 in
theorem check_any (t : Int) (f g c j d : Nat) (s : Int) (a : Option Addr) (n cp : Nat) (w : World) :
    Calls Try.prog 40 #[.agg #[.int .i64 t, .float .f64 f, .float .f64 g, .float .f64 c, .float .f64 j, .float .f64 d, .int .u64 s, .slice a n cp]] w fun e w' =>
      e = .returned (.int .i64 (planE t f g c d j n)) ∧ Below w.heap.size w w' := by
  have fin : ∀ b, badPlan t f g c d j n = b → planE t f g c d j n = if b then 240 else 0 := by intro b hb; unfold planE; rw [hb]
  by_cases h1 : t < 1
  · rw [fin true (by simp [badPlan, h1])]
    clear fin
    go_enter Try.func40, Try.ntmps40
    go_wp2_with (go_at_call 80; refine (size_any _ _).mono ?_; rintro e w' ⟨rfl, rfl⟩)
    go_ret
    exact ⟨rfl, (Below.refl _ _).alloc (Nat.le_refl _) _⟩
  by_cases h2 : 100 < t
  · rw [fin true (by simp [badPlan, h1, h2])]
    clear fin
    go_enter Try.func40, Try.ntmps40
    go_wp2_with (go_at_call 80; refine (size_any _ _).mono ?_; rintro e w' ⟨rfl, rfl⟩)
    go_ret
    exact ⟨rfl, (Below.refl _ _).alloc (Nat.le_refl _) _⟩
  cases h3 : sizeF f
  · rw [fin true (by simp [badPlan, h1, h2, h3])]
    clear fin
    go_enter Try.func40, Try.ntmps40
    go_wp2_with (go_at_call 80; refine (size_any _ _).mono ?_; rintro e w' ⟨rfl, rfl⟩)
    go_ret
    exact ⟨rfl, (Below.refl _ _).alloc (Nat.le_refl _) _⟩
  cases h4 : sizeF g
  · rw [fin true (by simp [badPlan, h1, h2, h3, h4])]
    clear fin
    go_enter Try.func40, Try.ntmps40
    go_wp2_with (go_at_call 80; refine (size_any _ _).mono ?_; rintro e w' ⟨rfl, rfl⟩)
    go_ret
    exact ⟨rfl, (Below.refl _ _).alloc (Nat.le_refl _) _⟩
  cases h5 : ge0 c
  · rw [fin true (by simp [badPlan, h1, h2, h3, h4, h5])]
    clear fin
    unfold ge0 at h5
    go_enter Try.func40, Try.ntmps40
    go_wp2_with (go_at_call 80; refine (size_any _ _).mono ?_; rintro e w' ⟨rfl, rfl⟩)
    go_ret
    exact ⟨rfl, (Below.refl _ _).alloc (Nat.le_refl _) _⟩
  cases h6 : ge0 d
  · rw [fin true (by simp [badPlan, h1, h2, h3, h4, h5, h6])]
    clear fin
    unfold ge0 at h5
    unfold ge0 at h6
    go_enter Try.func40, Try.ntmps40
    go_wp2_with (go_at_call 80; refine (size_any _ _).mono ?_; rintro e w' ⟨rfl, rfl⟩)
    go_ret
    exact ⟨rfl, (Below.refl _ _).alloc (Nat.le_refl _) _⟩
  cases h7 : ge0 j
  · rw [fin true (by simp [badPlan, h1, h2, h3, h4, h5, h6, h7])]
    clear fin
    unfold ge0 at h5
    unfold ge0 at h6
    unfold ge0 at h7
    go_enter Try.func40, Try.ntmps40
    go_wp2_with (go_at_call 80; refine (size_any _ _).mono ?_; rintro e w' ⟨rfl, rfl⟩)
    go_ret
    exact ⟨rfl, (Below.refl _ _).alloc (Nat.le_refl _) _⟩
  cases h8 : le1 j
  · rw [fin true (by simp [badPlan, h1, h2, h3, h4, h5, h6, h7, h8])]
    clear fin
    unfold ge0 at h5
    unfold ge0 at h6
    unfold ge0 at h7
    unfold le1 at h8
    go_enter Try.func40, Try.ntmps40
    go_wp2_with (go_at_call 80; refine (size_any _ _).mono ?_; rintro e w' ⟨rfl, rfl⟩)
    go_ret
    exact ⟨rfl, (Below.refl _ _).alloc (Nat.le_refl _) _⟩
  by_cases h9 : 64 < n
  · rw [fin true (by simp [badPlan, h1, h2, h3, h4, h5, h6, h7, h8, h9])]
    clear fin
    unfold ge0 at h5
    unfold ge0 at h6
    unfold ge0 at h7
    unfold le1 at h8
    have hn : decide ((n : Int) > 64) = true := by simp; omega
    go_enter Try.func40, Try.ntmps40
    go_wp2_with (go_at_call 80; refine (size_any _ _).mono ?_; rintro e w' ⟨rfl, rfl⟩)
    go_ret
    exact ⟨rfl, (Below.refl _ _).alloc (Nat.le_refl _) _⟩
  · rw [fin false (by simp [badPlan, h1, h2, h3, h4, h5, h6, h7, h8, h9])]
    clear fin
    unfold ge0 at h5
    unfold ge0 at h6
    unfold ge0 at h7
    unfold le1 at h8
    have hn : ¬ 64 < (n : Int) := by omega
    go_enter Try.func40, Try.ntmps40
    go_wp2_with (go_at_call 80; refine (size_any _ _).mono ?_; rintro e w' ⟨rfl, rfl⟩)
    go_ret
    exact ⟨rfl, (Below.refl _ _).alloc (Nat.le_refl _) _⟩

end Go.Proofs.Ytmdfkljmgijdlaa
