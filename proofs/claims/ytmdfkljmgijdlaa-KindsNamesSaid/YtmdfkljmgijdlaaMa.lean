/- kinds: what is no spec. -/
import Derived.Test.YtmdfkljmgijdlaaHa
import Derived.OwnWalk
namespace Go.Proofs.Ytmdfkljmgijdlaa
open Go.RowKit
set_option linter.unusedVariables false

/-- A spec that has a kind and parts alone. -/
def specV (kind : Int) (ps : Value) : Value := .agg #[.int .u8 kind, .bool false, .string ⟨#[]⟩, .int .i16 0, .int .i8 0, .float .f64 0, .float .f64 0, .bool false, .int .u32 0, .slice none 0 0, ps]

theorem has_true (c : ByteArray) (p : Value) (w : World) : Calls Try.prog 156 #[.string c, .bool true, p] w fun e w' => e = .returned (.bool true) ∧ w = w' := by
  go_enter Try.func156, Try.ntmps156
  go_wp2
  go_ret
  exact ⟨rfl, rfl⟩
theorem own_no (k : Int) (hk : k = 0 ∨ k = 27) (ps : Value) (w : World) : Calls Try.prog 141 #[specV k ps] w fun e w' => e = .returned (.bool false) ∧ Below w.heap.size w w' := by
  unfold specV
  rcases hk with rfl | rfl
  all_goals
    go_enter Try.func141, Try.ntmps141
    go_wp2
    go_ret
    exact ⟨rfl, (Below.refl _ _).alloc (Nat.le_refl _) _⟩
theorem own_yes (k : Int) (hk : k = 1 ∨ k = 14) (a : Option Addr) (n cp : Nat) (w : World) : Calls Try.prog 141 #[specV k (.slice a n cp)] w fun e w' => e = .returned (.bool true) ∧ Below w.heap.size w w' := by
  unfold specV
  rcases hk with rfl | rfl
  all_goals
    go_enter Try.func141, Try.ntmps141
    go_wp2
    go_ret
    exact ⟨rfl, (Below.refl _ _).alloc (Nat.le_refl _) _⟩
theorem fields_any (k : Int) (hk : k = 1 ∨ k = 14) (a : Option Addr) (n cp : Nat) (w : World) : ∃ s, Calls Try.prog 142 #[specV k (.slice a n cp)] w fun e w' => e = .returned (.string s) ∧ Below w.heap.size w w' := by
  unfold specV
  rcases hk with rfl | rfl
  · refine ⟨⟨#[78]⟩, ?_⟩
    go_enter Try.func142, Try.ntmps142
    go_wp2
    go_ret
    exact ⟨rfl, (Below.refl _ _).alloc (Nat.le_refl _) _⟩
  · refine ⟨⟨#[84, 48]⟩, ?_⟩
    go_enter Try.func142, Try.ntmps142
    go_wp2
    go_ret
    exact ⟨rfl, (Below.refl _ _).alloc (Nat.le_refl _) _⟩
set_option maxRecDepth 100000 in
set_option maxHeartbeats 4000000 in
theorem bare_yes (k : Int) (a : Option Addr) (n cp : Nat) (c : ByteArray) (w : World) : Calls Try.prog 143 #[specV k (.slice a n cp), .string c] w fun e w' => e = .returned (.bool true) ∧ Below w.heap.size w w' := by
  unfold specV
  have h1 := bits_run
  go_enter Try.func143, Try.ntmps143
  go_wp2_with (go_at_call 156; refine (has_true _ _ _).mono ?_; rintro e w' ⟨rfl, rfl⟩)
  go_ret
  exact ⟨rfl, ((Below.refl _ _).alloc (Nat.le_refl _) _).alloc (by simp) _⟩
theorem parts1 (k : Int) (w : World) (hk : k = 1) : Calls Try.prog 65 #[.int .u8 k] w fun e w' => e = .returned (.tuple #[.int .i64 0, .int .i64 0]) ∧ w = w' := by
  subst hk
  go_enter Try.func65, Try.ntmps65
  go_wp2
  go_ret2
  exact ⟨rfl, rfl⟩
theorem parts14 (k : Int) (w : World) (hk : k = 14) : Calls Try.prog 65 #[.int .u8 k] w fun e w' => e = .returned (.tuple #[.int .i64 0, .int .i64 1]) ∧ w = w' := by
  subst hk
  go_enter Try.func65, Try.ntmps65
  go_wp2
  go_ret2
  exact ⟨rfl, rfl⟩
theorem parts16 (w : World) : Calls Try.prog 65 #[.int .u8 16] w fun e w' => e = .returned (.tuple #[.int .i64 0, .int .i64 64]) ∧ w = w' := by
  go_enter Try.func65, Try.ntmps65
  go_wp2
  go_ret2
  exact ⟨rfl, rfl⟩
end Go.Proofs.Ytmdfkljmgijdlaa
