/- Contracts of the small float functions of retry: plain, size, finite, math.Min, the bits. -/
import Derived.Test.YtmdfkljmgijdlaaRows
import Derived.Test.YtmdfkljmgijdlaaFe
import Derived.Test.YtmdfkljmgijdlaaK
namespace Go.Proofs.Ytmdfkljmgijdlaa
open Go.RowKit

def plainF (x : Nat) : Nat := if FloatKind.f64.format.order x 0 == some .eq then 0 else x

theorem plain_any (b : Nat) (w : World) : Calls Try.prog 74 #[.float .f64 b] w fun e w' => e = .returned (.float .f64 (plainF b)) ∧ w = w' := by
  go_enter Try.func74, Try.ntmps74
  go_wp2
  all_goals
    go_ret
    simp [plainF, *]

theorem plain24_any (b : Nat) (w : World) : Calls Try.prog 83 #[.float .f64 b] w fun e w' => e = .returned (.float .f64 (plainF b)) ∧ w = w' := by
  go_enter Try.func83, Try.ntmps83
  go_wp2
  all_goals
    go_ret
    simp [plainF, *]

def minF (x y : Nat) : Nat :=
  let a := FloatKind.f64.decode x
  let b := FloatKind.f64.decode y
  if a == .infinity true || b == .infinity true then FloatKind.f64.encode (.infinity true)
  else if a.isNaN || b.isNaN then 0x7FF8000000000001
  else if a.isZero && b.isZero then (if a.neg == true then x else y)
  else if a.order b == some .lt then x else y

theorem archMin_run (x y : Nat) (w : World) : (callFunc 129 #[.float .f64 x, .float .f64 y]).run Try.prog w = .ok (.value (.float .f64 (minF x y))) w := by
  rw [run_callFunc_extern Try.func129 (by kernel_rfl) (by kernel_rfl) (by kernel_rfl) (e := Extern.MathDim.pick "math.archMin" true .lt) (by kernel_rfl)]
  rfl

theorem min_any (x y : Nat) (w : World) : Calls Try.prog 75 #[.float .f64 x, .float .f64 y] w fun e w' => e = .returned (.float .f64 (minF x y)) ∧ w = w' := by
  have h := archMin_run x y
  go_enter Try.func75, Try.ntmps75
  go_wp2
  go_ret
  exact ⟨rfl, rfl⟩


/-- x >= 0 and x <= MaxFloat64, as the code asks it. -/
def sizeF (x : Nat) : Bool := (FloatKind.f64.format.order x 0 == some .gt || FloatKind.f64.format.order x 0 == some .eq) && (FloatKind.f64.format.order x 9218868437227405311 == some .lt || FloatKind.f64.format.order x 9218868437227405311 == some .eq)
def finiteF (x : Nat) : Bool := (FloatKind.f64.format.order x 18442240474082181119 == some .gt || FloatKind.f64.format.order x 18442240474082181119 == some .eq) && (FloatKind.f64.format.order x 9218868437227405311 == some .lt || FloatKind.f64.format.order x 9218868437227405311 == some .eq)

theorem size_any (b : Nat) (w : World) : Calls Try.prog 80 #[.float .f64 b] w fun e w' => e = .returned (.bool (sizeF b)) ∧ w = w' := by
  go_enter Try.func80, Try.ntmps80
  go_wp2
  all_goals
    go_ret
    simp [sizeF, *]
theorem finite_any (b : Nat) (w : World) : Calls Try.prog 81 #[.float .f64 b] w fun e w' => e = .returned (.bool (finiteF b)) ∧ w = w' := by
  go_enter Try.func81, Try.ntmps81
  go_wp2
  all_goals
    go_ret
    simp [finiteF, *]

end Go.Proofs.Ytmdfkljmgijdlaa
