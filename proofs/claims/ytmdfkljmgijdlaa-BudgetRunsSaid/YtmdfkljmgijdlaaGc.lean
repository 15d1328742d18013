/- The contract of retry's draw: a float from 0 to below 1. -/
import Derived.Test.YtmdfkljmgijdlaaGb
import Derived.Test.YtmdfkljmgijdlaaFf
import Derived.Laws.BitsAllLaws
import Derived.OpenShut
namespace Go.Proofs.Ytmdfkljmgijdlaa
open Go.RowKit

def mix0 (s i : Int) : Int := IntKind.u64.wrap (s + IntKind.u64.wrap (IntKind.u64.wrap i * 11400714819323198485))
def mix1 (x : Int) : Int := IntKind.u64.wrap (bits .xor .u64 x (x / 1073741824) * 13787848793156543929)
def mix2 (x : Int) : Int := IntKind.u64.wrap (bits .xor .u64 x (x / 134217728) * 10723151780598845931)
def mix3 (x : Int) : Int := bits .xor .u64 x (x / 2147483648)
def drawN (s i : Int) : Int := mix3 (mix2 (mix1 (mix0 s i))) / 2048
def drawF (s i : Int) : Nat := Fl.fmul (floatOfInt .f64 (drawN s i)) 4368491638549381120

theorem floatOfInt_nn (n : Int) : ¬ Fl.NaN (floatOfInt .f64 n) := (Fl.ofInt n).notNaN

theorem run_mul {t : TypeId} {x y r : Nat} (h : Ieee.double.mul x y = some r) (w : World) : (binOp .mul t (.float .f64 x) (.float .f64 y)).run Try.prog w = .ok (.float .f64 r) w := run_float_arith w .mul t .f64 x y r h
theorem run_sub {t : TypeId} {x y r : Nat} (h : Ieee.double.sub x y = some r) (w : World) : (binOp .sub t (.float .f64 x) (.float .f64 y)).run Try.prog w = .ok (.float .f64 r) w := run_float_arith w .sub t .f64 x y r h
theorem run_add {t : TypeId} {x y r : Nat} (h : Ieee.double.add x y = some r) (w : World) : (binOp .add t (.float .f64 x) (.float .f64 y)).run Try.prog w = .ok (.float .f64 r) w := run_float_arith w .add t .f64 x y r h
theorem run_quo {t : TypeId} {x y r : Nat} (h : Ieee.double.div x y = some r) (w : World) : (binOp .quo t (.float .f64 x) (.float .f64 y)).run Try.prog w = .ok (.float .f64 r) w := run_float_arith w .quo t .f64 x y r h

theorem draw_any (s i : Int) (w : World) :
    Calls Try.prog 76 #[.int .u64 s, .int .i64 i] w fun e w' => e = .returned (.float .f64 (drawF s i)) ∧ w = w' := by
  have hm : ∀ (n : Int) (w : World), (binOp .mul 22 (.float .f64 (floatOfInt .f64 n)) (.float .f64 4368491638549381120)).run Try.prog w = .ok (.float .f64 (Fl.fmul (floatOfInt .f64 n) 4368491638549381120)) w :=
    fun n w => run_mul (Fl.mul_some (floatOfInt_nn n) (by decide) (by decide)) w
  go_enter Try.func76, Try.ntmps76
  go_wp2
  go_ret
  refine ⟨?_, rfl⟩
  change Ending.returned (Value.float .f64 _) = _
  simp only [drawF, drawN, mix3, mix2, mix1, mix0]

theorem xor_range (a b : Int) : 0 ≤ bits .xor .u64 a b ∧ bits .xor .u64 a b ≤ 18446744073709551615 := by
  have := wf_bits (op := .xor) (k := .u64) (x := a) (y := b)
  simpa [Lit.wf, IntKind.min, IntKind.max, IntKind.signed, IntKind.bits] using this

theorem drawN_range (s i : Int) : 0 ≤ drawN s i ∧ drawN s i < 9007199254740992 := by
  unfold drawN mix3
  have := xor_range (mix2 (mix1 (mix0 s i))) (mix2 (mix1 (mix0 s i)) / 2147483648)
  omega

theorem drawF_lt (s i : Int) : drawF s i < Fl.one := by
  obtain ⟨h1, h2⟩ := drawN_range s i
  unfold drawF
  obtain ⟨n, hn⟩ := Int.eq_ofNat_of_zero_le h1
  rw [hn] at h2 ⊢
  obtain ⟨a1, a2⟩ := Fl.ofInt_exact n (by omega)
  obtain ⟨_, h3, h4⟩ := Fl.fmul_fin a1 (show (4368491638549381120 : Nat) < Fl.infR by decide)
  rw [a2] at h4
  have hc : Fl.rv 4368491638549381120 = (2 : Rat) ^ (-53 : Int) := by
    obtain ⟨k, hk⟩ : ∃ k : Nat, k = 1021 := ⟨_, rfl⟩
    have e : Fl.Vn 4368491638549381120 = 2 ^ k := by subst hk; decide +kernel
    unfold Fl.rv Fl.unit
    rw [e, Rat.natCast_pow, show (((2 : Nat) : Rat) ^ k) = (2 : Rat) ^ (k : Int) from rfl, ← Rat.zpow_add Fl.two_ne, show (k : Int) + -1074 = -53 from by omega]
  rw [hc] at h4
  -- the greatest float below one
  have hmax : Fl.rv 4607182418800017407 = ((9007199254740991 : Nat) : Rat) * (2 : Rat) ^ (-53 : Int) := by
    obtain ⟨k, hk⟩ : ∃ k : Nat, k = 1021 := ⟨_, rfl⟩
    have e : Fl.Vn 4607182418800017407 = 9007199254740991 * 2 ^ k := by subst hk; decide +kernel
    unfold Fl.rv Fl.unit
    rw [e, Rat.natCast_mul, Rat.natCast_pow, Rat.mul_assoc, show (((2 : Nat) : Rat) ^ k) = (2 : Rat) ^ (k : Int) from rfl, ← Rat.zpow_add Fl.two_ne, show (k : Int) + -1074 = -53 from by omega]
  have hle : Fl.fmul (floatOfInt .f64 (n : Int)) 4368491638549381120 ≤ 4607182418800017407 := by
    refine Fl.le_of_rnd h4 (Fl.self_pos (by decide)) h3 (by decide) ?_
    rw [hmax]
    exact Rat.mul_le_mul_of_nonneg_right (Rat.natCast_le_natCast.2 (by omega)) (Rat.le_of_lt (Fl.zp _))
  have : Fl.one = 4607182418800017408 := rfl
  omega

end Go.Proofs.Ytmdfkljmgijdlaa
