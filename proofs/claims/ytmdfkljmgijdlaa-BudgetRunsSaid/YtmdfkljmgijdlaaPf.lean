/- Float operations whose answer may be a NaN (which one, is drawn). -/
import Derived.Test.YtmdfkljmgijdlaaPe
namespace Go.Proofs.Ytmdfkljmgijdlaa
open Go.RowKit
set_option linter.unusedVariables false

namespace Fl
open Ieee
theorem read_nan {x : Nat} (hx : NaN x) : ∃ s f, Ieee.double.read x = .nan s f := by
  unfold NaN at hx
  refine ⟨neg x, rg x - infR, ?_⟩
  rw [read_eq, if_neg (by unfold infR at hx; omega), if_neg (by omega), if_neg (by omega)]
theorem add_nan {x y : Nat} (h : NaN x ∨ NaN y) : Ieee.double.add x y = none := by
  unfold Format.add
  rcases h with h | h
  · obtain ⟨s, f, e⟩ := read_nan h
    rw [e]; rfl
  · obtain ⟨s, f, e⟩ := read_nan h
    rw [e]; cases Ieee.double.read x <;> rfl
theorem sub_nan {x y : Nat} (h : NaN x ∨ NaN y) : Ieee.double.sub x y = none := by
  unfold Format.sub
  rcases h with h | h
  · obtain ⟨s, f, e⟩ := read_nan h
    rw [e]; rfl
  · obtain ⟨s, f, e⟩ := read_nan h
    rw [e]; cases Ieee.double.read x <;> rfl
theorem mul_nan {x y : Nat} (h : NaN x ∨ NaN y) : Ieee.double.mul x y = none := by
  unfold Format.mul
  rcases h with h | h
  · obtain ⟨s, f, e⟩ := read_nan h
    rw [e]; rfl
  · obtain ⟨s, f, e⟩ := read_nan h
    rw [e]; cases Ieee.double.read x <;> rfl
theorem div_nan {x y : Nat} (h : NaN x ∨ NaN y) : Ieee.double.div x y = none := by
  unfold Format.div
  rcases h with h | h
  · obtain ⟨s, f, e⟩ := read_nan h
    rw [e]; rfl
  · obtain ⟨s, f, e⟩ := read_nan h
    rw [e]; cases Ieee.double.read x <;> rfl
end Fl

/-- The one NaN of math.NaN. -/
def nan0 : Nat := 9221120237041090561
theorem nan0_nan : Fl.NaN nan0 := by unfold Fl.NaN nan0 Fl.rg Fl.infR; omega

/-- The same float, whichever NaN it is. -/
def SM (z c : Nat) : Prop := z = c ∨ (Fl.NaN z ∧ Fl.NaN c)
theorem SM.refl (z : Nat) : SM z z := Or.inl rfl
theorem SM.symm {z c : Nat} (h : SM z c) : SM c z := h.elim (fun e => Or.inl e.symm) (fun e => Or.inr ⟨e.2, e.1⟩)
theorem SM.trans {x y z : Nat} (h : SM x y) (k : SM y z) : SM x z := by
  rcases h with rfl | ⟨a, b⟩
  · exact k
  · rcases k with rfl | ⟨c, d⟩
    · exact Or.inr ⟨a, b⟩
    · exact Or.inr ⟨a, d⟩
theorem SM.eq {z c : Nat} (h : SM z c) (hc : ¬ Fl.NaN c) : z = c := h.elim id (fun e => (hc e.2).elim)
theorem SM.nan {z c : Nat} (h : SM z c) : Fl.NaN z ↔ Fl.NaN c := by
  rcases h with rfl | ⟨a, b⟩
  · exact Iff.rfl
  · exact ⟨fun _ => b, fun _ => a⟩
theorem SM.order_left {z c y : Nat} (h : SM z c) : FloatKind.f64.format.order z y = FloatKind.f64.format.order c y := by
  rcases h with rfl | ⟨a, b⟩
  · rfl
  · rw [show FloatKind.f64.format.order z y = none from Fl.order_nan_left a, show FloatKind.f64.format.order c y = none from Fl.order_nan_left b]
theorem SM.order_self {z c : Nat} (h : SM z c) : FloatKind.f64.format.order z z = FloatKind.f64.format.order c c := by
  rcases h with rfl | ⟨a, b⟩
  · rfl
  · rw [show FloatKind.f64.format.order z z = none from Fl.order_nan_left a, show FloatKind.f64.format.order c c = none from Fl.order_nan_left b]

/-- Which NaN. -/
def nanW (x y : Nat) (w : World) : Nat := (Question.nanBits .f64 x y).cut (w.tape w.drawn (Question.nanBits .f64 x y))
theorem nanW_nan (x y : Nat) (w : World) : Fl.NaN (nanW x y w) := by
  have e : ∀ t : Nat, (Question.nanBits .f64 x y).cut t = (t % 2) * 9223372036854775808 + 9218868437227405312 + 1 + (t / 2) % 4503599627370495 := fun _ => rfl
  unfold Fl.NaN nanW
  rw [e]
  have h1 := Nat.mod_lt (w.tape w.drawn (Question.nanBits .f64 x y)) (show 2 > 0 by omega)
  have h2 := Nat.mod_lt (w.tape w.drawn (Question.nanBits .f64 x y) / 2) (show 4503599627370495 > 0 by omega)
  generalize w.tape w.drawn (Question.nanBits .f64 x y) % 2 = a at *
  generalize w.tape w.drawn (Question.nanBits .f64 x y) / 2 % 4503599627370495 = c at *
  unfold Fl.rg Fl.infR
  omega

/-- An operation's answer, and the world behind it. -/
def opV (r : Option Nat) (x y : Nat) (w : World) : Nat := r.getD (nanW x y w)
def opN (r : Option Nat) (w : World) : World := match r with | some _ => w | none => w.drew
def divC (x y : Nat) : Nat := (Ieee.double.div x y).getD nan0
def mulC (x y : Nat) : Nat := (Ieee.double.mul x y).getD nan0
def subC (x y : Nat) : Nat := (Ieee.double.sub x y).getD nan0

theorem opN_drewn (r : Option Nat) (w : World) : ∃ n, opN r w = w.drewN n := by
  cases r
  · exact ⟨1, rfl⟩
  · exact ⟨0, rfl⟩

theorem run_quoW (t : TypeId) (x y : Nat) (w : World) : (binOp .quo t (.float .f64 x) (.float .f64 y)).run Try.prog w = .ok (.float .f64 (opV (Ieee.double.div x y) x y w)) (opN (Ieee.double.div x y) w) := by
  cases h : Ieee.double.div x y with
  | some r => exact run_quo h w
  | none =>
    have h' : FloatKind.f64.format.div x y = none := h
    simp [binOp, Op.floatArith, h', opV, opN, nanW, Question.forced, Result.andThen]
theorem run_mulW (t : TypeId) (x y : Nat) (w : World) : (binOp .mul t (.float .f64 x) (.float .f64 y)).run Try.prog w = .ok (.float .f64 (opV (Ieee.double.mul x y) x y w)) (opN (Ieee.double.mul x y) w) := by
  cases h : Ieee.double.mul x y with
  | some r => exact run_mul h w
  | none =>
    have h' : FloatKind.f64.format.mul x y = none := h
    simp [binOp, Op.floatArith, h', opV, opN, nanW, Question.forced, Result.andThen]
theorem run_subW (t : TypeId) (x y : Nat) (w : World) : (binOp .sub t (.float .f64 x) (.float .f64 y)).run Try.prog w = .ok (.float .f64 (opV (Ieee.double.sub x y) x y w)) (opN (Ieee.double.sub x y) w) := by
  cases h : Ieee.double.sub x y with
  | some r => exact run_sub h w
  | none =>
    have h' : FloatKind.f64.format.sub x y = none := h
    simp [binOp, Op.floatArith, h', opV, opN, nanW, Question.forced, Result.andThen]

theorem sm_op {f : Nat → Nat → Option Nat} (hf : ∀ {x y}, Fl.NaN x ∨ Fl.NaN y → f x y = none) {x y x' y' : Nat} (hx : SM x x') (hy : SM y y') (w : World) : SM (opV (f x y) x y w) ((f x' y').getD nan0) := by
  by_cases h : Fl.NaN x ∨ Fl.NaN y
  · have h' : Fl.NaN x' ∨ Fl.NaN y' := h.elim (fun a => Or.inl (hx.nan.1 a)) (fun a => Or.inr (hy.nan.1 a))
    rw [hf h, hf h']
    exact Or.inr ⟨nanW_nan _ _ _, nan0_nan⟩
  · have e1 : x = x' := hx.elim id (fun a => (h (Or.inl a.1)).elim)
    have e2 : y = y' := hy.elim id (fun a => (h (Or.inr a.1)).elim)
    subst e1 e2
    cases hq : f x y with
    | some r => exact Or.inl rfl
    | none => exact Or.inr ⟨nanW_nan _ _ _, nan0_nan⟩
theorem sm_div {x y x' y' : Nat} (hx : SM x x') (hy : SM y y') (w : World) : SM (opV (Ieee.double.div x y) x y w) (divC x' y') := sm_op (f := Ieee.double.div) Fl.div_nan hx hy w
theorem sm_mul {x y x' y' : Nat} (hx : SM x x') (hy : SM y y') (w : World) : SM (opV (Ieee.double.mul x y) x y w) (mulC x' y') := sm_op (f := Ieee.double.mul) Fl.mul_nan hx hy w
theorem sm_sub {x y x' y' : Nat} (hx : SM x x') (hy : SM y y') (w : World) : SM (opV (Ieee.double.sub x y) x y w) (subC x' y') := sm_op (f := Ieee.double.sub) Fl.sub_nan hx hy w

/-- The share that did not go well, of counts. -/
def rateC (G B : Int) : Nat := if wrap64 (G + B) = 0 then nan0 else divC (floatOfInt .f64 B) (floatOfInt .f64 (wrap64 (G + B)))
def burnC (t : Nat) (G B : Int) : Nat := divC (rateC G B) (subC 4607182418800017408 t)
def leftC (t : Nat) (G B : Int) : Nat :=
  if wrap64 (G + B) = 0 then nan0 else
    divC (subC (mulC (subC 4607182418800017408 t) (floatOfInt .f64 (wrap64 (G + B)))) (floatOfInt .f64 B)) (mulC (subC 4607182418800017408 t) (floatOfInt .f64 (wrap64 (G + B))))

/-- What a window's counts are. -/
def sumW (f : Int → Int) (now : Int) (n : Nat) : Int := wrap64 (tot f now n)

theorem rate_arg {w : World} {b g t s : Nat} {now : Int} {m : Bool} {fg fb : Int → Int} (h : BG w b g t s now m fg fb) (n : Int) (hn : ¬ (1 ≤ n ∧ n ≤ s)) :
    Calls Try.prog 21 #[.pointer (some ⟨b, 0, none⟩), .int .i64 n] w fun e w' => e = .returned (.tuple #[.float .f64 0, .int .i64 1]) ∧ Below w.heap.size w w' := by
  have key := Lib.hid (sum_arg h n hn)
  clear h hn
  go_enter Try.func21, Try.ntmps21
  go_wp2_with fail
  refine key.out.mono ?_
  rintro e w1 ⟨rfl, h1⟩
  go_wp2
  go_ret2
  exact ⟨rfl, h1⟩
theorem burn_arg {w : World} {b g t s : Nat} {now : Int} {m : Bool} {fg fb : Int → Int} (h : BG w b g t s now m fg fb) (n : Int) (hn : ¬ (1 ≤ n ∧ n ≤ s)) :
    Calls Try.prog 22 #[.pointer (some ⟨b, 0, none⟩), .int .i64 n] w fun e w' => e = .returned (.tuple #[.float .f64 0, .int .i64 1]) ∧ Below w.heap.size w w' := by
  have key := Lib.hid (rate_arg h n hn)
  clear h hn
  go_enter Try.func22, Try.ntmps22
  go_wp2_with fail
  refine key.out.mono ?_
  rintro e w1 ⟨rfl, h1⟩
  go_wp2
  go_ret2
  exact ⟨rfl, h1⟩
theorem lasts_arg {w : World} {b g t s : Nat} {now : Int} {m : Bool} {fg fb : Int → Int} (h : BG w b g t s now m fg fb) (n : Int) (hn : ¬ (1 ≤ n ∧ n ≤ s)) :
    Calls Try.prog 50 #[.pointer (some ⟨b, 0, none⟩), .int .i64 n] w fun e w' => e = .returned (.tuple #[.float .f64 0, .int .i64 1]) ∧ Below w.heap.size w w' := by
  have key := Lib.hid (burn_arg h n hn)
  clear h hn
  go_enter Try.func50, Try.ntmps50
  go_wp2_with fail
  refine key.out.mono ?_
  rintro e w1 ⟨rfl, h1⟩
  go_wp2
  go_ret2
  exact ⟨rfl, h1⟩

theorem sumw_any {w : World} {b g t s : Nat} {now : Int} {m : Bool} {fg fb : Int → Int} (h : BG w b g t s now m fg fb) (n : Nat) (hn : 1 ≤ n) (hn2 : n ≤ s) :
    Calls Try.prog 38 #[.pointer (some ⟨b, 0, none⟩), .int .i64 n] w fun e w' => e = .returned (.tuple #[.int .i64 (sumW fg now n), .int .i64 (sumW fb now n), .int .i64 0]) ∧ Below w.heap.size w w' := sum_any h n hn hn2

/-- A float of a budget, and OK; nothing has turned. -/
def FlP (c : Nat) (W : World) (e : Ending) (w' : World) : Prop := ∃ z, SM z c ∧ e = .returned (.tuple #[.float .f64 z, .int .i64 0]) ∧ Below W.heap.size W w'
/-- A float alone. -/
def FlQ (c : Nat) (W : World) (e : Ending) (w' : World) : Prop := ∃ z, SM z c ∧ e = .returned (.float .f64 z) ∧ Below W.heap.size W w'

theorem below_opN {B : Nat} {w w' : World} (h : Below B w w') (r : Option Nat) : Below B w (opN r w') := by
  obtain ⟨k, hk⟩ := opN_drewn r w'
  rw [hk]; exact below_dN h

theorem rate_any {w : World} {b g t s : Nat} {now : Int} {m : Bool} {fg fb : Int → Int} (h : BG w b g t s now m fg fb) (n : Nat) (hn : 1 ≤ n) (hn2 : n ≤ s) :
    Calls Try.prog 21 #[.pointer (some ⟨b, 0, none⟩), .int .i64 n] w (FlP (rateC (sumW fg now n) (sumW fb now n)) w) := by
  have key := Lib.hid (sumw_any h n hn hn2)
  have hq := fun t x y w => run_quoW t x y w
  generalize sumW fg now n = G at *
  generalize sumW fb now n = B at *
  clear h
  go_enter Try.func21, Try.ntmps21
  go_wp2_with fail
  refine key.out.mono ?_
  rintro e w1 ⟨rfl, h1⟩
  by_cases h0 : wrap64 (G + B) = 0
  · go_wp2_with fail
    refine (nan_any _).mono ?_
    rintro e w2 ⟨rfl, rfl⟩
    go_wp2
    go_ret2
    refine Exists.intro nan0 ⟨?_, rfl, h1⟩
    unfold rateC; rw [if_pos h0]; exact SM.refl _
  · have i1 : (wrap64 (G + B) == 0) = false := by simp [h0]
    go_wp2
    go_ret2
    refine Exists.intro _ ⟨?_, rfl, below_opN h1 _⟩
    unfold rateC; rw [if_neg h0]; exact sm_div (SM.refl _) (SM.refl _) _

theorem burn_any {w : World} {b g t s : Nat} {now : Int} {m : Bool} {fg fb : Int → Int} (h : BG w b g t s now m fg fb) (n : Nat) (hn : 1 ≤ n) (hn2 : n ≤ s) :
    Calls Try.prog 22 #[.pointer (some ⟨b, 0, none⟩), .int .i64 n] w (FlP (burnC t (sumW fg now n) (sumW fb now n)) w) := by
  have key := Lib.hid (rate_any h n hn hn2)
  have hq := fun t x y w => run_quoW t x y w
  have hs := fun t x y w => run_subW t x y w
  generalize sumW fg now n = G at *
  generalize sumW fb now n = B at *
  obtain ⟨rg, rb, h, hi⟩ := h
  go_enter Try.func22, Try.ntmps22
  go_wp2_with fail
  refine key.out.mono ?_
  rintro e w1 ⟨z, hz, rfl, h1⟩
  have c0 := (h.own h1).cells.1
  have hz := Lib.hid hz
  clear h hi key
  go_wp2
  go_ret2
  refine Exists.intro _ ⟨?_, rfl, below_opN (below_opN h1 _) _⟩
  unfold burnC; exact sm_div hz.out (sm_sub (SM.refl _) (SM.refl _) _) _

theorem left_any {w : World} {b g t s : Nat} {now : Int} {m : Bool} {fg fb : Int → Int} (h : BG w b g t s now m fg fb) :
    Calls Try.prog 23 #[.pointer (some ⟨b, 0, none⟩)] w (FlQ (leftC t (sumW fg now s) (sumW fb now s)) w) := by
  have hq := fun t x y w => run_quoW t x y w
  have hs := fun t x y w => run_subW t x y w
  have hm := fun t x y w => run_mulW t x y w
  have hb := h
  obtain ⟨rg, rb, h, hi⟩ := h
  have s1 := h.s1
  have key := Lib.hid (sumw_any hb s s1 (Nat.le_refl _))
  generalize sumW fg now s = G at *
  generalize sumW fb now s = B at *
  have c1 := h.cells.2.1
  go_enter Try.func23, Try.ntmps23
  go_wp2_with fail
  refine key.out.mono ?_
  rintro e w1 ⟨rfl, h1⟩
  have c0 := (h.own h1).cells.1
  clear h hi key hb c1
  by_cases h0 : wrap64 (G + B) = 0
  · go_wp2_with fail
    refine (nan_any _).mono ?_
    rintro e w2 ⟨rfl, rfl⟩
    go_wp2
    go_ret
    refine Exists.intro nan0 ⟨?_, rfl, h1⟩
    unfold leftC; rw [if_pos h0]; exact SM.refl _
  · have i1 : (wrap64 (G + B) == 0) = false := by simp [h0]
    go_wp2
    go_ret
    refine Exists.intro _ ⟨?_, rfl, below_opN (below_opN (below_opN (below_opN h1 _) _) _) _⟩
    unfold leftC; rw [if_neg h0]
    exact sm_div (sm_sub (sm_mul (sm_sub (SM.refl _) (SM.refl _) _) (SM.refl _) _) (SM.refl _) _) (sm_mul (sm_sub (SM.refl _) (SM.refl _) _) (SM.refl _) _) _
end Go.Proofs.Ytmdfkljmgijdlaa
