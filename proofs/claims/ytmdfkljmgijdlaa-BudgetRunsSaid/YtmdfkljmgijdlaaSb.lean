/- The floats of the document's budget; the same float. -/
import Derived.Test.YtmdfkljmgijdlaaSa
namespace Go.Proofs.Ytmdfkljmgijdlaa
open Go.RowKit
set_option linter.unusedVariables false

theorem rrate_any {w : World} {b t s : Nat} {now : Int} {m : Bool} {a : Option Addr} {n cp : Nat} {V : Nat → Int × Int × Int} (h : MR w b t s now m a n cp V) (k : Nat) (hk : 1 ≤ k) (hk2 : k ≤ s) :
    Calls Try.prog 100 #[.pointer (some ⟨b, 0, none⟩), .int .i64 k] w (FlQ (rateC (sumW (goodN V n) now k) (sumW (badN V n) now k)) w) := by
  have key := Lib.hid (rsum_any h k hk (by have := h.s2; omega))
  have hq := fun t x y w => run_quoW t x y w
  generalize sumW (goodN V n) now k = G at *
  generalize sumW (badN V n) now k = B at *
  clear h
  go_enter Try.func100, Try.ntmps100
  go_wp2_with fail
  refine key.out.mono ?_
  rintro e w1 ⟨rfl, h1⟩
  by_cases h0 : wrap64 (G + B) = 0
  · go_wp2_with fail
    refine (nan_any _).mono ?_
    rintro e w2 ⟨rfl, rfl⟩
    go_wp2
    go_ret
    refine Exists.intro nan0 ⟨?_, rfl, h1⟩
    unfold rateC; rw [if_pos h0]; exact SM.refl _
  · have i1 : (wrap64 (G + B) == 0) = false := by simp [h0]
    go_wp2
    go_ret
    refine Exists.intro _ ⟨?_, rfl, below_opN h1 _⟩
    unfold rateC; rw [if_neg h0]; exact sm_div (SM.refl _) (SM.refl _) _

theorem rburn_any {w : World} {b t s : Nat} {now : Int} {m : Bool} {a : Option Addr} {n cp : Nat} {V : Nat → Int × Int × Int} (h : MR w b t s now m a n cp V) (k : Nat) (hk : 1 ≤ k) (hk2 : k ≤ s) :
    Calls Try.prog 101 #[.pointer (some ⟨b, 0, none⟩), .int .i64 k] w (FlQ (burnC t (sumW (goodN V n) now k) (sumW (badN V n) now k)) w) := by
  have hq := fun t x y w => run_quoW t x y w
  have hs := fun t x y w => run_subW t x y w
  have c0 := h.cells.1
  obtain ⟨dn, hdn⟩ := opN_drewn (Ieee.double.sub 4607182418800017408 t) w
  have key := Lib.hid (rrate_any (h.drewN dn) k hk hk2)
  generalize sumW (goodN V n) now k = G at *
  generalize sumW (badN V n) now k = B at *
  clear h
  go_enter Try.func101, Try.ntmps101
  go_wp2_with fail
  refine key.out.mono ?_
  rintro e w1 ⟨z, hz, rfl, h1⟩
  have h1 : Below w.heap.size w w1 := ⟨h1.os, h1.tape, h1.output, h1.size, h1.block⟩
  have hz := Lib.hid hz
  clear key
  go_wp2
  go_ret
  refine Exists.intro _ ⟨?_, rfl, below_opN h1 _⟩
  unfold burnC; exact sm_div hz.out (sm_sub (SM.refl _) (SM.refl _) _) _

theorem rleft_any {w : World} {b t s : Nat} {now : Int} {m : Bool} {a : Option Addr} {n cp : Nat} {V : Nat → Int × Int × Int} (h : MR w b t s now m a n cp V) :
    Calls Try.prog 97 #[.pointer (some ⟨b, 0, none⟩)] w (FlQ (leftC t (sumW (goodN V n) now s) (sumW (badN V n) now s)) w) := by
  have hq := fun t x y w => run_quoW t x y w
  have hs := fun t x y w => run_subW t x y w
  have hm := fun t x y w => run_mulW t x y w
  have key := Lib.hid (rsum_any h s h.s1 h.s2)
  have H := Lib.hid h
  have c1 := h.cells.2.1
  generalize sumW (goodN V n) now s = G at *
  generalize sumW (badN V n) now s = B at *
  clear h
  go_enter Try.func97, Try.ntmps97
  go_wp2_with fail
  refine key.out.mono ?_
  rintro e w1 ⟨rfl, h1⟩
  have c0 := (H.out.own h1).cells.1
  clear H key c1
  by_cases h0 : wrap64 (G + B) = 0
  · go_wp2_with fail
    refine (nan_any _).mono ?_
    rintro e w2 ⟨rfl, rfl⟩
    go_wp2
    go_ret
    refine Exists.intro nan0 ⟨?_, rfl, h1⟩
    unfold leftC; rw [if_pos h0]; exact SM.refl _
  · have i1 : (wrap64 (G + B) == 0) = false := by simp [h0]
    go_wp2
    go_ret
    refine Exists.intro _ ⟨?_, rfl, below_opN (below_opN (below_opN (below_opN h1 _) _) _) _⟩
    unfold leftC; rw [if_neg h0]
    exact sm_div (sm_sub (sm_mul (sm_sub (SM.refl _) (SM.refl _) _) (SM.refl _) _) (SM.refl _) _) (sm_mul (sm_sub (SM.refl _) (SM.refl _) _) (SM.refl _) _) _

set_option maxRecDepth 100000 in
theorem rlasts_any {w : World} {b t s : Nat} {now : Int} {m : Bool} {a : Option Addr} {n cp : Nat} {V : Nat → Int × Int × Int} (h : MR w b t s now m a n cp V) (k : Nat) (hk : 1 ≤ k) (hk2 : k ≤ s) :
    Calls Try.prog 102 #[.pointer (some ⟨b, 0, none⟩), .int .i64 k] w (FlQ (lastsC s (leftC t (sumW (goodN V n) now s) (sumW (badN V n) now s)) (burnC t (sumW (goodN V n) now k) (sumW (badN V n) now k))) w) := by
  have hq := fun t x y w => run_quoW t x y w
  have hm := fun t x y w => run_mulW t x y w
  have K1 := Lib.hid (rleft_any h)
  have H := Lib.hid h
  clear h
  go_enter Try.func102, Try.ntmps102
  go_wp2_with fail
  refine K1.out.mono ?_
  rintro e w1 ⟨x, hx, rfl, h1⟩
  have hb1 := H.out.own h1
  have K2 := Lib.hid (rburn_any hb1 k hk hk2)
  have HX := Lib.hid hx
  clear K1 hx
  go_wp2_with fail
  refine K2.out.mono ?_
  rintro e w2 ⟨y, hy, rfl, h2⟩
  have hb2 := hb1.own h2
  have h3 : Below w.heap.size w w2 := h1.trans (h2.mono h1.size)
  have HY := Lib.hid hy
  have c1 := hb2.cells.2.1
  clear K2 hy H h1 h2 hb1 hb2
  have key : ∀ (v : Nat) (w3 : World), v = lastsC s x y → Below w.heap.size w w3 → FlQ (lastsC s (leftC t (sumW (goodN V n) now s) (sumW (badN V n) now s)) (burnC t (sumW (goodN V n) now k) (sumW (badN V n) now k))) w (.returned (.float .f64 v)) w3 := by
    intro v w3 hv hb
    exact ⟨v, by rw [hv]; exact lastsC_sm HX.out HY.out, rfl, hb⟩
  have KEY := Lib.hid key
  clear key
  cases e1 : (FloatKind.f64.format.order x x != some .eq)
  · cases e2 : (FloatKind.f64.format.order y y != some .eq)
    · cases e3 : (FloatKind.f64.format.order x 0 == some .lt || FloatKind.f64.format.order x 0 == some .eq)
      · cases e4 : (FloatKind.f64.format.order y 0 == some .eq)
        · have E := Lib.hid (And.intro e1 (And.intro e2 (And.intro e3 e4)))
          go_wp2
          go_ret
          refine Exists.intro _ ⟨?_, rfl, below_opN (below_opN h3 _) _⟩
          have q : SM (opV (Ieee.double.div (opV (Ieee.double.mul x (floatOfInt .f64 s)) x (floatOfInt .f64 s) w2) y) (opV (Ieee.double.mul x (floatOfInt .f64 s)) x (floatOfInt .f64 s) w2) y (opN (Ieee.double.mul x (floatOfInt .f64 s)) w2)) (lastsC s x y) := by
            obtain ⟨e1, e2, e3, e4⟩ := E.out
            unfold lastsC
            rw [e1, e2, e3, e4]
            exact sm_div (sm_mul (SM.refl _) (SM.refl _) _) (SM.refl _) _
          exact q.trans (lastsC_sm HX.out HY.out)
        · have E := Lib.hid (And.intro e1 (And.intro e2 (And.intro e3 e4)))
          go_wp2_with fail
          refine (inf_any _).mono ?_
          rintro e w3 ⟨rfl, rfl⟩
          go_wp2
          go_ret
          refine KEY.out _ _ ?_ h3
          obtain ⟨e1, e2, e3, e4⟩ := E.out
          unfold lastsC
          rw [e1, e2, e3, e4]; rfl
      · have E := Lib.hid (And.intro e1 (And.intro e2 e3))
        go_wp2
        go_ret
        refine KEY.out _ _ ?_ h3
        obtain ⟨e1, e2, e3⟩ := E.out
        unfold lastsC
        rw [e1, e2, e3]; rfl
    · have E := Lib.hid (And.intro e1 e2)
      go_wp2_with fail
      refine (nan_any _).mono ?_
      rintro e w3 ⟨rfl, rfl⟩
      go_wp2
      go_ret
      refine KEY.out _ _ ?_ h3
      obtain ⟨e1, e2⟩ := E.out
      unfold lastsC
      rw [e1, e2]; rfl
  · have E := Lib.hid e1
    go_wp2_with fail
    refine (nan_any _).mono ?_
    rintro e w3 ⟨rfl, rfl⟩
    go_wp2
    go_ret
    refine KEY.out _ _ ?_ h3
    unfold lastsC
    rw [E.out]; rfl

/-- The same float: told. -/
theorem same26_any {x y : Nat} (h : SM x y) (w : World) : Calls Try.prog 96 #[.float .f64 x, .float .f64 y] w fun e w' => e = .returned (.bool true) ∧ w' = w := by
  have hbits := bits_run
  by_cases hn : Fl.NaN x
  · have n1 : (FloatKind.f64.format.order x x != some .eq) = true := order_nan_self hn
    have n2 : (FloatKind.f64.format.order y y != some .eq) = true := order_nan_self (h.nan.1 hn)
    clear h hn
    go_enter Try.func96, Try.ntmps96
    go_wp2
    go_ret
    exact ⟨rfl, rfl⟩
  · have hny : ¬ Fl.NaN y := fun g => hn (h.nan.2 g)
    have e := h.eq hny
    subst e
    have n1 : (FloatKind.f64.format.order x x != some .eq) = false := by rw [bne, Fl.eq_key hn hn]; simp
    have n2 : (((x : Int)) == ((x : Int))) = true := by simp
    clear h hn hny
    go_enter Try.func96, Try.ntmps96
    go_wp2
    go_ret
    exact ⟨rfl, rfl⟩
end Go.Proofs.Ytmdfkljmgijdlaa
