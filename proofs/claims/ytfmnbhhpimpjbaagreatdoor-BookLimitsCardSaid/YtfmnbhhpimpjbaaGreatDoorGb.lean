/- book: Error, made, Kind, Size, Len of a book. -/
import Derived.Test.YtfmnbhhpimpjbaaGreatDoorVc
import Derived.Test.YtfmnbhhpimpjbaaGreatDoorVe
namespace Go.Proofs.YtfmnbhhpimpjbaaGreatDoor
open Go.RowKit
set_option linter.unusedVariables false

set_option maxRecDepth 100000 in
theorem error_any {D : Nat → Prop} {base bb : Nat} {v : Value} {rows : List BRow} (h : Int) (w : World) (hB : BookIn D w base bb v rows) :
    Calls Tryz.prog 35 #[.pointer (some ⟨bb, 0, none⟩), .int .i64 h] w fun e w' => e = .returned (.tuple #[errAt rows h, .int .i64 (atE rows.length h)]) ∧ Below w.heap.size w w' := by
  have HA := Lib.hid (at_any h w hB)
  have HE := Lib.hid (rowAt_err rows h)
  clear hB
  go_enter Tryz.func35, Tryz.ntmps35
  go_wp2_with fail
  refine HA.out.mono ?_
  rintro e w2 ⟨g, o, rfl, hc, hb, _⟩
  have c0 : w2.cell? ⟨g, o, none⟩ = some (errAt rows h) := (hc 0 (by omega)).trans (by rw [← HE.out]; rfl)
  have HB := Lib.hid hb
  clear hc hb HA HE
  go_wp2
  go_ret2
  exact ⟨rfl, HB.out⟩
/-- What is wrong with a handle that is to name an error. -/
def madeE (n : Nat) (h : Int) : Int := if 1 ≤ h ∧ h ≤ n then 0 else 50
set_option maxRecDepth 100000 in
theorem made_any {D : Nat → Prop} {base bb : Nat} {v : Value} {rows : List BRow} (h : Int) (w : World) (hB : BookIn D w base bb v rows) :
    Calls Tryz.prog 90 #[.pointer (some ⟨bb, 0, none⟩), .int .i64 h] w fun e w' => ∃ g k, e = .returned (.tuple #[.pointer (some ⟨g, k, none⟩), .int .i64 (madeE rows.length h)]) ∧
      (∀ j, j < 16 → w'.cell? ⟨g, k + j, none⟩ = (rowC (rowAt rows h))[j]?) ∧ Below w.heap.size w w' ∧ (v.ownBlock = some g ∨ w.heap.size ≤ g) := by
  have HA := Lib.hid (at_any h w hB)
  have HM := Lib.hid (show madeE rows.length h = if h = 0 then 50 else atE rows.length h by
    unfold madeE atE
    by_cases h0 : h = 0
    · rw [if_pos h0, if_neg (by omega)]
    · rw [if_neg h0]
      by_cases h1 : 0 ≤ h ∧ h ≤ rows.length
      · rw [if_pos h1, if_pos (by omega)]
      · rw [if_neg h1, if_neg (by omega)])
  clear hB
  by_cases h0 : h = 0
  · have i0 : (h == 0) = true := by simpa using h0
    have hz : atE rows.length h = 0 := by unfold atE; rw [if_pos (by omega)]
    have HM2 := Lib.hid (show madeE rows.length h = 50 by rw [HM.out, if_pos h0])
    rw [hz] at HA
    clear HM h0 hz
    go_enter Tryz.func90, Tryz.ntmps90
    go_wp2_with fail
    refine HA.out.mono ?_
    rintro e w2 ⟨g, o, rfl, hc, hb, hg⟩
    have HC := Lib.hid hc
    have HB := Lib.hid hb
    have HG := Lib.hid hg
    clear hc hb hg HA
    go_wp2
    go_ret2
    exact ⟨g, o, by rw [HM2.out]; rfl, HC.out, HB.out, HG.out⟩
  · have i0 : (h == 0) = false := by simpa using h0
    have HM2 := Lib.hid (show madeE rows.length h = atE rows.length h by rw [HM.out, if_neg h0])
    have hat : atE rows.length h = 0 ∨ atE rows.length h = 50 := by unfold atE; split <;> simp
    clear HM h0
    generalize atE rows.length h = E at *
    rcases hat with rfl | rfl
    all_goals
      go_enter Tryz.func90, Tryz.ntmps90
      go_wp2_with fail
      refine HA.out.mono ?_
      rintro e w2 ⟨g, o, rfl, hc, hb, hg⟩
      have HC := Lib.hid hc
      have HB := Lib.hid hb
      have HG := Lib.hid hg
      clear hc hb hg
      go_wp2
      go_ret2
      exact ⟨g, o, by rw [HM2.out]; rfl, HC.out, HB.out, HG.out⟩
end Go.Proofs.YtfmnbhhpimpjbaaGreatDoor
