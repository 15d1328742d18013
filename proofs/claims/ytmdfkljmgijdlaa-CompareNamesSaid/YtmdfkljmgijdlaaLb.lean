/- CompareNames' walk. -/
import Derived.Test.YtmdfkljmgijdlaaLa
namespace Go.Proofs.Ytmdfkljmgijdlaa
open Go.RowKit
set_option linter.unusedVariables false

theorem then_below {w w1 w2 : World} (h : Below w.heap.size w w1) (k : Below w1.heap.size w1 w2) : Below w.heap.size w w2 := h.trans (k.mono h.size)
theorem alloc_below {w w1 : World} (h : Below w.heap.size w w1) (o : Obj) : Below w.heap.size w (w1.alloc o) := h.alloc h.size _

set_option maxRecDepth 100000 in
theorem cnames_walk (w : World) : Calls Try.prog 11 #[] w fun e w' => e = .returned (.bool true) ∧ Below w.heap.size w w' := by
  have b0 : Below w.heap.size w w := Below.refl _ _
  go_enter Try.func11, Try.ntmps11
  go_wp2_with fail
  refine (two_nil _ _ _).mono ?_
  rintro e w1 ⟨rfl, c1⟩
  have b1 := then_below b0 c1
  clear c1 b0
  go_wp2_with fail
  refine (four_nil _).mono ?_
  rintro e w2 ⟨rfl, c2⟩
  have b2 := then_below b1 c2
  clear c2 b1
  go_wp2_with fail
  refine (rows_nil _ _ _).mono ?_
  rintro e w3 ⟨rfl, c3⟩
  have b3 := then_below (alloc_below b2 _) c3
  clear c3 b2
  go_wp2_with fail
  refine (seek_nil _ _ _).mono ?_
  rintro e w4 ⟨rfl, c4⟩
  have b4 := then_below b3 c4
  clear c4 b3
  go_wp2_with fail
  refine (bytype_nil _ _).mono ?_
  rintro e w5 ⟨rfl, c5⟩
  have b5 := then_below b4 c5
  clear c5 b4
  go_wp2_with fail
  refine (nothing_nil _ _).mono ?_
  rintro e w6 ⟨rfl, c6⟩
  have b6 := then_below b5 c6
  clear c6 b5
  go_wp2_with fail
  refine (classes_nil _ _).mono ?_
  rintro e w7 ⟨rfl, c7⟩
  have b7 := then_below b6 c7
  clear c7 b6
  go_wp2_with fail
  refine (cnew_nil _).mono ?_
  rintro e w' ⟨rfl, rfl⟩
  go_wp2_with fail
  refine (put_nil _ _).mono ?_
  rintro e w9 ⟨rfl, c9⟩
  have b9 := then_below b7 c9
  clear c9 b7
  go_wp2_with fail
  refine (has_nil _ _).mono ?_
  rintro e w10 ⟨rfl, c10⟩
  have b10 := then_below b9 c10
  clear c10 b9
  go_wp2_with fail
  refine (drop_nil _ _).mono ?_
  rintro e w11 ⟨rfl, c11⟩
  have b11 := then_below b10 c11
  clear c11 b10
  go_wp2_with fail
  refine (clear_nil _).mono ?_
  rintro e w' ⟨rfl, rfl⟩
  go_wp2_with fail
  refine (len_nil _).mono ?_
  rintro e w' ⟨rfl, rfl⟩
  go_wp2
  go_ret
  exact ⟨rfl, b11⟩
end Go.Proofs.Ytmdfkljmgijdlaa
