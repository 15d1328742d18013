/- kinds.Make of what is no spec; KindsNames' walk. -/
import Derived.Test.YtmdfkljmgijdlaaMb
import Derived.Test.YtmdfkljmgijdlaaK2
namespace Go.Proofs.Ytmdfkljmgijdlaa
open Go.RowKit
set_option linter.unusedVariables false

/-- Make, where Check refuses. -/
theorem kmake_no (k err : Int) (he : err = 40 ∨ err = 41) (a : Option Addr) (n cp : Nat) (hc : ∀ w, Calls Try.prog 116 #[specV k (.slice a n cp)] w fun e w' => e = .returned (.int .i64 err) ∧ Below w.heap.size w w') (w : World) :
    Calls Try.prog 64 #[specV k (.slice a n cp), .slice none 0 0] w fun e w' => e = .returned (.tuple #[.nilIface, .int .i64 err]) ∧ Below w.heap.size w w' := by
  have H1 := Lib.hid (alloc_at w (.cells (specC k (.slice a n cp)) 134))
  have HC := Lib.hid hc
  have HE := Lib.hid he
  unfold specV
  clear hc he
  go_enter Try.func64, Try.ntmps64
  go_wp2_with ((with_reducible refine at_op (.load 134 (.tmp 2)) rfl ?_); refine wpList_load_row rfl 134 (.tmp 2) rfl w.heap.size rfl 134 _ (0, 0) _ H1.out Try.underlying134 rfl (by kernel_rfl) ?_)
  refine (HC.out _).mono ?_
  rintro e w2 ⟨rfl, b2⟩
  have bel2 : Below w.heap.size w w2 := ((Below.refl _ _).alloc (Nat.le_refl _) _).trans (b2.mono (by simp))
  rcases HE.out with rfl | rfl
  · go_wp2
    go_ret2
    exact ⟨rfl, bel2⟩
  · go_wp2
    go_ret2
    exact ⟨rfl, bel2⟩

theorem kmake_parts (k : Int) (a : Option Addr) (cp : Nat) (hc : ∀ w, Calls Try.prog 116 #[specV k (.slice a 1 cp)] w fun e w' => e = .returned (.int .i64 0) ∧ Below w.heap.size w w') (w : World) :
    Calls Try.prog 64 #[specV k (.slice a 1 cp), .slice none 0 0] w fun e w' => e = .returned (.tuple #[.nilIface, .int .i64 41]) ∧ Below w.heap.size w w' := by
  have H1 := Lib.hid (alloc_at w (.cells (specC k (.slice a 1 cp)) 134))
  have HC := Lib.hid hc
  unfold specV
  clear hc
  go_enter Try.func64, Try.ntmps64
  go_wp2_with ((with_reducible refine at_op (.load 134 (.tmp 2)) rfl ?_); refine wpList_load_row rfl 134 (.tmp 2) rfl w.heap.size rfl 134 _ (0, 0) _ H1.out Try.underlying134 rfl (by kernel_rfl) ?_)
  refine (HC.out _).mono ?_
  rintro e w2 ⟨rfl, b2⟩
  have h2 : w2.heap[w.heap.size]? = some (.cells (specC k (.slice a 1 cp)) 134 (0, 0)) := by rw [b2.block _ (by simp)]; exact H1.out
  have bel2 : Below w.heap.size w w2 := ((Below.refl _ _).alloc (Nat.le_refl _) _).trans (b2.mono (by simp))
  have c2 := spec_cells h2
  clear b2 h2 H1
  go_wp2
  go_ret2
  exact ⟨rfl, bel2⟩

set_option maxRecDepth 100000 in
theorem knames_walk (w : World) : Calls Try.prog 12 #[] w fun e w' => e = .returned (.bool true) ∧ Below w.heap.size w w' := by
  go_enter Try.func12, Try.ntmps12
  go_wp2_with fail
  refine (kmake_no 0 40 (.inl rfl) none 0 0 (kcheck_no 0 (.inl rfl) none 0 0) _).mono ?_
  rintro e w1 ⟨rfl, b1⟩
  go_wp2_with fail
  refine (kmake_no 27 40 (.inl rfl) none 0 0 (kcheck_no 27 (.inr rfl) none 0 0) _).mono ?_
  rintro e w2 ⟨rfl, c2⟩
  have b2 := b1.trans (c2.mono b1.size)
  clear c2 b1
  go_wp2_with fail
  refine (kmake_no 1 41 (.inr rfl) _ 1 1 (kcheck_yes 1 0 41 (.inl rfl) (fun w => parts1 1 w rfl) (.inl ⟨rfl, rfl⟩) _ 1) _).mono ?_
  rintro e w3 ⟨rfl, c3⟩
  have b3 := (b2.alloc b2.size _).trans (c3.mono (by have := b2.size; simp; omega))
  clear c3 b2
  go_wp2_with fail
  refine (kmake_parts 14 _ 1 (kcheck_yes 14 1 0 (.inr rfl) (fun w => parts14 14 w rfl) (.inr ⟨rfl, rfl⟩) _ 1) _).mono ?_
  rintro e w4 ⟨rfl, c4⟩
  have b4 := (b3.alloc b3.size _).trans (c4.mono (by have := b3.size; simp; omega))
  clear c4 b3
  go_wp2_with fail
  refine (parts16 _).mono ?_
  rintro e w5 ⟨rfl, rfl⟩
  go_wp2
  go_ret
  exact ⟨rfl, b4⟩
end Go.Proofs.Ytmdfkljmgijdlaa
