/- The contract of the statement's own 'awake'; reading an owned row of floats. -/
import Derived.Test.YtmdfkljmgijdlaaGf
namespace Go.Proofs.Ytmdfkljmgijdlaa
open Go.RowKit
set_option linter.unusedVariables false

/-- An owned row that is not empty: its block, and its cells. -/
theorem own_open {w : World} {base : Nat} {e : TypeId} {v : Value} {n : Nat} {xs : List Value} (h : w.ownsRow base e 1 v n xs) (hn : n ≠ 0) :
    ∃ g cap, v = .slice (some ⟨g, 0, none⟩) n cap ∧ base ≤ g ∧ g < w.heap.size ∧ n ≤ cap ∧ cap ≤ maxLen ∧ ∀ i, i < n → w.cell? ⟨g, i, none⟩ = xs[i]? := by
  obtain ⟨hl, h2⟩ := h
  rcases h2 with ⟨_, h0⟩ | ⟨g, cap, cur, rfl, hb, hg, hle, hm, hs, ht⟩
  · exact absurd h0 hn
  · refine ⟨g, cap, rfl, hb, (Array.getElem?_eq_some_iff.1 hg).1, hle, hm, fun i hi => ?_⟩
    rw [cell_of_block hg, ← ht, Nat.mul_one, List.getElem?_take, if_pos hi]
    simp

/-- An owned row, empty or not: a slice of that length, and its cells. -/
theorem own_slice {w : World} {base : Nat} {e : TypeId} {v : Value} {n : Nat} {xs : List Value} (h : w.ownsRow base e 1 v n xs) :
    ∃ a cap, v = .slice a n cap ∧ (0 < n → ∃ g, a = some ⟨g, 0, none⟩ ∧ base ≤ g ∧ g < w.heap.size ∧ ∀ i, i < n → w.cell? ⟨g, i, none⟩ = xs[i]?) := by
  by_cases hn : n = 0
  · subst hn
    rcases h.2 with ⟨rfl, _⟩ | ⟨g, cap, cur, rfl, _⟩
    · exact ⟨none, 0, rfl, fun h => absurd h (by omega)⟩
    · exact ⟨_, cap, rfl, fun h => absurd h (by omega)⟩
  · obtain ⟨g, cap, rfl, h1, h2, _, _, h3⟩ := own_open h hn
    exact ⟨_, cap, rfl, fun _ => ⟨g, rfl, h1, h2, h3⟩⟩

theorem waitsL_get (f g c j : Nat) (s : Int) (n i : Nat) (h : i < n) : ((waitsL f g c j s n).map (Value.float .f64))[i]? = some (.float .f64 (waitK f g c j s i)) := by
  unfold waitsL; simp [h]

theorem awake_list : waitsL 4607182418800017408 4611686018427387904 4613937818241073152 0 0 3 = [4607182418800017408, 4611686018427387904, 4613937818241073152] := by decide +kernel

set_option maxRecDepth 100000 in
set_option maxHeartbeats 2000000 in
theorem awake_any (w : World) : Calls Try.prog 16 #[] w fun e w' => e = .returned (.bool true) ∧ Below w.heap.size w w' := by
  have hok : badPlan 4 4607182418800017408 4611686018427387904 4613937818241073152 0 0 0 = false := by decide +kernel
  have h1 : (FloatKind.f64.format.order 4607182418800017408 4607182418800017408 == some .eq) = true := by decide +kernel
  have h2 : (FloatKind.f64.format.order 4611686018427387904 4611686018427387904 == some .eq) = true := by decide +kernel
  have h3 : (FloatKind.f64.format.order 4613937818241073152 4613937818241073152 == some .eq) = true := by decide +kernel
  have HOK := Lib.hid hok
  clear hok
  go_enter Try.func16, Try.ntmps16
  go_wp2_with fail
  refine (waits_ok 4 _ _ _ _ _ _ _ _ _ _ HOK.out (by decide) (by decide) (by decide) (by decide)).mono ?_
  rintro e w1 ⟨v, rfl, hown, hb⟩
  rw [show (4 : Int).toNat - 1 = 3 from rfl, awake_list] at hown
  obtain ⟨g, cap, rfl, _, _, hnc, _, hcells⟩ := own_open hown (by decide)
  have c0 := hcells 0 (by decide)
  have c1 := hcells 1 (by decide)
  have c2 := hcells 2 (by decide)
  simp only [List.map_cons, List.map_nil, List.getElem?_cons_zero, List.getElem?_cons_succ] at c0 c1 c2
  clear hcells hown hnc
  go_wp2
  go_ret
  exact ⟨rfl, hb⟩
end Go.Proofs.Ytmdfkljmgijdlaa
