/- kinds: errors without parts: those that are plain values; those behind a pointer. -/
import Derived.Test.YtfmnbhhpimpjbaaGreatDoorTe
namespace Go.Proofs.YtfmnbhhpimpjbaaGreatDoor
open Go.RowKit
set_option linter.unusedVariables false

set_option maxRecDepth 100000 in
set_option maxHeartbeats 8000000 in
theorem leaf_value (s : Sp) (h : s.kind = 1 ∨ s.kind = 2 ∨ s.kind = 3 ∨ s.kind = 4 ∨ s.kind = 11 ∨ s.kind = 19) (ia : Option Addr) (ic : Nat) (pa : Option Addr) (pc : Nat) (w : World) :
    Calls Tryz.prog 55 #[.agg (spC s ia ic pa pc)] w fun e w' => e = .returned (leafV s) ∧ Below w.heap.size w w' := by
  obtain ⟨kind, nil, text, number, small, re, im, flag, mask, items, parts⟩ := s
  unfold spC
  simp only at h
  rcases h with rfl | rfl | rfl | rfl | rfl | rfl
  all_goals
    go_enter Tryz.func55, Tryz.ntmps55
    go_wp2
    go_ret
    exact ⟨rfl, (Below.refl _ _).alloc (Nat.le_refl _) _⟩
set_option maxRecDepth 100000 in
set_option maxHeartbeats 8000000 in
theorem leaf_pointer (s : Sp) (h : s.kind = 9 ∨ s.kind = 10 ∨ s.kind = 21 ∨ s.kind = 22) (ia : Option Addr) (ic : Nat) (pa : Option Addr) (pc : Nat) (w : World) :
    Calls Tryz.prog 55 #[.agg (spC s ia ic pa pc)] w fun e w' => ∃ T T' cs, (s.kind = 9 ∧ T = 111 ∧ T' = 115 ∧ cs = #[.string s.text] ∨ s.kind = 10 ∧ T = 163 ∧ T' = 183 ∧ cs = #[.string s.text, .bool s.flag] ∨
        s.kind = 21 ∧ T = 164 ∧ T' = 189 ∧ cs = #[.string s.text, .bool s.flag] ∨ s.kind = 22 ∧ T = 165 ∧ T' = 191 ∧ cs = #[.string s.text, .int .i16 s.number]) ∧
      e = .returned (.iface T (.pointer (some ⟨w.heap.size + 1, 0, none⟩))) ∧ w' = (w.alloc (.cells (spC s ia ic pa pc) 34)).alloc (.cells cs T') := by
  obtain ⟨kind, nil, text, number, small, re, im, flag, mask, items, parts⟩ := s
  simp only at h
  rcases h with rfl | rfl | rfl | rfl
  all_goals
    unfold spC
    go_enter Tryz.func55, Tryz.ntmps55
    go_wp2
    go_ret
    exact ⟨_, _, _, by simp, rfl, rfl⟩
end Go.Proofs.YtfmnbhhpimpjbaaGreatDoor
