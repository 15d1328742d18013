/- kinds: boxes, tellers, a Lazy, a Slow. -/
import Derived.Test.YtfmnbhhpimpjbaaGreatDoorTf
namespace Go.Proofs.YtfmnbhhpimpjbaaGreatDoor
open Go.RowKit
set_option linter.unusedVariables false

theorem teller_any (s : Sp) (ia : Option Addr) (ic : Nat) (pa : Option Addr) (pc : Nat) (w : World) :
    Calls Tryz.prog 71 #[.agg (spC s ia ic pa pc)] w fun e w' => e = .returned (.func (.func (tellF s)) #[] #[.pointer (some ⟨w.heap.size, 0, none⟩)]) ∧ w' = w.alloc (.cells (spC s ia ic pa pc) 34) := by
  obtain ⟨kind, nil, text, number, small, re, im, flag, mask, items, parts⟩ := s
  unfold spC tellF
  cases flag
  all_goals
    go_enter Tryz.func71, Tryz.ntmps71
    go_wp2
    go_ret
    exact ⟨rfl, rfl⟩
set_option maxRecDepth 100000 in
set_option maxHeartbeats 8000000 in
theorem leaf_lazy (s : Sp) (h : s.kind = 7 ∨ s.kind = 24) (ia : Option Addr) (ic : Nat) (pa : Option Addr) (pc : Nat) (w : World) :
    Calls Tryz.prog 55 #[.agg (spC s ia ic pa pc)] w fun e w' =>
      (s.kind = 7 → e = .returned (.iface 160 (.func (.func (tellF s)) #[] #[.pointer (some ⟨w.heap.size + 1, 0, none⟩)])) ∧ w' = (w.alloc (.cells (spC s ia ic pa pc) 34)).alloc (.cells (spC s ia ic pa pc) 34)) ∧
      (s.kind = 24 → e = .returned (.iface 168 (.pointer (some ⟨w.heap.size + 2, 0, none⟩))) ∧
        w' = ((w.alloc (.cells (spC s ia ic pa pc) 34)).alloc (.cells (spC s ia ic pa pc) 34)).alloc (.cells #[.int .u32 0, .int .i32 0, .int .u32 0, .func (.func (tellF s)) #[] #[.pointer (some ⟨w.heap.size + 1, 0, none⟩)], .string ⟨#[]⟩, .nilIface, .int .u32 0] 204)) := by
  have HX := Lib.hid (alloc_at w (.cells (spC s ia ic pa pc) 34))
  have K := Lib.hid (teller_any s ia ic pa pc (w.alloc (.cells (spC s ia ic pa pc) 34)))
  unfold spC at *
  obtain ⟨kind, nil, text, number, small, re, im, flag, mask, items, parts⟩ := s
  simp only at h
  rcases h with rfl | rfl
  all_goals
    go_enter Tryz.func55, Tryz.ntmps55
    go_wp2_with ((with_reducible refine at_op (.load 34 (.tmp 1)) rfl ?_); refine wpList_load_row rfl 34 (.tmp 1) rfl w.heap.size rfl 34 _ (0, 0) _ HX.out Tryz.underlying34 rfl (by kernel_rfl) ?_)
    refine K.out.mono ?_
    rintro e w2 ⟨rfl, rfl⟩
    go_wp2
    go_ret
    exact ⟨by simp, by simp⟩
end Go.Proofs.YtfmnbhhpimpjbaaGreatDoor
