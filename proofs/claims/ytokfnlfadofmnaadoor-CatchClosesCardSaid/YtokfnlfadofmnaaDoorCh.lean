/- catch: how a frame begins. -/
import Derived.Test.YtokfnlfadofmnaaDoorCg
namespace Go.Proofs.YtokfnlfadofmnaaDoor
open Go.RowKit
set_option linter.unusedVariables false

theorem enter_lit (x0 x1 x2 : Value) : #[x0, x1, x2] ++ Array.replicate (143 - 3) undef = #[x0, x1, x2, undef, undef, undef, undef, undef, undef, undef, undef, undef, undef, undef, undef, undef, undef, undef, undef, undef, undef, undef, undef, undef, undef, undef, undef, undef, undef, undef, undef, undef, undef, undef, undef, undef, undef, undef, undef, undef, undef, undef, undef, undef, undef, undef, undef, undef, undef, undef, undef, undef, undef, undef, undef, undef, undef, undef, undef, undef, undef, undef, undef, undef, undef, undef, undef, undef, undef, undef, undef, undef, undef, undef, undef, undef, undef, undef, undef, undef, undef, undef, undef, undef, undef, undef, undef, undef, undef, undef, undef, undef, undef, undef, undef, undef, undef, undef, undef, undef, undef, undef, undef, undef, undef, undef, undef, undef, undef, undef, undef, undef, undef, undef, undef, undef, undef, undef, undef, undef, undef, undef, undef, undef, undef, undef, undef, undef, undef, undef, undef, undef, undef, undef, undef, undef, undef, undef, undef, undef, undef, undef, undef] := by kernel_rfl

def bodyOf (fn : Func) : Code := fn.body.getD .skip
set_option maxRecDepth 100000 in
theorem frame_begins {kind : CallKind} {Q : Exit → Act → List Frame → World → Prop} {M f R d FB n cap : Nat} {w : World} {cs : List Frame}
    (hf : f < n) (hn : n ≤ 1000000) (c1 : w.cell? ⟨M, 1, none⟩ = some (.slice (some ⟨FB, 0, none⟩) n cap)) (c2 : w.cell? ⟨M, 2, none⟩ = some (.int .i64 (d : Int))) (hd : d ≤ 1000000000) (fM : ∀ i, w.frozen? ⟨M, i, none⟩ = false)
    {sa : Option Addr} {sl sp : Nat} (g0 : w.cell? ⟨FB, f, none⟩ = some (.slice sa sl sp)) (hne : ¬ FB = M)
    (hq : ∀ t, Slots M f R w.heap.size 0 (.slice sa sl sp) t → (loopOf Tryd.f23).wpL Tryd.prog kind (Exit.inBlockS 0 (Exit.noGotoS Q)) ⟨t, [clo w.heap.size]⟩ cs ((w.setCell ⟨M, 2, none⟩ (.int .i64 ((d : Int) + 1))).alloc (.cells #[.pointer (some ⟨M, 0, none⟩)] 58))) :
    (bodyOf Tryd.f23).wpK Tryd.prog kind Q { tmps := #[.pointer (some ⟨M, 0, none⟩), .int .i64 f, .pointer (some ⟨R, 0, none⟩)] ++ Array.replicate (Tryd.f23.ntmps - 3) undef, defers := [] } cs w := by
  have hMl : M < w.heap.size := block_lt c2
  have hFl : FB < w.heap.size := block_lt g0
  have hMn : ¬ M = w.heap.size := by omega
  have hFn : ¬ FB = w.heap.size := by omega
  have hmf : ∀ (fn : Fn) (first cap : Array Value) (w : World), (Instr.makeFunc fn first cap).run Tryd.prog w = .ok (.func fn first cap) w := fun _ _ _ _ => rfl
  have HQ := Lib.hid hq
  clear hq
  rw [Tryd.ntmps23]
  change Code.wpK Tryd.prog kind (.seq _ (.scope (.seq _ (.seq _ (.seq _ (.seq _ (.seq _ (.block _ (.loop _)))))))) ) Q _ cs w
  rw [enter_lit]
  refine wpK_seq_wp ?_
  go_wp2
  refine wpK_scope ?_
  refine wpK_seq_wp ?_
  go_wp2
  refine wpK_seq_wp ?_
  go_wp2
  refine wpK_seq_wp ?_
  go_wp2
  refine wpK_seq ?_
  refine wpK_label ?_
  refine wpK_seq_wp ?_
  go_wp2
  refine wpK_block ?_
  refine wpK_loopL ?_
  refine HQ.out _ ?_
  exact ⟨rfl, rfl, rfl, rfl, rfl, rfl, rfl⟩
end Go.Proofs.YtokfnlfadofmnaaDoor
