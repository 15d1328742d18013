/- catch: the frame's last deferred call; the rounds of a frame. -/
import Derived.Test.YtokfnlfadofmnaaDoorCc
namespace Go.Proofs.YtokfnlfadofmnaaDoor
open Go.RowKit
set_option linter.unusedVariables false

theorem clo_run {w : World} {M mb d : Nat} {u : FrameMode} {cm : Array Value} {t1 t2 : TypeId} (hb : w.heap[mb]? = some (.cells #[.pointer (some ⟨M, 0, none⟩)] t1 (0, 0))) (hM : w.heap[M]? = some (.cells cm t2 (0, 0))) (h2 : cm[2]? = some (.int .i64 ((d + 1 : Nat) : Int))) (hd : d ≤ 1000000000) :
    CallsD Tryd.prog 27 #[.pointer (some ⟨mb, 0, none⟩)] u w fun e u' w' => u' = u ∧ (e = .returned (.tuple #[]) ∧ w' = w.setCell ⟨M, 2, none⟩ (.int .i64 (d : Int))) := by
  have c1 : w.cell? ⟨mb, 0, none⟩ = some (.pointer (some ⟨M, 0, none⟩)) := by rw [cell_of_block hb]; rfl
  have c2 : w.cell? ⟨M, 2, none⟩ = some (.int .i64 ((d + 1 : Nat) : Int)) := by rw [cell_of_block hM]; exact h2
  have f2 : w.frozen? ⟨M, 2, none⟩ = false := frozen_of_block hM 2
  have hd1 : IntKind.i64.wrap (((d + 1 : Nat) : Int) - 1) = (d : Int) := by rw [IntWalk.i64_in _ (by omega)]; omega
  go_enter_d Tryd.func27, Tryd.ntmps27
  go_wp2
  go_end0
  exact ⟨rfl, rfl⟩

/-- The loop of a frame. -/
def loopOf (fn : Func) : Code := match fn.body with
  | some (.seq _ (.scope (.seq _ (.seq _ (.seq _ (.seq _ (.seq _ (.block _ (.loop b))))))))) => b
  | _ => .skip
/-- What a frame's slots hold at a round's head. -/
structure Slots (M f R mb at_ : Nat) (sv : Value) (t : Array Value) : Prop where
  size : t.size = 143
  s0 : t.getD 0 undef = .pointer (some ⟨M, 0, none⟩)
  s1 : t.getD 1 undef = .int .i64 f
  s2 : t.getD 2 undef = .pointer (some ⟨R, 0, none⟩)
  s3 : t.getD 3 undef = .pointer (some ⟨mb, 0, none⟩)
  s6 : t.getD 6 undef = sv
  s7 : t.getD 7 undef = .int .i64 at_
abbrev TM (M f R mb at_ : Nat) (sv : Value) (U : Nat → Value) : Array Value :=
  #[.pointer (some ⟨M, 0, none⟩), .int .i64 f, .pointer (some ⟨R, 0, none⟩), .pointer (some ⟨mb, 0, none⟩), U 4, U 5, sv, .int .i64 at_, U 8, U 9, U 10, U 11, U 12, U 13, U 14, U 15, U 16, U 17, U 18, U 19, U 20, U 21, U 22, U 23, U 24, U 25, U 26, U 27, U 28, U 29, U 30, U 31, U 32, U 33, U 34, U 35, U 36, U 37, U 38, U 39, U 40, U 41, U 42, U 43, U 44, U 45, U 46, U 47, U 48, U 49, U 50, U 51, U 52, U 53, U 54, U 55, U 56, U 57, U 58, U 59, U 60, U 61, U 62, U 63, U 64, U 65, U 66, U 67, U 68, U 69, U 70, U 71, U 72, U 73, U 74, U 75, U 76, U 77, U 78, U 79, U 80, U 81, U 82, U 83, U 84, U 85, U 86, U 87, U 88, U 89, U 90, U 91, U 92, U 93, U 94, U 95, U 96, U 97, U 98, U 99, U 100, U 101, U 102, U 103, U 104, U 105, U 106, U 107, U 108, U 109, U 110, U 111, U 112, U 113, U 114, U 115, U 116, U 117, U 118, U 119, U 120, U 121, U 122, U 123, U 124, U 125, U 126, U 127, U 128, U 129, U 130, U 131, U 132, U 133, U 134, U 135, U 136, U 137, U 138, U 139, U 140, U 141, U 142]
theorem Slots.lit {M f R mb at_ : Nat} {sv : Value} {t : Array Value} (h : Slots M f R mb at_ sv t) : ∃ U, t = TM M f R mb at_ sv U := by
  refine ⟨fun i => t.getD i undef, ?_⟩
  have e := tmps_lit t 143 h.size
  have e1 : ∀ U : Nat → Value, ((List.range 143).map U).toArray = #[U 0, U 1, U 2, U 3, U 4, U 5, U 6, U 7, U 8, U 9, U 10, U 11, U 12, U 13, U 14, U 15, U 16, U 17, U 18, U 19, U 20, U 21, U 22, U 23, U 24, U 25, U 26, U 27, U 28, U 29, U 30, U 31, U 32, U 33, U 34, U 35, U 36, U 37, U 38, U 39, U 40, U 41, U 42, U 43, U 44, U 45, U 46, U 47, U 48, U 49, U 50, U 51, U 52, U 53, U 54, U 55, U 56, U 57, U 58, U 59, U 60, U 61, U 62, U 63, U 64, U 65, U 66, U 67, U 68, U 69, U 70, U 71, U 72, U 73, U 74, U 75, U 76, U 77, U 78, U 79, U 80, U 81, U 82, U 83, U 84, U 85, U 86, U 87, U 88, U 89, U 90, U 91, U 92, U 93, U 94, U 95, U 96, U 97, U 98, U 99, U 100, U 101, U 102, U 103, U 104, U 105, U 106, U 107, U 108, U 109, U 110, U 111, U 112, U 113, U 114, U 115, U 116, U 117, U 118, U 119, U 120, U 121, U 122, U 123, U 124, U 125, U 126, U 127, U 128, U 129, U 130, U 131, U 132, U 133, U 134, U 135, U 136, U 137, U 138, U 139, U 140, U 141, U 142] := fun U => by kernel_rfl
  rw [e1] at e
  simp only [h.s0, h.s1, h.s2, h.s3, h.s6, h.s7] at e
  exact e


/-- The same, where the next step's place is known. -/
structure Slots9 (M f R mb at_ : Nat) (sv u10 : Value) (t : Array Value) : Prop extends Slots M f R mb at_ sv t where
  s9 : t.getD 9 undef = .int .i64 ((at_ : Int) + 1)
  s10 : t.getD 10 undef = u10
abbrev TM9 (M f R mb at_ : Nat) (sv u10 : Value) (U : Nat → Value) : Array Value :=
  #[.pointer (some ⟨M, 0, none⟩), .int .i64 f, .pointer (some ⟨R, 0, none⟩), .pointer (some ⟨mb, 0, none⟩), U 4, U 5, sv, .int .i64 at_, U 8, .int .i64 ((at_ : Int) + 1), u10, U 11, U 12, U 13, U 14, U 15, U 16, U 17, U 18, U 19, U 20, U 21, U 22, U 23, U 24, U 25, U 26, U 27, U 28, U 29, U 30, U 31, U 32, U 33, U 34, U 35, U 36, U 37, U 38, U 39, U 40, U 41, U 42, U 43, U 44, U 45, U 46, U 47, U 48, U 49, U 50, U 51, U 52, U 53, U 54, U 55, U 56, U 57, U 58, U 59, U 60, U 61, U 62, U 63, U 64, U 65, U 66, U 67, U 68, U 69, U 70, U 71, U 72, U 73, U 74, U 75, U 76, U 77, U 78, U 79, U 80, U 81, U 82, U 83, U 84, U 85, U 86, U 87, U 88, U 89, U 90, U 91, U 92, U 93, U 94, U 95, U 96, U 97, U 98, U 99, U 100, U 101, U 102, U 103, U 104, U 105, U 106, U 107, U 108, U 109, U 110, U 111, U 112, U 113, U 114, U 115, U 116, U 117, U 118, U 119, U 120, U 121, U 122, U 123, U 124, U 125, U 126, U 127, U 128, U 129, U 130, U 131, U 132, U 133, U 134, U 135, U 136, U 137, U 138, U 139, U 140, U 141, U 142]
theorem Slots9.lit {M f R mb at_ : Nat} {sv u10 : Value} {t : Array Value} (h : Slots9 M f R mb at_ sv u10 t) : ∃ U, t = TM9 M f R mb at_ sv u10 U := by
  refine ⟨fun i => t.getD i undef, ?_⟩
  have e := tmps_lit t 143 h.size
  have e1 : ∀ U : Nat → Value, ((List.range 143).map U).toArray = #[U 0, U 1, U 2, U 3, U 4, U 5, U 6, U 7, U 8, U 9, U 10, U 11, U 12, U 13, U 14, U 15, U 16, U 17, U 18, U 19, U 20, U 21, U 22, U 23, U 24, U 25, U 26, U 27, U 28, U 29, U 30, U 31, U 32, U 33, U 34, U 35, U 36, U 37, U 38, U 39, U 40, U 41, U 42, U 43, U 44, U 45, U 46, U 47, U 48, U 49, U 50, U 51, U 52, U 53, U 54, U 55, U 56, U 57, U 58, U 59, U 60, U 61, U 62, U 63, U 64, U 65, U 66, U 67, U 68, U 69, U 70, U 71, U 72, U 73, U 74, U 75, U 76, U 77, U 78, U 79, U 80, U 81, U 82, U 83, U 84, U 85, U 86, U 87, U 88, U 89, U 90, U 91, U 92, U 93, U 94, U 95, U 96, U 97, U 98, U 99, U 100, U 101, U 102, U 103, U 104, U 105, U 106, U 107, U 108, U 109, U 110, U 111, U 112, U 113, U 114, U 115, U 116, U 117, U 118, U 119, U 120, U 121, U 122, U 123, U 124, U 125, U 126, U 127, U 128, U 129, U 130, U 131, U 132, U 133, U 134, U 135, U 136, U 137, U 138, U 139, U 140, U 141, U 142] := fun U => by kernel_rfl
  rw [e1] at e
  simp only [h.s0, h.s1, h.s2, h.s3, h.s6, h.s7, h.s9, h.s10] at e
  exact e


set_option maxRecDepth 100000 in
theorem head_end {kind : CallKind} {Q : Exit → Act → List Frame → World → Prop} {M f R mb at_ L cap : Nat} {t : Array Value} {df : List Deferred} {w : World} {cs : List Frame} {sa : Option Addr} (h : Slots M f R mb at_ (.slice sa L cap) t)
    (hat : (decide (at_ < L)) = false) (hq : ∀ t', Q (.exit 0) ⟨t', df⟩ cs w) : (loopOf Tryd.f23).wpK Tryd.prog kind Q ⟨t, df⟩ cs w := by
  obtain ⟨U, rfl⟩ := h.lit
  change Code.wpK Tryd.prog kind (.seq _ (.block 1 _)) Q _ cs w
  refine wpK_of_wp ?_
  go_wp2
  exact hq _

set_option maxRecDepth 100000 in
theorem head_spent {kind : CallKind} {Q : Exit → Act → List Frame → World → Prop} {M f R mb at_ L cap : Nat} {t : Array Value} {df : List Deferred} {w : World} {cs : List Frame} {sa : Option Addr} (h : Slots M f R mb at_ (.slice sa L cap) t)
    (hat : (decide (at_ < L)) = true) (c0 : w.cell? ⟨mb, 0, none⟩ = some (.pointer (some ⟨M, 0, none⟩))) (c3 : w.cell? ⟨M, 3, none⟩ = some (.int .i64 10000)) {x : Bool} (c4 : w.cell? ⟨M, 4, none⟩ = some (.bool x)) (fM : ∀ i, w.frozen? ⟨M, i, none⟩ = false)
    (hne : M ≠ mb) (hq : ∀ t', Q (.exit 0) ⟨t', df⟩ cs (w.setCell ⟨M, 4, none⟩ (.bool true))) : (loopOf Tryd.f23).wpK Tryd.prog kind Q ⟨t, df⟩ cs w := by
  obtain ⟨U, rfl⟩ := h.lit
  have hne' : ¬ mb = M := fun e => hne e.symm
  change Code.wpK Tryd.prog kind (.seq _ (.block 1 _)) Q _ cs w
  refine wpK_of_wp ?_
  go_wp2
  exact hq _


set_option maxRecDepth 100000 in
theorem round_jump {kind : CallKind} {Q : Exit → Act → List Frame → World → Prop} {M f R mb at_ L cap SB k : Nat} {t : Array Value} {df : List Deferred} {w : World} {cs : List Frame} (h : Slots M f R mb at_ (.slice (some ⟨SB, 0, none⟩) L cap) t)
    (hat : (decide (at_ < L)) = true) (c0 : w.cell? ⟨mb, 0, none⟩ = some (.pointer (some ⟨M, 0, none⟩))) (hk : ((k : Int) == 10000) = false) (hk2 : k ≤ 10000) (c3 : w.cell? ⟨M, 3, none⟩ = some (.int .i64 k)) (c4 : w.cell? ⟨M, 4, none⟩ = some (.bool false)) (fM : ∀ i, w.frozen? ⟨M, i, none⟩ = false)
    (hne : M ≠ mb) (hne2 : M ≠ SB) (hL : L ≤ 1000000) {n : Nat} {fi : Int} (hn : n ≤ 32767)
    (g0 : w.cell? ⟨SB, at_ * 4, none⟩ = some (.int .u8 16)) (g1 : w.cell? ⟨SB, at_ * 4 + 1, none⟩ = some (.int .i16 n)) (g2 : w.cell? ⟨SB, at_ * 4 + 2, none⟩ = some (.int .i64 fi)) (g3 : w.cell? ⟨SB, at_ * 4 + 3, none⟩ = some (.int .i64 0))
    (hq : ∀ t' W, Slots M f R mb n (.slice (some ⟨SB, 0, none⟩) L cap) t' → W = ((w.setCell ⟨M, 3, none⟩ (.int .i64 ((k : Int) + 1))).alloc (.cells #[.int .u8 16, .int .i16 n, .int .i64 fi, .int .i64 0] 27)) → Q .normal ⟨t', df⟩ cs W) : (loopOf Tryd.f23).wpK Tryd.prog kind Q ⟨t, df⟩ cs w := by
  obtain ⟨U, rfl⟩ := h.lit
  have hne' : ¬ mb = M := fun e => hne e.symm
  have hlt : at_ < L := of_decide_eq_true hat
  have hmbl : mb < w.heap.size := block_lt c0
  have hMl : M < w.heap.size := block_lt c3
  have hmbn : ¬ mb = w.heap.size := by omega
  have hMn : ¬ M = w.heap.size := by omega
  change Code.wpK Tryd.prog kind (.seq _ (.block 1 _)) Q _ cs w
  refine wpK_of_wp ?_
  go_wp2
  refine hq _ _ ?_ ?_
  · exact ⟨rfl, rfl, rfl, rfl, rfl, rfl, rfl⟩
  · rfl


set_option maxRecDepth 100000 in
theorem round_later {kind : CallKind} {Q : Exit → Act → List Frame → World → Prop} {M f R mb at_ L cap SB k : Nat} {t : Array Value} {df : List Deferred} {w : World} {cs : List Frame} (h : Slots M f R mb at_ (.slice (some ⟨SB, 0, none⟩) L cap) t)
    (hat : (decide (at_ < L)) = true) (c0 : w.cell? ⟨mb, 0, none⟩ = some (.pointer (some ⟨M, 0, none⟩))) (hk : ((k : Int) == 10000) = false) (hk2 : k ≤ 10000) (c3 : w.cell? ⟨M, 3, none⟩ = some (.int .i64 k)) (c4 : w.cell? ⟨M, 4, none⟩ = some (.bool false)) (fM : ∀ i, w.frozen? ⟨M, i, none⟩ = false)
    (hne : M ≠ mb) (hne2 : M ≠ SB) (hL : L ≤ 1000000) {fi : Nat} {n : Int}
    (g0 : w.cell? ⟨SB, at_ * 4, none⟩ = some (.int .u8 7)) (g1 : w.cell? ⟨SB, at_ * 4 + 1, none⟩ = some (.int .i16 n)) (g2 : w.cell? ⟨SB, at_ * 4 + 2, none⟩ = some (.int .i64 fi)) (g3 : w.cell? ⟨SB, at_ * 4 + 3, none⟩ = some (.int .i64 0))
    (hq : ∀ t' W, Slots M f R mb (at_ + 1) (.slice (some ⟨SB, 0, none⟩) L cap) t' → W = ((w.setCell ⟨M, 3, none⟩ (.int .i64 ((k : Int) + 1))).alloc (.cells #[.int .u8 7, .int .i16 n, .int .i64 fi, .int .i64 0] 27)) → Q .normal ⟨t', dfr M fi R :: df⟩ cs W) : (loopOf Tryd.f23).wpK Tryd.prog kind Q ⟨t, df⟩ cs w := by
  obtain ⟨U, rfl⟩ := h.lit
  have hne' : ¬ mb = M := fun e => hne e.symm
  have hlt : at_ < L := of_decide_eq_true hat
  have hmbl : mb < w.heap.size := block_lt c0
  have hMl : M < w.heap.size := block_lt c3
  have hmbn : ¬ mb = w.heap.size := by omega
  have hMn : ¬ M = w.heap.size := by omega
  change Code.wpK Tryd.prog kind (.seq _ (.block 1 _)) Q _ cs w
  refine wpK_of_wp ?_
  go_wp2
  refine hq _ _ ?_ ?_
  · exact ⟨rfl, rfl, rfl, rfl, rfl, rfl, rfl⟩
  · rfl


set_option maxRecDepth 100000 in
theorem round_defer {kind : CallKind} {Q : Exit → Act → List Frame → World → Prop} {M f R mb at_ L cap SB k : Nat} {t : Array Value} {df : List Deferred} {w : World} {cs : List Frame} (h : Slots M f R mb at_ (.slice (some ⟨SB, 0, none⟩) L cap) t)
    (hat : (decide (at_ < L)) = true) (c0 : w.cell? ⟨mb, 0, none⟩ = some (.pointer (some ⟨M, 0, none⟩))) (hk : ((k : Int) == 10000) = false) (hk2 : k ≤ 10000) (c3 : w.cell? ⟨M, 3, none⟩ = some (.int .i64 k)) (c4 : w.cell? ⟨M, 4, none⟩ = some (.bool false)) (fM : ∀ i, w.frozen? ⟨M, i, none⟩ = false)
    (hne : M ≠ mb) (hne2 : M ≠ SB) (hL : L ≤ 1000000) {fi : Nat} {n : Int}
    (g0 : w.cell? ⟨SB, at_ * 4, none⟩ = some (.int .u8 6)) (g1 : w.cell? ⟨SB, at_ * 4 + 1, none⟩ = some (.int .i16 n)) (g2 : w.cell? ⟨SB, at_ * 4 + 2, none⟩ = some (.int .i64 fi)) (g3 : w.cell? ⟨SB, at_ * 4 + 3, none⟩ = some (.int .i64 0))
    (hq : ∀ t' W, Slots M f R mb (at_ + 1) (.slice (some ⟨SB, 0, none⟩) L cap) t' → W = (((w.setCell ⟨M, 3, none⟩ (.int .i64 ((k : Int) + 1))).alloc (.cells #[.int .u8 6, .int .i16 n, .int .i64 fi, .int .i64 0] 27)).alloc (.cells (rc Res.new) 63)) → Q .normal ⟨t', dfr M fi (w.heap.size + 1) :: df⟩ cs W) : (loopOf Tryd.f23).wpK Tryd.prog kind Q ⟨t, df⟩ cs w := by
  obtain ⟨U, rfl⟩ := h.lit
  have hne' : ¬ mb = M := fun e => hne e.symm
  have hlt : at_ < L := of_decide_eq_true hat
  have hmbl : mb < w.heap.size := block_lt c0
  have hMl : M < w.heap.size := block_lt c3
  have hmbn : ¬ mb = w.heap.size := by omega
  have hMn : ¬ M = w.heap.size := by omega
  change Code.wpK Tryd.prog kind (.seq _ (.block 1 _)) Q _ cs w
  refine wpK_of_wp ?_
  go_wp2
  refine hq _ _ ?_ ?_
  · exact ⟨rfl, rfl, rfl, rfl, rfl, rfl, rfl⟩
  · rfl

end Go.Proofs.YtokfnlfadofmnaaDoor
