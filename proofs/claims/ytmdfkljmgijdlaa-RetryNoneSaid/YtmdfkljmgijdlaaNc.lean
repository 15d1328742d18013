/- RetryNone: Start, and a run's Failed, Done, End. -/
import Derived.Test.YtmdfkljmgijdlaaNb
import Derived.Test.YtmdfkljmgijdlaaHd
import Derived.Deep.RegionHeld3
namespace Go.Proofs.Ytmdfkljmgijdlaa
open Go.RowKit
set_option linter.unusedVariables false

theorem hold_alloc {w2 wx : World} {R : Prop} (h : Below w2.heap.size w2 wx ∧ R) (o : Obj) : Below w2.heap.size w2 (wx.alloc o) := h.1.alloc h.1.size _

def runV (stop waits : Value) (en : Int) : Array Value := #[stop, waits, .float .f64 0, .float .f64 0, .float .f64 0, .int .i64 0, .int .i64 0, .int .i64 0, .int .i64 0, .string ⟨#[]⟩, .int .i64 0, .int .i64 en]

set_option maxRecDepth 100000 in
theorem start_any (x : Addr) (L : List Int) (w : World) (hr : RowIn w (some x) 64 64 (L.map (.int .i16))) :
    Calls Try.prog 73 #[.agg #[.int .i64 100, .float .f64 0, .float .f64 0, .float .f64 0, .float .f64 0, .float .f64 0, .int .u64 0, .slice (some x) 64 64], .float .f64 0] w fun e w' =>
      ∃ (b : Nat) (a : Option Addr) (m c : Nat) (v : Value), e = .returned (.tuple #[.pointer (some ⟨b, 0, none⟩), .int .i64 0]) ∧ w'.heap[b]? = some (.cells (runV (.slice a m c) v 0) 243 (0, 0)) ∧ w.heap.size ≤ b ∧ Below w.heap.size w w' := by
  have hok : badPlan 100 0 0 0 0 0 64 = false := by decide +kernel
  have hfin : finiteF 0 = true := by decide +kernel
  have H1 := Lib.hid (alloc_at w (.cells (planV 100 0 0 0 0 0 0 (.slice (some x) 64 64)) 27))
  have HOK := Lib.hid hok
  have HR := Lib.hid hr
  clear hok hr
  go_enter Try.func73, Try.ntmps73
  go_wp2_with ((with_reducible refine at_op (.load 27 (.tmp 2)) rfl ?_); refine wpList_load_row rfl 27 (.tmp 2) rfl w.heap.size rfl 27 _ (0, 0) _ H1.out Try.underlying27 rfl (by kernel_rfl) ?_)
  refine (waits_ok _ _ _ _ _ _ _ _ _ _ _ HOK.out (by omega) (by omega) (by omega) (by omega)).mono ?_
  rintro e w2 ⟨v1, rfl, hl1, hb2⟩
  obtain ⟨a1, c1, rfl, _⟩ := own_slice hl1
  have h2 : w2.heap[w.heap.size]? = some (.cells (planV 100 0 0 0 0 0 0 (.slice (some x) 64 64)) 27 (0, 0)) := by rw [hb2.block _ (by simp)]; exact H1.out
  have bel2 : Below w.heap.size w w2 := ((Below.refl _ _).alloc (Nat.le_refl _) _).trans (hb2.mono (by simp))
  have s2 : w.heap.size < w2.heap.size := by have := hb2.size; simp at this; omega
  have p5 := cell_of_block h2 5
  have p7 := cell_of_block h2 7
  have hr2 := HR.out.below bel2
  have HR2 := Lib.hid hr2
  have hd5 : ∀ w', Below w2.heap.size w2 w' → w'.cell? ⟨w.heap.size, 5, none⟩ = some (.float .f64 0) := fun w' hb => by rw [hb.cell s2]; exact p5
  have hd7 : ∀ w', Below w2.heap.size w2 w' → w'.cell? ⟨w.heap.size, 7, none⟩ = some (.slice (some x) 64 64) := fun w' hb => by rw [hb.cell s2]; exact p7
  have HD5 := Lib.hid hd5
  have HD7 := Lib.hid hd7
  clear hl1 hb2 h2 HR hr2 hd5 hd7
  go_wp2_with (go_at_call 81; refine (finite_any _ _).mono ?_; rintro e w' ⟨rfl, rfl⟩)
  go_region_held3 (fun w' => Below w2.heap.size w2 w' ∧ w'.cell? ⟨w.heap.size, 5, none⟩ = some (.float .f64 0) ∧ w'.cell? ⟨w.heap.size, 7, none⟩ = some (.slice (some x) 64 64))
    (first | exact ⟨held_next (by assumption) (Nat.le_refl _) (by assumption), HD5.out _ (held_next (by assumption) (Nat.le_refl _) (by assumption)), HD7.out _ (held_next (by assumption) (Nat.le_refl _) (by assumption))⟩ | exact ⟨hold_alloc (by assumption) _, HD5.out _ (hold_alloc (by assumption) _), HD7.out _ (hold_alloc (by assumption) _)⟩ | exact ⟨(Below.refl _ _).drew, p5, p7⟩)
    (first | (go_at_call 128; refine (clone_any _ _ _ _ _ (HR2.out.below (and_l (by assumption))) (by decide)).mono ?_; rintro e w' ⟨a', m', c', rfl, hbx⟩))
  rename_i hS
  have bel3 : Below w.heap.size w _ := bel2.trans ((and_l hS).mono (by omega))
  have hw := bel2.size
  have hx := hbx.size
  go_wp2
  go_ret2
  exact ⟨w'.heap.size, a', m', c', _, rfl, alloc_at _ _, by simp at hx; omega, bel3⟩

set_option maxRecDepth 100000 in
/-- A run that goes on has failed with no book. -/
theorem failed_run (b : Nat) (a : Option Addr) (m c : Nat) (v : Value) (w : World) (hb : w.heap[b]? = some (.cells (runV (.slice a m c) v 0) 243 (0, 0))) :
    Calls Try.prog 68 #[.pointer (some ⟨b, 0, none⟩), .pointer none, .int .i64 0, .float .f64 0] w fun e w' => e = .returned (.tuple #[.float .f64 0, .bool false, .int .i64 2]) ∧ Below w.heap.size w w' := by
  have p0 : w.cell? ⟨b, 0, none⟩ = some (.slice a m c) := cell_of_block hb 0
  have p11 : w.cell? ⟨b, 11, none⟩ = some (.int .i64 0) := cell_of_block hb 11
  have hcl : ∀ w, Calls Try.prog 67 #[.pointer none, .int .i64 0, .slice a m c] w fun e w' => e = .returned (.tuple #[.agg classZ, .int .i64 2]) ∧ Below w.heap.size w w' := fun w => classify_of none 0 2 2 a m c w (fun w _ => berr_of none 0 2 w (at_nil 0 w)) (.inl ⟨rfl, rfl⟩)
  have HCL := Lib.hid hcl
  clear hb hcl
  go_enter Try.func68, Try.ntmps68
  go_wp2_with fail
  refine (HCL.out _).mono ?_
  rintro e w2 ⟨rfl, b2⟩
  have b3 : Below w.heap.size w (w2.alloc (.cells classZ 143)) := b2.alloc b2.size _
  go_wp2_with ((with_reducible refine at_op (.store 143 (.tmp 11) (.tmp 31)) rfl ?_); refine wpList_store_new rfl 143 (.tmp 11) (.tmp 31) rfl w2.heap.size rfl 143 _ rfl classZ rfl (by kernel_rfl) rfl (by simp [classZ, Value.oneCell']) ?_)
  go_ret3
  exact ⟨rfl, b3⟩
set_option maxRecDepth 100000 in
theorem failed_end (b : Nat) (st v : Value) (w : World) (hb : w.heap[b]? = some (.cells (runV st v 1) 243 (0, 0))) :
    Calls Try.prog 68 #[.pointer (some ⟨b, 0, none⟩), .pointer none, .int .i64 0, .float .f64 0] w fun e w' => e = .returned (.tuple #[.float .f64 0, .bool false, .int .i64 5]) ∧ w = w' := by
  have p11 : w.cell? ⟨b, 11, none⟩ = some (.int .i64 1) := cell_of_block hb 11
  clear hb
  go_enter Try.func68, Try.ntmps68
  go_wp2
  go_ret3
  exact ⟨rfl, rfl⟩
set_option maxRecDepth 100000 in
theorem done_run (b : Nat) (st v : Value) (w : World) (hb : w.heap[b]? = some (.cells (runV st v 0) 243 (0, 0))) :
    Calls Try.prog 69 #[.pointer (some ⟨b, 0, none⟩)] w fun e w' => e = .returned (.int .i64 0) ∧ w'.heap[b]? = some (.cells (runV st v 1) 243 (0, 0)) ∧ w' = w.setCell ⟨b, 11, none⟩ (.int .i64 1) := by
  have p11 : w.cell? ⟨b, 11, none⟩ = some (.int .i64 0) := cell_of_block hb 11
  have f11 := frozen_of_block hb 11
  go_enter Try.func69, Try.ntmps69
  go_wp2_with ((with_reducible refine at_op (.store 3 (.tmp 14) (.const (.int .i64 1))) rfl ?_); refine wpList_store_cell rfl 3 (.tmp 14) _ rfl ⟨b, 11, none⟩ _ (.int .i64 1) rfl rfl (by kernel_rfl) rfl rfl p11 f11 ?_)
  go_ret
  exact ⟨rfl, heap_setCell_same w b 11 _ _ _ hb, rfl⟩
theorem end_run (b : Nat) (st v : Value) (w : World) (hb : w.heap[b]? = some (.cells (runV st v 1) 243 (0, 0))) :
    Calls Try.prog 70 #[.pointer (some ⟨b, 0, none⟩)] w fun e w' => e = .returned (.int .i64 1) ∧ w = w' := by
  have p11 : w.cell? ⟨b, 11, none⟩ = some (.int .i64 1) := cell_of_block hb 11
  go_enter Try.func70, Try.ntmps70
  go_wp2
  go_ret
  exact ⟨rfl, rfl⟩
end Go.Proofs.Ytmdfkljmgijdlaa
