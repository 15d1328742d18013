/- RetryNone's small contracts. -/
import Derived.Test.YtmdfkljmgijdlaaK2
import Derived.Test.YtmdfkljmgijdlaaId
import Derived.Laws.ResultCell
namespace Go.Proofs.Ytmdfkljmgijdlaa
open Go.RowKit
set_option linter.unusedVariables false

def AtPost (w : World) (err : Int) : Ending → World → Prop := fun e w' => ∃ b : Nat, e = .returned (.tuple #[.pointer (some ⟨b, 0, none⟩), .int .i64 err]) ∧ w'.cell? ⟨b, 0, none⟩ = some .nilIface ∧ Below w.heap.size w w'
theorem at_nil (h : Int) (w : World) : Calls Try.prog 147 #[.pointer none, .int .i64 h] w (AtPost w 2) := by
  go_enter Try.func147, Try.ntmps147
  go_wp2
  go_ret2
  exact ⟨w.heap.size, rfl, cell_of_block (alloc_at _ _) 0, (Below.refl _ _).alloc (Nat.le_refl _) _⟩
theorem at_zero (p : Addr) (w : World) : Calls Try.prog 147 #[.pointer (some p), .int .i64 0] w (AtPost w 0) := by
  go_enter Try.func147, Try.ntmps147
  go_wp2
  go_ret2
  exact ⟨w.heap.size, rfl, cell_of_block (alloc_at _ _) 0, (Below.refl _ _).alloc (Nat.le_refl _) _⟩
theorem at_nine (p : Nat) (w : World) (hc : w.cell? ⟨p, 0, none⟩ = some (.slice none 0 0)) : Calls Try.prog 147 #[.pointer (some ⟨p, 0, none⟩), .int .i64 9] w (AtPost w 50) := by
  go_enter Try.func147, Try.ntmps147
  go_wp2
  go_ret2
  exact ⟨w.heap.size, rfl, cell_of_block (alloc_at _ _) 0, (Below.refl _ _).alloc (Nat.le_refl _) _⟩
theorem berr_of (p : Option Addr) (h err : Int) (w : World) (hc : Calls Try.prog 147 #[.pointer p, .int .i64 h] w (AtPost w err)) :
    Calls Try.prog 124 #[.pointer p, .int .i64 h] w fun e w' => e = .returned (.tuple #[.nilIface, .int .i64 err]) ∧ Below w.heap.size w w' := by
  have HC := Lib.hid hc
  clear hc
  go_enter Try.func124, Try.ntmps124
  go_wp2_with fail
  refine HC.out.mono ?_
  rintro e w2 ⟨b, rfl, hcell, hbel⟩
  go_wp2
  go_ret2
  exact ⟨rfl, hbel⟩
theorem results_cell_row_tmp {P : Program} {fn : Func} {p u : Tmp} {ty : TypeId} (h : fn.results = #[.cell p ty, .tmp u]) (tmps : Array Value) (w : World) (g : Nat) (t : TypeId) (cs : Array Value) (fr : Nat × Nat) (d : TypeDesc)
    (hp : tmps.getD p undef = .pointer (some ⟨g, 0, none⟩)) (hg : w.heap[g]? = some (.cells cs t fr))
    (hu : P.underlying ty = some d) (hd : (match d with | .struct _ | .array _ _ => true | _ => false) = true) (hi : (P.info? ty).map (·.size) = some cs.size) :
    (results fn tmps).run P w = .ok (.tuple #[.agg cs, tmps.getD u undef]) w := by
  rw [results_cell_tmp h, hp]
  simp [asAddr, run_loadVar_row w g t ty cs fr d hg hu hd hi, Result.andThen]

def classZ : Array Value := #[.int .i64 0, .int .i64 0, .int .i64 0, .string ⟨#[]⟩, .int .i64 0]

set_option maxRecDepth 100000 in
theorem classify_of (p : Option Addr) (h err res : Int) (a : Option Addr) (n cp : Nat) (w : World) (hc : ∀ w2, Below w.heap.size w w2 → Calls Try.prog 124 #[.pointer p, .int .i64 h] w2 fun e w' => e = .returned (.tuple #[.nilIface, .int .i64 err]) ∧ Below w2.heap.size w2 w')
    (he : err = 2 ∧ res = 2 ∨ err = 50 ∧ res = 50 ∨ err = 0 ∧ res = 1) :
    Calls Try.prog 67 #[.pointer p, .int .i64 h, .slice a n cp] w fun e w' => e = .returned (.tuple #[.agg classZ, .int .i64 res]) ∧ Below w.heap.size w w' := by
  have HC := Lib.hid hc
  have HE := Lib.hid he
  clear hc he
  go_enter Try.func67, Try.ntmps67
  go_wp2_with fail
  refine (HC.out _ (((Below.refl _ _).alloc (Nat.le_refl _) _).alloc (by simp) _)).mono ?_
  rintro e w2 ⟨rfl, b2⟩
  have h6 : w2.heap[w.heap.size + 1]? = some (.cells classZ 143 (0, 0)) := by
    rw [b2.block _ (by simp)]
    exact alloc_at' _ _ _ (by simp)
  have s2 : w.heap.size + 1 < w2.heap.size := by have := b2.size; simp at this; omega
  have bel2 : Below w.heap.size w w2 := (((Below.refl _ _).alloc (Nat.le_refl _) _).alloc (by simp) _).trans (b2.mono (by simp; omega))
  clear b2
  have h8 : (w2.alloc (.cells #[.nilIface] 126)).heap[w.heap.size + 1]? = some (.cells classZ 143 (0, 0)) := by rw [alloc_old _ _ _ s2]; exact h6
  have b8 : Below w.heap.size w (w2.alloc (.cells #[.nilIface] 126)) := bel2.alloc bel2.size _
  have H8 := Lib.hid h8
  clear h6 h8
  rcases HE.out with ⟨rfl, rfl⟩ | ⟨rfl, rfl⟩ | ⟨rfl, rfl⟩
  · go_wp2_with ((with_reducible refine at_op (.store 143 (.tmp 6) (.tmp 22)) rfl ?_); refine wpList_store_row rfl 143 (.tmp 6) (.tmp 22) rfl (w.heap.size + 1) rfl classZ rfl 143 _ H8.out (by kernel_rfl) rfl (by simp [classZ, Value.oneCell']) ?_)
    refine bodyPost_ret (results_cell_row_tmp rfl _ _ (w.heap.size + 1) 143 classZ (0, 0) _ rfl (setRow_heap _ _ _ _ _ _ H8.out) Try.underlying143 rfl (by kernel_rfl)) rfl ?_
    exact ⟨rfl, below_setRow b8 (by omega) _⟩
  · go_wp2_with ((with_reducible refine at_op (.store 143 (.tmp 6) (.tmp 22)) rfl ?_); refine wpList_store_row rfl 143 (.tmp 6) (.tmp 22) rfl (w.heap.size + 1) rfl classZ rfl 143 _ H8.out (by kernel_rfl) rfl (by simp [classZ, Value.oneCell']) ?_)
    refine bodyPost_ret (results_cell_row_tmp rfl _ _ (w.heap.size + 1) 143 classZ (0, 0) _ rfl (setRow_heap _ _ _ _ _ _ H8.out) Try.underlying143 rfl (by kernel_rfl)) rfl ?_
    exact ⟨rfl, below_setRow b8 (by omega) _⟩
  · go_wp2_with ((with_reducible refine at_op (.store 143 (.tmp 6) (.tmp 31)) rfl ?_); refine wpList_store_row rfl 143 (.tmp 6) (.tmp 31) rfl (w.heap.size + 1) rfl classZ rfl 143 _ H8.out (by kernel_rfl) rfl (by simp [classZ, Value.oneCell']) ?_)
    refine bodyPost_ret (results_cell_row_tmp rfl _ _ (w.heap.size + 1) 143 classZ (0, 0) _ rfl (setRow_heap _ _ _ _ _ _ H8.out) Try.underlying143 rfl (by kernel_rfl)) rfl ?_
    exact ⟨rfl, below_setRow b8 (by omega) _⟩
end Go.Proofs.Ytmdfkljmgijdlaa
