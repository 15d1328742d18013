/- kinds: Check and Make of what is no spec; KindsNames' walk. -/
import Derived.Test.YtmdfkljmgijdlaaMa
namespace Go.Proofs.Ytmdfkljmgijdlaa
open Go.RowKit
set_option linter.unusedVariables false

def specC (kind : Int) (ps : Value) : Array Value := #[.int .u8 kind, .bool false, .string ⟨#[]⟩, .int .i16 0, .int .i8 0, .float .f64 0, .float .f64 0, .bool false, .int .u32 0, .slice none 0 0, ps]

theorem kcheck_no (k : Int) (hk : k = 0 ∨ k = 27) (a : Option Addr) (n cp : Nat) (w : World) : Calls Try.prog 116 #[specV k (.slice a n cp)] w fun e w' => e = .returned (.int .i64 40) ∧ Below w.heap.size w w' := by
  have H1 := Lib.hid (alloc_at w (.cells (specC k (.slice a n cp)) 134))
  have HO := Lib.hid (own_no k hk (.slice a n cp))
  unfold specV
  clear hk
  go_enter Try.func116, Try.ntmps116
  go_wp2_with ((with_reducible refine at_op (.load 134 (.tmp 1)) rfl ?_); refine wpList_load_row rfl 134 (.tmp 1) rfl w.heap.size rfl 134 _ (0, 0) _ H1.out Try.underlying134 rfl (by kernel_rfl) ?_)
  refine (HO.out _).mono ?_
  rintro e w2 ⟨rfl, b2⟩
  go_wp2
  go_ret
  exact ⟨rfl, ((Below.refl _ _).alloc (Nat.le_refl _) _).trans (b2.mono (by simp))⟩

theorem spec_cells {w : World} {b : Nat} {k : Int} {a : Option Addr} {cp : Nat} (h : w.heap[b]? = some (.cells (specC k (.slice a 1 cp)) 134 (0, 0))) : ∀ i, w.cell? ⟨b, i, none⟩ = #[Value.int .u8 k, .bool false, .string ⟨#[]⟩, .int .i16 0, .int .i8 0, .float .f64 0, .float .f64 0, .bool false, .int .u32 0, .slice none 0 0, .slice a 1 cp][i]? := fun i => cell_of_block h i

set_option maxRecDepth 100000 in
set_option maxHeartbeats 4000000 in
theorem kcheck_yes (k : Int) (most err : Int) (hk : k = 1 ∨ k = 14) (hp : ∀ w, Calls Try.prog 65 #[.int .u8 k] w fun e w' => e = .returned (.tuple #[.int .i64 0, .int .i64 most]) ∧ w = w') (he : most = 0 ∧ err = 41 ∨ most = 1 ∧ err = 0)
    (a : Option Addr) (cp : Nat) (w : World) : Calls Try.prog 116 #[specV k (.slice a 1 cp)] w fun e w' => e = .returned (.int .i64 err) ∧ Below w.heap.size w w' := by
  have H1 := Lib.hid (alloc_at w (.cells (specC k (.slice a 1 cp)) 134))
  have HO := Lib.hid (own_yes k hk a 1 cp)
  have HF := Lib.hid (fields_any k hk a 1 cp)
  have HB := Lib.hid (bare_yes k a 1 cp)
  have HP := Lib.hid hp
  unfold specV
  have HE := Lib.hid he
  clear hk hp he
  go_enter Try.func116, Try.ntmps116
  go_wp2_with ((with_reducible refine at_op (.load 134 (.tmp 1)) rfl ?_); refine wpList_load_row rfl 134 (.tmp 1) rfl w.heap.size rfl 134 _ (0, 0) _ H1.out Try.underlying134 rfl (by kernel_rfl) ?_)
  refine (HO.out _).mono ?_
  rintro e w2 ⟨rfl, b2⟩
  have s2 : w.heap.size < w2.heap.size := by have := b2.size; simp at this; omega
  have h2 : w2.heap[w.heap.size]? = some (.cells (specC k (.slice a 1 cp)) 134 (0, 0)) := by rw [b2.block _ (by simp)]; exact H1.out
  have bel2 : Below w.heap.size w w2 := ((Below.refl _ _).alloc (Nat.le_refl _) _).trans (b2.mono (by simp))
  have H2 := Lib.hid h2
  have c2 := spec_cells h2
  clear b2 h2 H1
  go_wp2_with fail
  go_loopw [27] (fun i x => i = .int .i64 0 ∧ w2 = x) (fun i _ => 0)
  case atStart => exact ⟨rfl, rfl⟩
  case round =>
    obtain ⟨rfl, rfl⟩ := hrel
    obtain ⟨str, hstr⟩ := HF.out w2
    go_wp2_with ((with_reducible refine at_op (.load 134 (.tmp 1)) rfl ?_); refine wpList_load_row rfl 134 (.tmp 1) rfl w.heap.size rfl 134 _ (0, 0) _ H2.out Try.underlying134 rfl (by kernel_rfl) ?_)
    refine hstr.mono ?_
    rintro e w3 ⟨rfl, b3⟩
    have s3 : w.heap.size < w3.heap.size := by have := b3.size; omega
    have h3 : w3.heap[w.heap.size]? = some (.cells (specC k (.slice a 1 cp)) 134 (0, 0)) := by rw [b3.block _ s2]; exact H2.out
    have bel3 : Below w.heap.size w w3 := bel2.trans (b3.mono bel2.size)
    have H3 := Lib.hid h3
    clear b3 h3 H2 c2
    go_wp2_with ((with_reducible refine at_op (.load 134 (.tmp 1)) rfl ?_); refine wpList_load_row rfl 134 (.tmp 1) rfl w.heap.size rfl 134 _ (0, 0) _ H3.out Try.underlying134 rfl (by kernel_rfl) ?_)
    refine (HB.out _ _).mono ?_
    rintro e w4 ⟨rfl, b4⟩
    have h4 : w4.heap[w.heap.size]? = some (.cells (specC k (.slice a 1 cp)) 134 (0, 0)) := by rw [b4.block _ s3]; exact H3.out
    have bel4 : Below w.heap.size w w4 := bel3.trans (b4.mono bel3.size)
    have c4 := spec_cells h4
    clear b4 h4 H3
    go_wp2_with fail
    refine (HP.out _).mono ?_
    rintro e w5 ⟨rfl, rfl⟩
    rcases HE.out with ⟨rfl, rfl⟩ | ⟨rfl, rfl⟩
    · go_wp2
      go_ret
      exact ⟨rfl, bel4⟩
    · go_wp2
      go_ret
      exact ⟨rfl, bel4⟩
end Go.Proofs.Ytmdfkljmgijdlaa
