/- A budget in memory; the place of a time. -/
import Derived.Test.YtmdfkljmgijdlaaPa
import Derived.Test.YtmdfkljmgijdlaaKb
namespace Go.Proofs.Ytmdfkljmgijdlaa
open Go.RowKit
set_option linter.unusedVariables false

def bgV (g t s : Nat) (now : Int) (some' : Bool) : Array Value := #[.float .f64 t, .slice (some ⟨g, 0, none⟩) s s, .int .i64 now, .bool some']

/-- A budget lies in block b, its ring in block g: raw. -/
structure BR (w : World) (b g t s : Nat) (now : Int) (some' : Bool) (rg rb : Nat → Int) : Prop where
  ne : b ≠ g
  s1 : 1 ≤ s
  s2 : s ≤ 1024
  bud : w.heap[b]? = some (.cells (bgV g t s now some') 156 (0, 0))
  ring : w.heap[g]? = some (.cells (ringV s rg rb) 161 (0, 0))

/-- All but two blocks as it was. -/
structure Fr (b g : Nat) (w w' : World) : Prop where
  os : w'.os = w.os
  tape : w'.tape = w.tape
  output : w'.output = w.output
  size : w.heap.size ≤ w'.heap.size
  block : ∀ k, k < w.heap.size → k ≠ b → k ≠ g → w'.heap[k]? = w.heap[k]?

theorem Fr.refl (b g : Nat) (w : World) : Fr b g w w := ⟨rfl, rfl, rfl, Nat.le_refl _, fun _ _ _ _ => rfl⟩
theorem Fr.trans {b g : Nat} {w w' w'' : World} (h : Fr b g w w') (k : Fr b g w' w'') : Fr b g w w'' :=
  ⟨k.os.trans h.os, k.tape.trans h.tape, k.output.trans h.output, Nat.le_trans h.size k.size, fun j h1 h2 h3 => (k.block j (Nat.lt_of_lt_of_le h1 h.size) h2 h3).trans (h.block j h1 h2 h3)⟩
theorem Fr.drewN {b g : Nat} {w w' : World} (h : Fr b g w w') (n : Nat) : Fr b g w (w'.drewN n) := ⟨h.os, h.tape, h.output, h.size, h.block⟩
theorem Fr.drew {b g : Nat} {w w' : World} (h : Fr b g w w') : Fr b g w w'.drew := ⟨h.os, h.tape, h.output, h.size, h.block⟩
theorem Fr.setB {b g : Nat} {w w' : World} (h : Fr b g w w') (i : Nat) (v : Value) : Fr b g w (w'.setCell ⟨b, i, none⟩ v) :=
  ⟨h.os, h.tape, h.output, by have := h.size; simpa using this, fun k h1 h2 h3 => by rw [Below.heap_setCell _ _ _ _ h2]; exact h.block k h1 h2 h3⟩
theorem Fr.setG {b g : Nat} {w w' : World} (h : Fr b g w w') (i : Nat) (v : Value) : Fr b g w (w'.setCell ⟨g, i, none⟩ v) :=
  ⟨h.os, h.tape, h.output, by have := h.size; simpa using this, fun k h1 h2 h3 => by rw [Below.heap_setCell _ _ _ _ h3]; exact h.block k h1 h2 h3⟩
theorem Fr.below {b g : Nat} {w w' : World} (h : Fr b g w w') {w0 : World} {B : Nat} (k : Below B w0 w) (hB : B ≤ w.heap.size) (hb : B ≤ b) (hg : B ≤ g) : Below B w0 w' :=
  k.trans ⟨h.os, h.tape, h.output, h.size, fun j hj => h.block j (by omega) (by omega) (by omega)⟩
theorem Fr.ofBelow {b g : Nat} {w w' : World} (h : Below w.heap.size w w') : Fr b g w w' := ⟨h.os, h.tape, h.output, h.size, fun k h1 _ _ => h.block k h1⟩

theorem BR.drewN {w : World} {b g t s : Nat} {now : Int} {m : Bool} {rg rb : Nat → Int} (h : BR w b g t s now m rg rb) (n : Nat) : BR (w.drewN n) b g t s now m rg rb := ⟨h.ne, h.s1, h.s2, h.bud, h.ring⟩
theorem BR.drew {w : World} {b g t s : Nat} {now : Int} {m : Bool} {rg rb : Nat → Int} (h : BR w b g t s now m rg rb) : BR w.drew b g t s now m rg rb := ⟨h.ne, h.s1, h.s2, h.bud, h.ring⟩
theorem BR.lt {w : World} {b g t s : Nat} {now : Int} {m : Bool} {rg rb : Nat → Int} (h : BR w b g t s now m rg rb) : b < w.heap.size ∧ g < w.heap.size :=
  ⟨(Array.getElem?_eq_some_iff.1 h.bud).1, (Array.getElem?_eq_some_iff.1 h.ring).1⟩
theorem BR.below {w w' : World} {b g t s : Nat} {now : Int} {m : Bool} {rg rb : Nat → Int} (h : BR w b g t s now m rg rb) {B : Nat} (k : Below B w w') (hb : b < B) (hg : g < B) : BR w' b g t s now m rg rb :=
  ⟨h.ne, h.s1, h.s2, by rw [k.block b hb]; exact h.bud, by rw [k.block g hg]; exact h.ring⟩
theorem BR.own {w w' : World} {b g t s : Nat} {now : Int} {m : Bool} {rg rb : Nat → Int} (h : BR w b g t s now m rg rb) (k : Below w.heap.size w w') : BR w' b g t s now m rg rb := h.below k h.lt.1 h.lt.2
theorem BR.other {w w' : World} {b g b' g' t s : Nat} {now : Int} {m : Bool} {rg rb : Nat → Int} (h : BR w b g t s now m rg rb) (k : Fr b' g' w w') (h1 : b ≠ b') (h2 : b ≠ g') (h3 : g ≠ b') (h4 : g ≠ g') : BR w' b g t s now m rg rb :=
  ⟨h.ne, h.s1, h.s2, by rw [k.block b h.lt.1 h1 h2]; exact h.bud, by rw [k.block g h.lt.2 h3 h4]; exact h.ring⟩
theorem BR.cells {w : World} {b g t s : Nat} {now : Int} {m : Bool} {rg rb : Nat → Int} (h : BR w b g t s now m rg rb) :
    w.cell? ⟨b, 0, none⟩ = some (.float .f64 t) ∧ w.cell? ⟨b, 1, none⟩ = some (.slice (some ⟨g, 0, none⟩) s s) ∧ w.cell? ⟨b, 2, none⟩ = some (.int .i64 now) ∧ w.cell? ⟨b, 3, none⟩ = some (.bool m) :=
  ⟨cell_of_block h.bud 0, cell_of_block h.bud 1, cell_of_block h.bud 2, cell_of_block h.bud 3⟩
theorem BR.good {w : World} {b g t s : Nat} {now : Int} {m : Bool} {rg rb : Nat → Int} (h : BR w b g t s now m rg rb) {k : Nat} (hk : k < s) : w.cell? ⟨g, k * 2, none⟩ = some (.int .i64 (rg k)) := by
  rw [cell_of_block h.ring (k * 2), ringV_good hk]
theorem BR.bad {w : World} {b g t s : Nat} {now : Int} {m : Bool} {rg rb : Nat → Int} (h : BR w b g t s now m rg rb) {k : Nat} (hk : k < s) : w.cell? ⟨g, k * 2 + 1, none⟩ = some (.int .i64 (rb k)) := by
  rw [cell_of_block h.ring (k * 2 + 1), ringV_bad hk]
theorem BR.set2 {w : World} {b g t s : Nat} {now : Int} {m : Bool} {rg rb : Nat → Int} (h : BR w b g t s now m rg rb) (x : Int) : BR (w.setCell ⟨b, 2, none⟩ (.int .i64 x)) b g t s x m rg rb :=
  ⟨h.ne, h.s1, h.s2, heap_setCell_same w b 2 _ 156 _ h.bud, by rw [Below.heap_setCell _ _ _ _ (fun e => h.ne e.symm)]; exact h.ring⟩
theorem BR.set3 {w : World} {b g t s : Nat} {now : Int} {m : Bool} {rg rb : Nat → Int} (h : BR w b g t s now m rg rb) (x : Bool) : BR (w.setCell ⟨b, 3, none⟩ (.bool x)) b g t s now x rg rb :=
  ⟨h.ne, h.s1, h.s2, heap_setCell_same w b 3 _ 156 _ h.bud, by rw [Below.heap_setCell _ _ _ _ (fun e => h.ne e.symm)]; exact h.ring⟩
theorem BR.setGood {w : World} {b g t s : Nat} {now : Int} {m : Bool} {rg rb : Nat → Int} (h : BR w b g t s now m rg rb) {k : Nat} (hk : k < s) (x : Int) : BR (w.setCell ⟨g, k * 2, none⟩ (.int .i64 x)) b g t s now m (upd rg k x) rb :=
  ⟨h.ne, h.s1, h.s2, by rw [Below.heap_setCell _ _ _ _ h.ne]; exact h.bud, by rw [heap_setCell_same w g (k * 2) _ 161 _ h.ring, ringV_setGood hk]⟩
theorem BR.setBad {w : World} {b g t s : Nat} {now : Int} {m : Bool} {rg rb : Nat → Int} (h : BR w b g t s now m rg rb) {k : Nat} (hk : k < s) (x : Int) : BR (w.setCell ⟨g, k * 2 + 1, none⟩ (.int .i64 x)) b g t s now m rg (upd rb k x) :=
  ⟨h.ne, h.s1, h.s2, by rw [Below.heap_setCell _ _ _ _ h.ne]; exact h.bud, by rw [heap_setCell_same w g (k * 2 + 1) _ 161 _ h.ring, ringV_setBad hk]⟩

theorem slot_any {w : World} {b g t s : Nat} {now : Int} {m : Bool} {rg rb : Nat → Int} (h : BR w b g t s now m rg rb) (x : Int) (hx : 0 ≤ x) (hx2 : x ≤ 4611686018427387904) :
    Calls Try.prog 78 #[.pointer (some ⟨b, 0, none⟩), .int .i64 x] w fun e w' => e = .returned (.pointer (some ⟨g, sl s x * 2, none⟩)) ∧ ∃ n, w' = w.drewN n := by
  obtain ⟨x, rfl⟩ := Int.eq_ofNat_of_zero_le hx
  obtain ⟨c0, c1, c2, c3⟩ := h.cells
  have s1 := h.s1
  have s2 := h.s2
  have e : sl s (x : Int) = x % s := by unfold sl; rfl
  rw [e]
  have hlt : x % s < s := Nat.mod_lt _ (by omega)
  have hne : ((s : Int) == 0) = false := by simp; omega
  go_enter Try.func78, Try.ntmps78
  go_wp2
  go_quiet (fail)
  go_wp2
  go_ret
  exact ⟨rfl, nq, rfl⟩
end Go.Proofs.Ytmdfkljmgijdlaa
