/- What may change: a set of blocks; everything else stays. Rows of a book, as plain data. -/
import Derived.Test.YtfmnbhhpimpjbaaGreatDoorTa
import Derived.Test.YtfmnbhhpimpjbaaGreatDoorK3
namespace Go.Proofs.YtfmnbhhpimpjbaaGreatDoor
open Go.RowKit
set_option linter.unusedVariables false

/-- Only blocks of S, and new ones, have changed. -/
structure Ex (S : Nat → Prop) (w w' : World) : Prop where
  os : w'.os = w.os
  tape : w'.tape = w.tape
  output : w'.output = w.output
  size : w.heap.size ≤ w'.heap.size
  block : ∀ b, b < w.heap.size → ¬ S b → w'.heap[b]? = w.heap[b]?
theorem Ex.refl (S : Nat → Prop) (w : World) : Ex S w w := ⟨rfl, rfl, rfl, Nat.le_refl _, fun _ _ _ => rfl⟩
theorem Ex.trans {S S' : Nat → Prop} {w w1 w2 : World} (h : Ex S w w1) (k : Ex S' w1 w2) (hS : ∀ b, b < w.heap.size → S' b → S b) : Ex S w w2 :=
  ⟨k.os.trans h.os, k.tape.trans h.tape, k.output.trans h.output, Nat.le_trans h.size k.size, fun b hb hn => by
    rw [k.block b (Nat.lt_of_lt_of_le hb h.size) (fun q => hn (hS b hb q)), h.block b hb hn]⟩
theorem Ex.then {S : Nat → Prop} {w w1 w2 : World} (h : Ex S w w1) (k : Ex S w1 w2) : Ex S w w2 := h.trans k (fun _ _ q => q)
theorem Ex.mono {S S' : Nat → Prop} {w w' : World} (h : Ex S w w') (hS : ∀ b, b < w.heap.size → S b → S' b) : Ex S' w w' :=
  ⟨h.os, h.tape, h.output, h.size, fun b hb hn => h.block b hb (fun q => hn (hS b hb q))⟩
theorem Ex.of_below {S : Nat → Prop} {w w' : World} (h : Below w.heap.size w w') : Ex S w w' :=
  ⟨h.os, h.tape, h.output, h.size, fun b hb _ => h.block b hb⟩
theorem Ex.below {S : Nat → Prop} {w w' : World} {B : Nat} (h : Ex S w w') (hS : ∀ b, S b → B ≤ b) (hB : B ≤ w.heap.size) : Below B w w' :=
  ⟨h.os, h.tape, h.output, h.size, fun b hb => h.block b (by omega) (fun q => by have := hS b q; omega)⟩
theorem Ex.to_below {S : Nat → Prop} {w w' : World} (h : Ex S w w') (hS : ∀ b, b < w.heap.size → ¬ S b) : Below w.heap.size w w' :=
  ⟨h.os, h.tape, h.output, h.size, fun b hb => h.block b hb (hS b hb)⟩
theorem Ex.at {S : Nat → Prop} {w w' : World} (h : Ex S w w') {b : Nat} {o : Obj} (ho : w.heap[b]? = some o) (hn : ¬ S b) : w'.heap[b]? = some o := by
  rw [h.block b (Array.getElem?_eq_some_iff.1 ho).1 hn, ho]
theorem Ex.cell {S : Nat → Prop} {w w' : World} (h : Ex S w w') {a : Addr} {u : Value} (hc : w.cell? a = some u) (hn : ¬ S a.block) : w'.cell? a = some u := by
  rw [World.cell?_of_block (w := w) (h.block _ (block_lt hc) hn)]; exact hc
theorem Ex.alloc {S : Nat → Prop} {w w' : World} (h : Ex S w w') (o : Obj) : Ex S w (w'.alloc o) :=
  ⟨h.os, h.tape, h.output, Nat.le_trans h.size (by simp), fun b hb hn => by rw [alloc_old _ _ _ (Nat.lt_of_lt_of_le hb h.size)]; exact h.block b hb hn⟩
theorem Ex.drew {S : Nat → Prop} {w w' : World} (h : Ex S w w') : Ex S w w'.drew := ⟨h.os, h.tape, h.output, h.size, h.block⟩
theorem Ex.drewN {S : Nat → Prop} {w w' : World} (h : Ex S w w') (n : Nat) : Ex S w (w'.drewN n) := ⟨h.os, h.tape, h.output, h.size, h.block⟩
theorem Ex.setCell {S : Nat → Prop} {w w' : World} (h : Ex S w w') (a : Addr) (v : Value) (ha : S a.block ∨ w.heap.size ≤ a.block) : Ex S w (w'.setCell a v) :=
  ⟨h.os, h.tape, h.output, by have := h.size; simpa using this, fun b hb hn => by
    rw [Below.heap_setCell _ _ _ _ (by rintro rfl; rcases ha with q | q; exact hn q; omega)]; exact h.block b hb hn⟩
theorem Ex.setRow {S : Nat → Prop} {w w' : World} (h : Ex S w w') (g : Nat) (cs : Array Value) (ha : S g ∨ w.heap.size ≤ g) : Ex S w (w'.setRow g cs) :=
  ⟨h.os, h.tape, h.output, by have := h.size; simpa using this, fun b hb hn => by
    rw [setRow_other _ _ _ _ (by rintro rfl; rcases ha with q | q; exact hn q; omega)]; exact h.block b hb hn⟩
theorem Ex.grown {S : Nat → Prop} {w w1 w2 : World} {base : Nat} {e : TypeId} {size : Nat} {v : Value} {n : Nat} {xs : List Value} (h : Ex S w w1) (ho : w1.ownsRow base e size v n xs) (g : w1.grownBy w2 v.ownBlock)
    (hS : ∀ b, v.ownBlock = some b → S b ∨ w.heap.size ≤ b) : Ex S w w2 :=
  ⟨g.os.trans h.os, g.tape.trans h.tape, g.output.trans h.output, Nat.le_trans h.size g.size, fun b hb hn => by
    rw [g.block b (Nat.lt_of_lt_of_le hb h.size) (by intro e; rcases hS b e.symm with q | q; exact hn q; omega)]
    exact h.block b hb hn⟩

/-- The handles lie there. -/
def PartsIn (w : World) (a : Option Addr) (l : List Int) : Prop := 0 < l.length → ∃ p, a = some p ∧ ∀ i, i < l.length → w.cell? (p.add i) = some (.int .i64 (l.getD i 0))
theorem PartsIn.below {w w' : World} {a : Option Addr} {l : List Int} (h : PartsIn w a l) (hb : Below w.heap.size w w') : PartsIn w' a l := by
  intro hn
  obtain ⟨p, hp, h1⟩ := h hn
  exact ⟨p, hp, fun i hi => (hb.cell (block_lt (h1 i hi))).trans (h1 i hi)⟩

/-- A slice's address and capacity agree with its being nil. -/
def NilOk (a : Option Addr) (c : Nat) : Prop := a = none → c = 0
/-- A row of a book. -/
structure BRow where
  err : Value
  sp : Sp
  ia : Option Addr
  ic : Nat
  pa : Option Addr
  pc : Nat
  size : Int
  depth : Int
  long : Int
  words : Int
def rowC (r : BRow) : List Value := [r.err, .int .u8 r.sp.kind, .bool r.sp.nil, .string r.sp.text, .int .i16 r.sp.number, .int .i8 r.sp.small, .float .f64 r.sp.re, .float .f64 r.sp.im, .bool r.sp.flag, .int .u32 r.sp.mask, .slice r.ia r.sp.items.length r.ic, .slice r.pa r.sp.parts.length r.pc, .int .i64 r.size, .int .i64 r.depth, .int .i64 r.long, .int .i64 r.words]
def rowsC (l : List BRow) : List Value := l.flatMap rowC
theorem rowC_len (r : BRow) : (rowC r).length = 16 := rfl
theorem rowsC_len (l : List BRow) : (rowsC l).length = l.length * 16 := by
  induction l with
  | nil => rfl
  | cons o l ih => simp only [rowsC, List.flatMap_cons, List.length_append] at *; rw [ih, rowC_len]; simp; omega
theorem rowsC_get (l : List BRow) (k j : Nat) (r : BRow) (hk : l[k]? = some r) (hj : j < 16) : (rowsC l)[k * 16 + j]? = (rowC r)[j]? := by
  induction l generalizing k with
  | nil => simp at hk
  | cons s l ih =>
    simp only [rowsC, List.flatMap_cons]
    cases k with
    | zero =>
      simp at hk; subst hk
      rw [List.getElem?_append_left (by rw [rowC_len]; omega)]; simp
    | succ k =>
      rw [List.getElem?_append_right (by rw [rowC_len]; omega)]
      have e : (k + 1) * 16 + j - (rowC s).length = k * 16 + j := by rw [rowC_len]; omega
      rw [e]
      exact ih k (by simpa using hk)
theorem rowsC_snoc (l : List BRow) (r : BRow) : rowsC (l ++ [r]) = rowsC l ++ rowC r := by simp [rowsC]
end Go.Proofs.YtfmnbhhpimpjbaaGreatDoor
