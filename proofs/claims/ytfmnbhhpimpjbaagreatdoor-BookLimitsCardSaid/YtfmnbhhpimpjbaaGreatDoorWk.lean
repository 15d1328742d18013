/- A book that a call made for itself, and what is made in it. -/
import Derived.Test.YtfmnbhhpimpjbaaGreatDoorVk
import Derived.Test.YtfmnbhhpimpjbaaGreatDoorVm
namespace Go.Proofs.YtfmnbhhpimpjbaaGreatDoor
open Go.RowKit
set_option linter.unusedVariables false

/-- Since w0 a book of these rows was made; nothing that lay there has changed. -/
def Wk (w0 : World) (bb : Nat) (rows : List BRow) (x : World) : Prop := ∃ D v, BookIn D x w0.heap.size bb v rows ∧ (∀ b, D b → b < x.heap.size) ∧ Below w0.heap.size w0 x
theorem Wk.below {w0 x y : World} {bb : Nat} {rows : List BRow} (h : Wk w0 bb rows x) (k : Below x.heap.size x y) : Wk w0 bb rows y := by
  obtain ⟨D, v, hB, hD, hb⟩ := h
  exact ⟨D, v, hB.below k, fun b q => Nat.lt_of_lt_of_le (hD b q) k.size, hb.trans (k.mono hb.size)⟩
theorem Wk.bel {w0 x : World} {bb : Nat} {rows : List BRow} (h : Wk w0 bb rows x) : Below w0.heap.size w0 x := by obtain ⟨D, v, hB, hD, hb⟩ := h; exact hb
theorem wk_new (w w0 : World) (hb : Below w0.heap.size w0 w) : Calls Tryz.prog 5 #[] w fun e w' => ∃ bb, e = .returned (.pointer (some ⟨bb, 0, none⟩)) ∧ Wk w0 bb [] w' ∧ Below w.heap.size w w' :=
  (new_any w).mono fun e w' ⟨he, hw⟩ => ⟨w.heap.size, he, ⟨fun _ => False, .slice none 0 0, by rw [hw]; exact new_book _ w _ hb.size (fun b q => q.elim), fun b q => q.elim, by rw [hw]; exact hb.alloc hb.size _⟩, by rw [hw]; exact (Below.refl _ _).alloc (Nat.le_refl _) _⟩
/-- What a row's numbers are. -/
structure Nums (T : Txt) (rows : List BRow) (r : BRow) : Prop where
  size : r.size = sizeF rows r.sp
  depth : r.depth = depthF rows r.sp
  long : r.long = longT T rows r.sp
  words : r.words = wordsF rows r.sp
def MadeOk (T : Txt) (w0 : World) (bb : Nat) (rows : List BRow) (s : Sp) (e : Ending) (y : World) : Prop :=
  ∃ r, e = .returned (.tuple #[.int .i64 ((rows.length : Int) + 1), .int .i64 0]) ∧ Wk w0 bb (rows ++ [r]) y ∧ r.sp = s ∧ Nums T rows r
theorem wk_make (W : World) (T : Txt) {w0 : World} {bb : Nat} {rows : List BRow} (s : Sp) (hs : s.Ok) (hko : KindOk W T s) (ia : Option Addr) (ic : Nat) (pa : Option Addr) (pc : Nat) (hia : NilOk ia ic) (hpa : NilOk pa pc) (x : World) (hW : Below W.heap.size W x)
    (hk : Wk w0 bb rows x) (hI : ItemsIn x ia s.items) (hP : PartsIn x pa s.parts) (hh : handsOk rows s) (hc : checkF s = 0) (hE : mkE T rows s = 0) :
    Calls Tryz.prog 6 #[.pointer (some ⟨bb, 0, none⟩), .agg (spC s ia ic pa pc)] x (MadeOk T w0 bb rows s) := by
  obtain ⟨D, v, hB, hD, hb⟩ := hk
  refine (bmake_ok W T s hs hko ia ic pa pc hia hpa x hW hB hD hI hP hh hc).mono ?_
  rintro e y (⟨h, _⟩ | ⟨_, he, v', D', r, hB', hsp, h1, h2, h3, h4, hex, _, _, hD'⟩)
  · exact absurd hE h
  · refine ⟨r, he, ⟨D', v', hB', hD', hb.trans (hex.below (B := w0.heap.size) (fun b q => ?_) hb.size)⟩, hsp, ⟨by rw [hsp]; exact h1, by rw [hsp]; exact h2, by rw [hsp]; exact h3, by rw [hsp]; exact h4⟩⟩
    rcases q with rfl | q
    · exact hB.low
    · exact (own_at hB.own q).1
theorem Wk.row {w0 x : World} {bb : Nat} {rows : List BRow} (h : Wk w0 bb rows x) : ∃ D, ∀ i r, rows[i]? = some r → RowOk D x rows i r := by
  obtain ⟨D, v, hB, hD, hb⟩ := h
  exact ⟨D, hB.ok⟩
end Go.Proofs.YtfmnbhhpimpjbaaGreatDoor
