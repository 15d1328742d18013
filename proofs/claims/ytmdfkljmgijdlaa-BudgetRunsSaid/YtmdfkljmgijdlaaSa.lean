/- The document's budget in memory; its sums and floats. -/
import Derived.Test.YtmdfkljmgijdlaaRd
namespace Go.Proofs.Ytmdfkljmgijdlaa
open Go.RowKit
set_option linter.unusedVariables false

def mrV (t s : Nat) (a : Option Addr) (n cp : Nat) (now : Int) (m : Bool) : Array Value := #[.float .f64 t, .int .i64 s, .slice a n cp, .int .i64 now, .bool m]
/-- A budget of the document's lies in block b. -/
structure MR (w : World) (b t s : Nat) (now : Int) (m : Bool) (a : Option Addr) (n cp : Nat) (V : Nat → Int × Int × Int) : Prop where
  s1 : 1 ≤ s
  s2 : s ≤ 1024
  bud : w.heap[b]? = some (.cells (mrV t s a n cp now m) 103 (0, 0))
  notes : CountsIn w a n V
  apart : ∀ p, a = some p → p.block ≠ b
  len : n ≤ 1000000000
  may : ∀ i, i < n → mayB (V i).1 (V i).2.1 (V i).2.2 ∧ (V i).1 ≤ now
  range : 0 ≤ now ∧ now ≤ 4611686018427387904

theorem CountsIn.belowS {w w' : World} {a : Option Addr} {n : Nat} {V : Nat → Int × Int × Int} (h : CountsIn w a n V) (hb : Below w.heap.size w w') : CountsIn w' a n V := by
  intro hn
  obtain ⟨p, hp, h1⟩ := h hn
  refine ⟨p, hp, fun i hi => ?_⟩
  obtain ⟨e1, e2, e3⟩ := h1 i hi
  exact ⟨(hb.cell (block_lt e1)).trans e1, (hb.cell (block_lt e2)).trans e2, (hb.cell (block_lt e3)).trans e3⟩
theorem MR.cells {w : World} {b t s : Nat} {now : Int} {m : Bool} {a : Option Addr} {n cp : Nat} {V : Nat → Int × Int × Int} (h : MR w b t s now m a n cp V) :
    w.cell? ⟨b, 0, none⟩ = some (.float .f64 t) ∧ w.cell? ⟨b, 1, none⟩ = some (.int .i64 s) ∧ w.cell? ⟨b, 2, none⟩ = some (.slice a n cp) ∧ w.cell? ⟨b, 3, none⟩ = some (.int .i64 now) ∧ w.cell? ⟨b, 4, none⟩ = some (.bool m) :=
  ⟨cell_of_block h.bud 0, cell_of_block h.bud 1, cell_of_block h.bud 2, cell_of_block h.bud 3, cell_of_block h.bud 4⟩
theorem MR.own {w w' : World} {b t s : Nat} {now : Int} {m : Bool} {a : Option Addr} {n cp : Nat} {V : Nat → Int × Int × Int} (h : MR w b t s now m a n cp V) (hb : Below w.heap.size w w') : MR w' b t s now m a n cp V :=
  ⟨h.s1, h.s2, by rw [hb.block b (Array.getElem?_eq_some_iff.1 h.bud).1]; exact h.bud, h.notes.belowS hb, h.apart, h.len, h.may, h.range⟩
theorem CountsIn.drewN {w : World} {a : Option Addr} {n : Nat} {V : Nat → Int × Int × Int} (h : CountsIn w a n V) (k : Nat) : CountsIn (w.drewN k) a n V := h
theorem MR.drewN {w : World} {b t s : Nat} {now : Int} {m : Bool} {a : Option Addr} {n cp : Nat} {V : Nat → Int × Int × Int} (h : MR w b t s now m a n cp V) (k : Nat) : MR (w.drewN k) b t s now m a n cp V :=
  ⟨h.s1, h.s2, h.bud, h.notes, h.apart, h.len, h.may, h.range⟩

theorem window_any {w : World} {b t s : Nat} {now : Int} {m : Bool} {a : Option Addr} {n cp : Nat} {V : Nat → Int × Int × Int} (h : MR w b t s now m a n cp V) (x : Int) :
    Calls Try.prog 98 #[.pointer (some ⟨b, 0, none⟩), .int .i64 x] w fun e w' => e = .returned (.bool (decide (winB s x))) ∧ w' = w := by
  obtain ⟨c0, c1, c2, c3, c4⟩ := h.cells
  clear h
  by_cases h1 : 1 ≤ x
  · by_cases h2 : x ≤ s
    · have hn := Lib.hid (show winB s x from ⟨h1, h2⟩)
      go_enter Try.func98, Try.ntmps98
      go_wp2
      go_ret
      exact ⟨by rw [decide_eq_true hn.out]; rfl, rfl⟩
    · have hn := Lib.hid (show ¬ winB s x from fun g => h2 g.2)
      go_enter Try.func98, Try.ntmps98
      go_wp2
      go_ret
      exact ⟨by rw [decide_eq_false hn.out]; rfl, rfl⟩
  · have hn := Lib.hid (show ¬ winB s x from fun g => h1 g.1)
    go_enter Try.func98, Try.ntmps98
    go_wp2
    go_ret
    exact ⟨by rw [decide_eq_false hn.out]; rfl, rfl⟩

set_option maxRecDepth 100000 in
set_option maxHeartbeats 4000000 in
theorem rsum_any {w : World} {b t s : Nat} {now : Int} {m : Bool} {a : Option Addr} {n cp : Nat} {V : Nat → Int × Int × Int} (h : MR w b t s now m a n cp V) (win : Nat) (hw : 1 ≤ win) (hw2 : win ≤ 1024) :
    Calls Try.prog 99 #[.pointer (some ⟨b, 0, none⟩), .int .i64 win] w fun e w' => e = .returned (.tuple #[.int .i64 (sumW (goodN V n) now win), .int .i64 (sumW (badN V n) now win)]) ∧ Below w.heap.size w w' := by
  obtain ⟨c0, c1, c2, c3, c4⟩ := h.cells
  have hr := h.range
  have hl := h.len
  have HM := Lib.hid h.may
  have HD := h.notes
  have hbl := (Array.getElem?_eq_some_iff.1 h.bud).1
  clear h
  unfold sumW
  go_enter Try.func99, Try.ntmps99
  go_wp2_with fail
  go_loopw [6, 7, 8] (fun x y i W => ∃ j : Nat, i = .int .i64 j ∧ j ≤ n ∧ x = .int .i64 (wrap64 (tot (goodN V j) now win)) ∧ y = .int .i64 (wrap64 (tot (badN V j) now win)) ∧ Below w.heap.size w W) (fun _ _ i _ => n - (intOf i).toNat)
  case atStart => exact ⟨0, rfl, by omega, by rw [goodN, tot_none, wrap64_zero], by rw [badN, tot_none, wrap64_zero], Below.refl _ _⟩
  case round =>
    obtain ⟨j, rfl, hj, rfl, rfl, hbel⟩ := hrel
    have d2 := (hbel.cell (p := ⟨b, 2, none⟩) hbl).trans c2
    have d3 := (hbel.cell (p := ⟨b, 3, none⟩) hbl).trans c3
    by_cases hlt : j < n
    · have i1 : (j : Int) < (n : Int) := by omega
      obtain ⟨p, rfl, hD⟩ := HD (by omega)
      obtain ⟨e1, e2, e3⟩ := hD j hlt
      have f1 := hbel.cell (block_lt e1) ▸ e1
      have f2 := hbel.cell (block_lt e2) ▸ e2
      have f3 := hbel.cell (block_lt e3) ▸ e3
      obtain ⟨hmay, hle⟩ := HM.out j hlt
      have hG : goodN V (j + 1) = addAt (goodN V j) (V j).1 (V j).2.1 := by rw [goodN, if_pos hmay]
      have hB : badN V (j + 1) = addAt (badN V j) (V j).1 (V j).2.2 := by rw [badN, if_pos hmay]
      have hr0 := hmay.1
      have hr1 := hmay.2.1
      clear e1 e2 e3 hD HD hmay
      by_cases hin : now - win < (V j).1
      · have s1 := Lib.hid (show wrap64 (wrap64 (tot (goodN V j) now win) + (V j).2.1) = wrap64 (tot (goodN V (j + 1)) now win) by rw [hG, tot_addAt, if_pos ⟨hin, hle⟩, wrap64_add])
        have s2 := Lib.hid (show wrap64 (wrap64 (tot (badN V j) now win) + (V j).2.2) = wrap64 (tot (badN V (j + 1)) now win) by rw [hB, tot_addAt, if_pos ⟨hin, hle⟩, wrap64_add])
        clear hG hB
        go_wp2_with fail
        go_quiet (fail)
        have hbel2 := below_dN (n := nq) hbel
        have d2' : (wr.drewN nq).cell? _ = _ := d2
        have f2' : (wr.drewN nq).cell? _ = _ := f2
        have f3' : (wr.drewN nq).cell? _ = _ := f3
        clear d2 d3 f1 f2 f3 hbel
        generalize wr.drewN nq = wx at *
        go_wp2
        go_roundw
        case rel => exact ⟨j + 1, by go_num, by omega, by rw [s1.out], by rw [s2.out], hbel2⟩
        case measure => simp [intOf]; omega
      · have s1 := Lib.hid (show tot (goodN V (j + 1)) now win = tot (goodN V j) now win by rw [hG, tot_addAt, if_neg (fun g => hin g.1)]; omega)
        have s2 := Lib.hid (show tot (badN V (j + 1)) now win = tot (badN V j) now win by rw [hB, tot_addAt, if_neg (fun g => hin g.1)]; omega)
        clear hG hB
        go_wp2_with fail
        go_quiet (fail)
        have hbel2 := below_dN (n := nq) hbel
        clear d2 d3 f1 f2 f3 hbel
        generalize wr.drewN nq = wx at *
        go_wp2
        go_roundw
        case rel => exact ⟨j + 1, by go_num, by omega, by rw [s1.out], by rw [s2.out], hbel2⟩
        case measure => simp [intOf]; omega
    · have i1 : ¬ ((j : Int) < (n : Int)) := by omega
      have hjn : j = n := by omega
      subst hjn
      go_wp2
      go_ret2
      exact ⟨rfl, hbel⟩
end Go.Proofs.Ytmdfkljmgijdlaa
