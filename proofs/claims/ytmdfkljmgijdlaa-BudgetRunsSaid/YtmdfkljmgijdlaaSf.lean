/- A note of the document's budget. -/
import Derived.Test.YtmdfkljmgijdlaaSe
namespace Go.Proofs.Ytmdfkljmgijdlaa
open Go.RowKit
set_option linter.unusedVariables false

/-- Nothing is counted outside of what was. -/
theorem goodN_out {V : Nat → Nt} {n : Nat} {now : Int} (h : ∀ i, i < n → mayB (V i).1 (V i).2.1 (V i).2.2 ∧ (V i).1 ≤ now) (u : Int) (hu : u < 0 ∨ now < u) : goodN V n u = 0 ∧ badN V n u = 0 := by
  induction n with
  | zero => exact ⟨rfl, rfl⟩
  | succ n ih =>
    obtain ⟨e1, e2⟩ := ih (fun i hi => h i (by omega))
    obtain ⟨q1, q2⟩ := h n (by omega)
    have hx := q1.1
    simp only [goodN, badN, if_pos q1]
    unfold addAt
    rw [if_neg (by omega), if_neg (by omega)]
    exact ⟨e1, e2⟩
theorem MG.out {Bq : Nat} {w : World} {b t s : Nat} {now : Int} {m : Bool} {L : List Nt} (h : MG Bq w b t s now m L) : ∀ u, u < 0 ∨ now < u → GL L u = 0 ∧ BL L u = 0 := by
  obtain ⟨a, cp, h1, _⟩ := h
  exact fun u hu => goodN_out h1.may u hu
theorem MG.drewN {Bq : Nat} {w : World} {b t s : Nat} {now : Int} {m : Bool} {L : List Nt} (h : MG Bq w b t s now m L) (k : Nat) : MG Bq (w.drewN k) b t s now m L := by
  obtain ⟨a, cp, h1, h2, h3⟩ := h
  exact ⟨a, cp, h1.drewN k, h2, h3⟩

set_option maxRecDepth 100000 in
theorem rnote_arg {Bq : Nat} {w : World} {b t s : Nat} {now : Int} {m : Bool} {L : List Nt} (h : MG Bq w b t s now m L) (x y z : Int) (hm : ¬ mayB x y z) :
    Calls Try.prog 47 #[.pointer (some ⟨b, 0, none⟩), .agg #[.int .i64 x, .int .i64 y, .int .i64 z]] w fun e w' => e = .returned (.int .i64 1) ∧ Below w.heap.size w w' := by
  have hbel : Below w.heap.size w (w.alloc (.cells #[.int .i64 x, .int .i64 y, .int .i64 z] 75)) := (Below.refl _ _).alloc (Nat.le_refl _) _
  have MA := Lib.hid (may_no hm (w.alloc (.cells #[.int .i64 x, .int .i64 y, .int .i64 z] 75)))
  clear h hm
  go_enter Try.func47, Try.ntmps47
  go_wp2_with fail
  refine MA.out.mono ?_
  rintro e w1 ⟨rfl, h1⟩
  have h2 := hbel.trans (h1.mono hbel.size)
  clear MA h1 hbel
  go_wp2
  go_ret
  exact ⟨rfl, h2⟩

set_option maxRecDepth 100000 in
theorem rnote_past {Bq : Nat} {w : World} {b t s : Nat} {now : Int} {L : List Nt} (h : MG Bq w b t s now true L) (x y z : Int) (hm : mayB x y z) (hp : x ≤ now - s) :
    Calls Try.prog 47 #[.pointer (some ⟨b, 0, none⟩), .agg #[.int .i64 x, .int .i64 y, .int .i64 z]] w fun e w' => e = .returned (.int .i64 261) ∧ Below w.heap.size w w' := by
  have hbel : Below w.heap.size w (w.alloc (.cells #[.int .i64 x, .int .i64 y, .int .i64 z] 75)) := (Below.refl _ _).alloc (Nat.le_refl _) _
  have hblk : (w.alloc (.cells #[.int .i64 x, .int .i64 y, .int .i64 z] 75)).heap[w.heap.size]? = some (.cells #[.int .i64 x, .int .i64 y, .int .i64 z] 75 (0, 0)) := alloc_at _ _
  have hsz : w.heap.size < (w.alloc (.cells #[.int .i64 x, .int .i64 y, .int .i64 z] 75)).heap.size := by simp
  have MA := Lib.hid (may_yes hm (w.alloc (.cells #[.int .i64 x, .int .i64 y, .int .i64 z] 75)))
  have H1 := Lib.hid (h.own hbel)
  obtain ⟨p, hp0⟩ : ∃ p, p = w.heap.size := ⟨_, rfl⟩
  have HSZ := Lib.hid hsz
  clear h hsz
  have hm1 := hm.1
  have hm2 := hm.2.1
  go_enter Try.func47, Try.ntmps47
  go_wp2_with fail
  rw [← hp0]
  refine MA.out.mono ?_
  rintro e w1 ⟨rfl, h1⟩
  have h2 := hbel.trans (h1.mono hbel.size)
  obtain ⟨a, cp, hM, _, _⟩ := H1.out.own h1
  obtain ⟨c0, c1, c2, c3, c4⟩ := hM.cells
  have e0 : w1.cell? ⟨p, 0, none⟩ = some (.int .i64 x) := by rw [hp0]; exact (h1.cell (p := ⟨w.heap.size, 0, none⟩) HSZ.out).trans (cell_of_block hblk 0)
  have hr := hM.range
  have s2 := hM.s2
  clear MA h1 hbel hblk H1 hM hp0 HSZ hm
  go_wp2_with fail
  go_quiet (fail)
  go_wp2
  go_ret
  exact ⟨rfl, below_dN h2⟩

set_option maxRecDepth 100000 in
theorem rnote_ok {Bq : Nat} {w : World} {b t s : Nat} {now : Int} {m : Bool} {L : List Nt} (h : MG Bq w b t s now m L) (x y z : Int) (hm : mayB x y z) (hp : m = false ∨ now - s < x) (hl : L.length ≤ 1000000) (hBw : Bq ≤ w.heap.size) :
    Calls Try.prog 47 #[.pointer (some ⟨b, 0, none⟩), .agg #[.int .i64 x, .int .i64 y, .int .i64 z]] w fun e w' => e = .returned (.int .i64 0) ∧ Fr b b w w' ∧
      ∃ L', MG Bq w' b t s (max now x) true L' ∧ GL L' = cutF (addAt (GL L) x y) (max now x - s) ∧ BL L' = cutF (addAt (BL L) x z) (max now x - s) ∧ L'.length ≤ L.length + 1 := by
  have hbel : Below w.heap.size w (w.alloc (.cells #[.int .i64 x, .int .i64 y, .int .i64 z] 75)) := (Below.refl _ _).alloc (Nat.le_refl _) _
  have hblk : (w.alloc (.cells #[.int .i64 x, .int .i64 y, .int .i64 z] 75)).heap[w.heap.size]? = some (.cells #[.int .i64 x, .int .i64 y, .int .i64 z] 75 (0, 0)) := alloc_at _ _
  have hsz : w.heap.size < (w.alloc (.cells #[.int .i64 x, .int .i64 y, .int .i64 z] 75)).heap.size := by simp
  have MA := Lib.hid (may_yes hm (w.alloc (.cells #[.int .i64 x, .int .i64 y, .int .i64 z] 75)))
  have H1 := Lib.hid (h.own hbel)
  obtain ⟨p, hp0⟩ : ∃ p, p = w.heap.size := ⟨_, rfl⟩
  have HSZ := Lib.hid hsz
  have HM := Lib.hid hm
  have hm1 := hm.1
  have hm2 := hm.2.1
  clear h hsz hm
  go_enter Try.func47, Try.ntmps47
  go_wp2_with fail
  rw [← hp0]
  refine MA.out.mono ?_
  rintro e w1 ⟨rfl, h1⟩
  have h2 := hbel.trans (h1.mono hbel.size)
  have HM1 := Lib.hid (H1.out.own h1)
  obtain ⟨a, cp, hM, hz, _⟩ := H1.out.own h1
  obtain ⟨c0, c1, c2, c3, c4⟩ := hM.cells
  have e0 : w1.cell? ⟨p, 0, none⟩ = some (.int .i64 x) := by rw [hp0]; exact (h1.cell (p := ⟨w.heap.size, 0, none⟩) HSZ.out).trans (cell_of_block hblk 0)
  have e1 : w1.cell? ⟨p, 1, none⟩ = some (.int .i64 y) := by rw [hp0]; exact (h1.cell (p := ⟨w.heap.size, 1, none⟩) HSZ.out).trans (cell_of_block hblk 1)
  have e2 : w1.cell? ⟨p, 2, none⟩ = some (.int .i64 z) := by rw [hp0]; exact (h1.cell (p := ⟨w.heap.size, 2, none⟩) HSZ.out).trans (cell_of_block hblk 2)
  have hr := hM.range
  have s2 := hM.s2
  clear MA h1 hbel hblk H1 hM hp0 HSZ hz
  cases m
  · clear hp
    go_wp2_with fail
    go_quiet (fail)
    have e0' : (w1.drewN nq).cell? ⟨p, 0, none⟩ = _ := e0
    have e1' : (w1.drewN nq).cell? ⟨p, 1, none⟩ = _ := e1
    have e2' : (w1.drewN nq).cell? ⟨p, 2, none⟩ = _ := e2
    have TK := Lib.hid (take_any (HM1.out.drewN nq) x y z HM.out hl (Nat.le_trans hBw h2.size))
    have h3 := below_dN (n := nq) h2
    clear c0 c1 c2 c3 c4 e0 e1 e2 h2 HM1
    generalize w1.drewN nq = w2 at *
    go_wp2_with fail
    refine TK.out.mono ?_
    rintro e w3 ⟨rfl, hf, hL⟩
    have HF := Lib.hid (And.intro ((Fr.ofBelow (b := b) (g := b) h3).trans hf) hL)
    clear TK hf hL
    go_wp2
    go_ret
    exact ⟨rfl, HF.out⟩
  · have i7 : ¬ (x ≤ now - s) := by rcases hp with hp | hp; · cases hp
                                    omega
    clear hp
    go_wp2_with fail
    go_quiet (fail)
    have e0' : (w1.drewN nq).cell? ⟨p, 0, none⟩ = _ := e0
    have e1' : (w1.drewN nq).cell? ⟨p, 1, none⟩ = _ := e1
    have e2' : (w1.drewN nq).cell? ⟨p, 2, none⟩ = _ := e2
    have TK := Lib.hid (take_any (HM1.out.drewN nq) x y z HM.out hl (Nat.le_trans hBw h2.size))
    have h3 := below_dN (n := nq) h2
    clear c0 c1 c2 c3 c4 e0 e1 e2 h2 HM1
    generalize w1.drewN nq = w2 at *
    go_wp2_with fail
    refine TK.out.mono ?_
    rintro e w3 ⟨rfl, hf, hL⟩
    have HF := Lib.hid (And.intro ((Fr.ofBelow (b := b) (g := b) h3).trans hf) hL)
    clear TK hf hL
    go_wp2
    go_ret
    exact ⟨rfl, HF.out⟩
end Go.Proofs.Ytmdfkljmgijdlaa
