/- A note taken by the document's budget: the walk. -/
import Derived.Test.YtmdfkljmgijdlaaSd
namespace Go.Proofs.Ytmdfkljmgijdlaa
open Go.RowKit
set_option linter.unusedVariables false

section
variable {P : Program} {ops : Array Oper} {Q : Exit → Act → World → Prop} {md : Region.Mode} {S : World → Prop}
theorem ready_cons {i : Nat} {rs : List Nat} {d : Option Tmp} {oi : Oper} {fuel : Nat} {listed : Array Bool} {a : Act} {w : World} (hi : ops[i]? = some oi) (hd : oi.dst = d) (hw : Region.wanted oi (yielded ops a.tmps) = true)
    (h : ∀ K' : Act → World → Prop, Shut (∀ a w, S w → (S w → wpAnyH P md ops Q S fuel (listed.setIfInBounds i true) a w) → K' a w) → Oper.wp P { oi with dst := d } a w K' Q) (hs : AllReadyH P md ops Q S fuel listed a w rs) : AllReadyH P md ops Q S fuel listed a w (i :: rs) := by
  subst hd
  exact AllReadyH.cons hi (fun K hK => by rw [if_pos hw]; exact h K hK) hs
end

theorem append_nil0 (q : Nat) (w : World) (ty : TypeId) : (Builtin.append_ #[101, 101] ty #[.slice (some ⟨q, 0, none⟩) 0 0, .slice none 0 0]).run Try.prog w = .ok (.slice (some ⟨q, 0, none⟩) 0 0) w := by
  obtain ⟨i0, hi, hz0, hz1, hz2⟩ := info75
  have hf := run_firstCells_none (P := Try.prog) w 3 0 0 0
  have hadd : (⟨q, 0, none⟩ : Addr).add 0 = ⟨q, 0, none⟩ := rfl
  simp [Builtin.append_, run_underlying Try.underlying101, Builtin.lenOf, sizeOf, typeInfo, hi, hz1, hf, storeCells]
theorem app_all {w : World} {base q : Nat} {a : Option Addr} {cp : Nat} {L : List Nt} (hown : w.ownsRow base 75 3 (.slice (some ⟨q, 0, none⟩) 0 0) 0 []) (hb : base ≤ w.heap.size) (hc : CountsIn w a L.length (gd L)) (hz : L = [] → a = none ∧ cp = 0) (hl : L.length ≤ 1000000000) :
    ∃ v1 w1, (∀ ty, (Builtin.append_ #[101, 101] ty #[.slice (some ⟨q, 0, none⟩) 0 0, .slice a L.length cp]).run Try.prog w = .ok v1 w1) ∧ w1.ownsRow base 75 3 v1 L.length (nc L) ∧ w.grownBy w1 (Value.slice (some ⟨q, 0, none⟩) 0 0).ownBlock := by
  by_cases h : L = []
  · obtain ⟨rfl, rfl⟩ := hz h
    subst h
    exact ⟨_, w, fun ty => append_nil0 q w ty, hown, ⟨rfl, rfl, rfl, Nat.le_refl _, fun _ _ _ => rfl⟩⟩
  · have h0 : 0 < L.length := List.length_pos_iff.2 h
    obtain ⟨p, rfl, _⟩ := hc h0
    exact app_notes hown hb hc h0 hl

theorem counts_set {w : World} {a : Option Addr} {n b : Nat} {V : Nat → Nt} (h : CountsIn w a n V) (hap : ∀ p, a = some p → p.block ≠ b) (i : Nat) (v : Value) : CountsIn (w.setCell ⟨b, i, none⟩ v) a n V := by
  intro q
  obtain ⟨pp, hpp, hq⟩ := h q
  refine ⟨pp, hpp, fun k hk => ?_⟩
  obtain ⟨q1, q2, q3⟩ := hq k hk
  have hne : (pp.add (k * 3)).block ≠ b := by rw [show (pp.add (k * 3)).block = pp.block by unfold Addr.add; split <;> rfl]; exact hap pp hpp
  have hh := Below.heap_setCell w ⟨b, i, none⟩ v (pp.add (k * 3)).block hne
  exact ⟨(World.cell?_of_block (w := w) (a := pp.add (k * 3)) hh).trans q1, (World.cell?_of_block (w := w) (a := ⟨(pp.add (k * 3)).block, (pp.add (k * 3)).off + 1, none⟩) hh).trans q2, (World.cell?_of_block (w := w) (a := ⟨(pp.add (k * 3)).block, (pp.add (k * 3)).off + 2, none⟩) hh).trans q3⟩

/-- The loop's end, told. -/
def TakeP (Bq b t s : Nat) (now : Int) (L : List Nt) (x y z : Int) (W : World) (e : Ending) (w' : World) : Prop :=
  e = .returned (.tuple #[]) ∧ Fr b b W w' ∧ ∃ L', MG Bq w' b t s now true L' ∧ GL L' = cutF (addAt (GL L) x y) (now - s) ∧ BL L' = cutF (addAt (BL L) x z) (now - s) ∧ L'.length ≤ L.length + 1

set_option maxRecDepth 100000 in
set_option maxHeartbeats 8000000 in
theorem take_any {Bq : Nat} {w : World} {b t s : Nat} {now : Int} {m : Bool} {L : List Nt} (h : MG Bq w b t s now m L) (x y z : Int) (hm : mayB x y z) (hlen : L.length ≤ 1000000) (hBw : Bq ≤ w.heap.size) :
    Calls Try.prog 95 #[.pointer (some ⟨b, 0, none⟩), .agg #[.int .i64 x, .int .i64 y, .int .i64 z]] w (TakeP Bq b t s (max now x) L x y z w) := by
  obtain ⟨a, cp, h, h0, hz, _⟩ := h
  have hmay := h.may
  have s1 := h.s1
  have s2 := h.s2
  have hr := h.range
  have hap := h.apart
  obtain ⟨m1, m2, m3, m4, m5, m6⟩ := hm
  have hblt := (Array.getElem?_eq_some_iff.1 h.bud).1
  have hbel : Below w.heap.size w (w.alloc (.cells #[.int .i64 x, .int .i64 y, .int .i64 z] 75)) := (Below.refl _ _).alloc (Nat.le_refl _) _
  have h1 := h.own hbel
  have hblk : (w.alloc (.cells #[.int .i64 x, .int .i64 y, .int .i64 z] 75)).heap[w.heap.size]? = some (.cells #[.int .i64 x, .int .i64 y, .int .i64 z] 75 (0, 0)) := alloc_at _ _
  obtain ⟨p, hp⟩ : ∃ p, p = w.heap.size := ⟨_, rfl⟩
  have hpb : p ≠ b := by omega
  have hbp : b ≠ p := fun e => hpb e.symm
  obtain ⟨c0, c1, c2, c3, c4⟩ := h1.cells
  have e0 := cell_of_block hblk 0
  have e0' : (w.alloc (.cells #[.int .i64 x, .int .i64 y, .int .i64 z] 75)).cell? ⟨w.heap.size, 0, none⟩ = some (.int .i64 x) := e0
  have hbud := h1.bud
  have hcn := h1.notes
  have HP := Lib.hid hp
  have H0 := Lib.hid h0
  have HZ := Lib.hid hz
  clear h h1 e0 h0 hz
  go_enter Try.func95, Try.ntmps95
  go_wp2
  rw [← hp] at e0' hblk ⊢
  clear hp
  generalize w.alloc (.cells #[.int .i64 x, .int .i64 y, .int .i64 z] 75) = wA at *
  cases m
  · have HMX := Lib.hid (show max now x = x by have := (H0.out rfl).1; omega)
    go_quiet (fail)
    have d3 : (wA.drewN nq).cell? ⟨b, 3, none⟩ = some (.int .i64 now) := c3
    have d4 : (wA.drewN nq).cell? ⟨b, 4, none⟩ = _ := c4
    have g0 : (wA.drewN nq).cell? ⟨p, 0, none⟩ = _ := e0'
    have hbud2 : (wA.drewN nq).heap[b]? = _ := hbud
    have hblk2 : (wA.drewN nq).heap[p]? = _ := hblk
    have hcn2 : CountsIn (wA.drewN nq) a L.length (gd L) := hcn.drewN nq
    have hbel2 := below_dN (n := nq) hbel
    clear c0 c1 c2 c3 c4 e0' hbud hblk hcn hbel
    generalize wA.drewN nq = wB at *
    have z3 := frozen_of_block hbud2 3
    have hbud3 := heap_setCell_same wB b 3 _ 103 (.int .i64 x) hbud2
    have k4 : (wB.setCell ⟨b, 3, none⟩ (.int .i64 x)).cell? ⟨b, 4, none⟩ = _ := cell_of_block hbud3 4
    have z4 := frozen_of_block hbud3 4
    have hbud4 : ((wB.setCell ⟨b, 3, none⟩ (.int .i64 x)).setCell ⟨b, 4, none⟩ (.bool true)).heap[b]? = some (.cells (mrV t s a L.length cp (max now x) true) 103 (0, 0)) := by rw [heap_setCell_same _ b 4 _ 103 (.bool true) hbud3, HMX.out]; rfl
    have hoth : ∀ k, k ≠ b → ((wB.setCell ⟨b, 3, none⟩ (.int .i64 x)).setCell ⟨b, 4, none⟩ (.bool true)).heap[k]? = wB.heap[k]? := fun k hk => (Below.heap_setCell _ ⟨b, 4, none⟩ _ k hk).trans (Below.heap_setCell _ ⟨b, 3, none⟩ _ k hk)
    have hfr : Fr b b w ((wB.setCell ⟨b, 3, none⟩ (.int .i64 x)).setCell ⟨b, 4, none⟩ (.bool true)) := ((Fr.ofBelow (b := b) (g := b) hbel2).setB 3 _).setB 4 _
    have hblk4 : ((wB.setCell ⟨b, 3, none⟩ (.int .i64 x)).setCell ⟨b, 4, none⟩ (.bool true)).heap[p]? = _ := (hoth p hpb).trans hblk2
    have hcn4 : CountsIn ((wB.setCell ⟨b, 3, none⟩ (.int .i64 x)).setCell ⟨b, 4, none⟩ (.bool true)) a L.length (gd L) := fun q => by
      obtain ⟨pp, hpp, hq⟩ := hcn2 q
      refine ⟨pp, hpp, fun i hi => ?_⟩
      obtain ⟨q1, q2, q3⟩ := hq i hi
      have hne : ∀ i, (pp.add i).block ≠ b := fun i => by rw [show (pp.add i).block = pp.block by unfold Addr.add; split <;> rfl]; exact hap pp hpp
      have hh := hoth (pp.add (i * 3)).block (hne _)
      exact ⟨(World.cell?_of_block (w := wB) (a := pp.add (i * 3)) hh).trans q1, (World.cell?_of_block (w := wB) (a := ⟨(pp.add (i * 3)).block, (pp.add (i * 3)).off + 1, none⟩) hh).trans q2, (World.cell?_of_block (w := wB) (a := ⟨(pp.add (i * 3)).block, (pp.add (i * 3)).off + 2, none⟩) hh).trans q3⟩
    obtain ⟨w4, hw4⟩ : ∃ w4, w4 = ((wB.setCell ⟨b, 3, none⟩ (.int .i64 x)).setCell ⟨b, 4, none⟩ (.bool true)) := ⟨_, rfl⟩
    rw [← hw4] at hbud4 hblk4 hcn4 hfr
    have HW4 := Lib.hid hw4
    have HC := Lib.hid (And.intro hbud4 (And.intro hblk4 (And.intro hcn4 hfr)))
    clear hw4 hbud4 hblk4 hcn4 hfr hoth hbud2 hblk2 hcn2 hbel2 hbud3
    go_wp2_with (first | ((with_reducible refine at_op (.store 2 (.tmp 25) (.tmp 23)) rfl ?_); refine wpList_store_cell rfl 2 (.tmp 25) _ rfl ⟨b, 3, none⟩ _ (.int .i64 x) rfl rfl (by kernel_rfl) rfl rfl d3 z3 ?_) | ((with_reducible refine at_op (.store 4 (.tmp 28) (.const (.bool true))) rfl ?_); refine wpList_store_cell rfl 4 (.tmp 28) _ rfl ⟨b, 4, none⟩ _ (.bool true) rfl rfl (by kernel_rfl) rfl rfl k4 z4 ?_))
    rw [← HW4.out]
    clear HW4 d3 d4 g0 k4 z3 z4
    obtain ⟨hbud, hblk, hcn, hfr⟩ := HC.out
    clear HC
    have hbd : Below w4.heap.size w4 w4.drew := (Below.refl _ _).drew
    have hlb : b < w4.heap.size := (Array.getElem?_eq_some_iff.1 hbud).1
    have hlp : p < w4.heap.size := (Array.getElem?_eq_some_iff.1 hblk).1
    have HD := Lib.hid (show ∀ w', Below w4.heap.size w4 w' → w'.cell? ⟨b, 2, none⟩ = some (.slice a L.length cp) ∧ w'.cell? ⟨p, 0, none⟩ = some (.int .i64 x) ∧ w'.cell? ⟨p, 1, none⟩ = some (.int .i64 y) ∧ w'.cell? ⟨p, 2, none⟩ = some (.int .i64 z) from
      fun w' hb => ⟨(hb.cell (p := ⟨b, 2, none⟩) hlb).trans (cell_of_block hbud 2), (hb.cell (p := ⟨p, 0, none⟩) hlp).trans (cell_of_block hblk 0), (hb.cell (p := ⟨p, 1, none⟩) hlp).trans (cell_of_block hblk 1), (hb.cell (p := ⟨p, 2, none⟩) hlp).trans (cell_of_block hblk 2)⟩)
    have hlen : L.length ≤ 1000000000 := by omega
    go_wp2_with fail
    refine wp_region_held_drew (S := fun w' => Below w4.heap.size w4 w' ∧ w'.cell? ⟨b, 2, none⟩ = some (.slice a L.length cp) ∧ w'.cell? ⟨p, 0, none⟩ = some (.int .i64 x) ∧ w'.cell? ⟨p, 1, none⟩ = some (.int .i64 y) ∧ w'.cell? ⟨p, 2, none⟩ = some (.int .i64 z)) (by kernel_rfl) ⟨hbd, HD.out _ hbd⟩ (fun hHeld => ?_)
    refine take_at (i := 1) (d := some 30) (v := ?_) rfl rfl (by kernel_rfl) (by kernel_rfl) (by kernel_rfl) (fun _ _ _ h => h) (Or.inl ⟨by rfl, fun w hSw => ?_⟩) hHeld ?_
    rotate_left
    · (try dsimp only at hSw); go_simp; try with_reducible rfl
    try simp only [Act.put, List.setIfInBounds_toArray, List.set_cons_zero, List.set_cons_succ]
    refine take_at (i := 2) (d := some 31) (v := ?_) rfl rfl (by kernel_rfl) (by kernel_rfl) (by kernel_rfl) (fun _ _ _ h => h) (Or.inl ⟨by rfl, fun w hSw => ?_⟩) hHeld ?_
    rotate_left
    · (try dsimp only at hSw); go_simp; try with_reducible rfl
    try simp only [Act.put, List.setIfInBounds_toArray, List.set_cons_zero, List.set_cons_succ]
    refine take_at (i := 3) (d := some 32) (v := ?_) rfl rfl (by kernel_rfl) (by kernel_rfl) (by kernel_rfl) (fun _ _ _ h => h) (Or.inl ⟨by rfl, fun w hSw => ?_⟩) hHeld ?_
    rotate_left
    · (try dsimp only at hSw); go_simp; try with_reducible rfl
    try simp only [Act.put, List.setIfInBounds_toArray, List.set_cons_zero, List.set_cons_succ]
    refine take_at (i := 4) (d := some 33) (v := ?_) rfl rfl (by kernel_rfl) (by kernel_rfl) (by kernel_rfl) (fun _ _ _ h => h) (Or.inl ⟨by rfl, fun w hSw => ?_⟩) hHeld ?_
    rotate_left
    · (try dsimp only at hSw); go_simp; try with_reducible rfl
    try simp only [Act.put, List.setIfInBounds_toArray, List.set_cons_zero, List.set_cons_succ]
    refine take_at (i := 6) (d := some 35) (v := ?_) rfl rfl (by kernel_rfl) (by kernel_rfl) (by kernel_rfl) (fun _ _ _ h => h) (Or.inl ⟨by rfl, fun w hSw => ?_⟩) hHeld ?_
    rotate_left
    · (try dsimp only at hSw); go_simp; try with_reducible rfl
    try simp only [Act.put, List.setIfInBounds_toArray, List.set_cons_zero, List.set_cons_succ]
    refine wpAnyH_ready (rs := [0, 7]) (by kernel_rfl) (by simp) ?_
    refine ready_cons (d := some 29) rfl rfl (by rfl) (fun K hK => ?_) ?_
    · have hb1 : Below w4.heap.size w4 (w4.alloc (.cells #[] 75)).drew := ((Below.refl w4.heap.size w4).alloc (Nat.le_refl _) (.cells #[] 75)).drew
      go_simp
      refine hK.out _ _ ⟨hb1, HD.out _ hb1⟩ (fun hHeld2 => ?_)
      clear hK K hHeld
      have hHeld := hHeld2
      clear hHeld2
      try simp only [Act.put, List.setIfInBounds_toArray, List.set_cons_zero, List.set_cons_succ]
      have hown0 : ((w4.alloc (.cells #[] 75)).drew).ownsRow w4.heap.size 75 3 (.slice (some ⟨w4.heap.size, 0, none⟩) 0 0) 0 [] := ownsRow_drew (World.ownsRow_made w4 #[] 0 (Nat.le_refl _) (Nat.zero_le _) rfl)
      refine wpAnyH_ready (rs := [5, 7]) (by kernel_rfl) (by simp) ?_
      refine ready_cons (d := some 34) rfl rfl (by rfl) (fun K hK => ?_) ?_
      · obtain ⟨v1, w1, hr1, ho1, hg1⟩ := app_all hown0 hb1.size (hcn.belowS hb1) HZ.out hlen
        have hb2 := hb1.grown hg1 hb1.size (fun k hk => (hown0.lt k hk).1)
        refine wp_append_run (.tmp 29) (.tmp 33) 101 rfl _ _ v1 w1 rfl rfl (hr1 _) ?_
        refine hK.out _ _ ⟨hb2, HD.out _ hb2⟩ (fun hHeld2 => ?_)
        clear hK K hHeld
        have hHeld := hHeld2
        clear hHeld2
        try simp only [Act.put, List.setIfInBounds_toArray, List.set_cons_zero, List.set_cons_succ]
        refine wpAnyH_ready (rs := [7]) (by kernel_rfl) (by simp) ?_
        refine ready_cons (d := some 36) rfl rfl (by rfl) (fun K hK => ?_) AllReadyH.nil
        have hb3 : Below w4.heap.size w4 (w1.alloc (.cells #[.int .i64 x, .int .i64 y, .int .i64 z] 75)) := hb2.alloc hb2.size _
        go_simp
        refine hK.out _ _ ⟨hb3, HD.out _ hb3⟩ (fun hHeld2 => ?_)
        clear hK K hHeld
        have hHeld := hHeld2
        clear hHeld2
        try simp only [Act.put, List.setIfInBounds_toArray, List.set_cons_zero, List.set_cons_succ]
        refine wpAnyH_ready (rs := [8]) (by kernel_rfl) (by simp) ?_
        refine ready_cons (d := some 37) rfl rfl (by rfl) (fun K hK => ?_) AllReadyH.nil
        obtain ⟨v2, w2, hr2, ho2, hg2⟩ := app_one (ho1.alloc (.cells #[.int .i64 x, .int .i64 y, .int .i64 z] 75)) hb3.size (cell_of_block (alloc_at _ _) 0) (cell_of_block (alloc_at _ _) 1) (cell_of_block (alloc_at _ _) 2) hlen
        have hb4 := hb3.grown hg2 hb3.size (fun k hk => (ho1.lt k hk).1)
        refine wp_append_run (.tmp 34) (.tmp 36) 101 rfl _ _ v2 w2 rfl rfl (hr2 _) ?_
        refine hK.out _ _ ⟨hb4, HD.out _ hb4⟩ (fun hHeld2 => ?_)
        clear hK K hHeld
        have hHeld := hHeld2
        clear hHeld2
        try simp only [Act.put, List.setIfInBounds_toArray, List.set_cons_zero, List.set_cons_succ]
        refine take_at (i := 9) (d := some 5) (v := ?_) rfl rfl (by kernel_rfl) (by kernel_rfl) (by kernel_rfl) (fun _ _ _ h => h) (Or.inl ⟨by rfl, fun w hSw => ?_⟩) hHeld ?_
        rotate_left
        · (try dsimp only at hSw); go_simp; try with_reducible rfl
        try simp only [Act.put, List.setIfInBounds_toArray, List.set_cons_zero, List.set_cons_succ]
        refine wpAnyH_done (by kernel_rfl) ?_ _
        have hown5 : w2.ownsRow w4.heap.size 75 3 v2 (L ++ [(x, y, z)]).length (nc (L ++ [(x, y, z)])) := by rw [List.length_append, nc_append]; exact ho2
        have HB4 := Lib.hid hb4
        have hlen5 : (L ++ [(x, y, z)]).length = L.length + 1 := by rw [List.length_append]; rfl
        obtain ⟨aA, cA, hv2, hcA, _, hpA⟩ := own_notes hown5
        subst hv2
        have hmayA : ∀ i, i < (L ++ [(x, y, z)]).length → mayB (gd (L ++ [(x, y, z)]) i).1 (gd (L ++ [(x, y, z)]) i).2.1 (gd (L ++ [(x, y, z)]) i).2.2 ∧ (gd (L ++ [(x, y, z)]) i).1 ≤ max now x := by
          intro i hi
          rw [hlen5] at hi
          by_cases e : i = L.length
          · subst e; rw [gd_last]; exact ⟨⟨m1, m2, m3, m4, m5, m6⟩, by show x ≤ _; omega⟩
          · rw [gd_left (by omega)]
            have := hmay i (by omega)
            exact ⟨this.1, by omega⟩
        have hGA := GL_append (L := L) (x := (x, y, z)) ⟨m1, m2, m3, m4, m5, m6⟩
        unfold GL BL at hGA
        obtain ⟨n1, hn1⟩ : ∃ n1, n1 = (L ++ [(x, y, z)]).length := ⟨_, rfl⟩
        obtain ⟨V, hV⟩ : ∃ V, V = gd (L ++ [(x, y, z)]) := ⟨_, rfl⟩
        obtain ⟨N1, hN1⟩ : ∃ N1, N1 = max now x := ⟨_, rfl⟩
        rw [← hn1] at hcA hmayA hlen5 hGA ⊢
        rw [← hV] at hcA hmayA hGA
        rw [← hN1] at hmayA hbud
        have hN2 : 0 ≤ N1 ∧ N1 ≤ 4611686018427387904 := by omega
        have HA := Lib.hid hmayA
        have HGA := Lib.hid hGA
        have HN1 := Lib.hid hN1
        have HFR := Lib.hid hfr
        have HBU := Lib.hid hbud
        have hn1b : n1 ≤ 1000000001 := by omega
        have hl5 := Lib.hid hlen5
        have hbsz := hb4.size
        have hnn : n1 ≤ 9223372036854775807 := by omega
        have hlb2 : b < w2.heap.size := by omega
        have hpA2 := Lib.hid hpA
        obtain ⟨i0, hi, hz0, hz1, hz2⟩ := info75
        clear hown5 ho2 hr2 hg2 ho1 hr1 hg1 hb4 hmayA hGA hn1 hV hN1 hHeld HD hcn hblk hfr hbud hbd hlen5 hpA
        go_wp2_with fail
        go_loopw [4, 6] (fun v i W => ∃ (j : Nat) (L1 : List Nt), i = .int .i64 j ∧ j ≤ n1 ∧ W.ownsRow w2.heap.size 75 3 v L1.length (nc L1) ∧ GL L1 = cutF (goodN V j) (N1 - s) ∧ BL L1 = cutF (badN V j) (N1 - s) ∧ (∀ i, i < L1.length → mayB (gd L1 i).1 (gd L1 i).2.1 (gd L1 i).2.2 ∧ (gd L1 i).1 ≤ N1) ∧ L1.length ≤ j ∧ (L1 = [] → v = .slice none 0 0) ∧ Below w2.heap.size w2 W) (fun _ i _ => n1 - (intOf i).toNat)
        case atStart => exact ⟨0, [], rfl, by omega, ⟨rfl, Or.inl ⟨rfl, rfl⟩⟩, (cut_none _).symm, (cut_none _).symm, fun i hi => by simp at hi, by simp, fun _ => rfl, Below.refl _ _⟩
        case round =>
          obtain ⟨j, L1, rfl, hj, hown, hg, hb, hm1, hl1, hvn, hbel⟩ := hrel
          have hbudr : wr.heap[b]? = some (.cells (mrV t s a L.length cp N1 true) 103 (0, 0)) := by rw [hbel.block b hlb2, HB4.out.block b hlb]; exact HBU.out
          have r1 := cell_of_block hbudr 1
          have r3 := cell_of_block hbudr 3
          have r1' : wr.cell? ⟨b, 1, none⟩ = some (.int .i64 s) := r1
          have r3' : wr.cell? ⟨b, 3, none⟩ = some (.int .i64 N1) := r3
          have HO := Lib.hid hown
          have HG := Lib.hid (And.intro hg (And.intro hb (And.intro hm1 (And.intro hl1 hvn))))
          by_cases hlt : j < n1
          · have i1 : (j : Int) < (n1 : Int) := by omega
            obtain ⟨pp, rfl, hD⟩ := hcA (by omega)
            obtain ⟨e1, e2, e3⟩ := hD j hlt
            have f1 := (hbel.cell (block_lt e1)).trans e1
            have f2 := (hbel.cell (p := ⟨(pp.add (j * 3)).block, (pp.add (j * 3)).off + 1, none⟩) (block_lt e2)).trans e2
            have f3 := (hbel.cell (p := ⟨(pp.add (j * 3)).block, (pp.add (j * 3)).off + 2, none⟩) (block_lt e3)).trans e3
            obtain ⟨hmj, hlej⟩ := HA.out j hlt
            have hG1 : goodN V (j + 1) = addAt (goodN V j) (V j).1 (V j).2.1 := by rw [goodN, if_pos hmj]
            have hB1 : badN V (j + 1) = addAt (badN V j) (V j).1 (V j).2.2 := by rw [badN, if_pos hmj]
            have hr0 := hmj.1
            have hr1 := hmj.2.1
            have HMJ := Lib.hid (And.intro hmj hlej)
            by_cases hin : N1 - s < (V j).1
            · have HN := Lib.hid (show GL (L1 ++ [V j]) = cutF (goodN V (j + 1)) (N1 - s) ∧ BL (L1 ++ [V j]) = cutF (badN V (j + 1)) (N1 - s) by
                obtain ⟨q1, q2⟩ := GL_append (L := L1) (x := V j) hmj
                rw [q1, q2, hG1, hB1, cut_add, cut_add, if_pos hin, if_pos hin, hg, hb]; exact ⟨rfl, rfl⟩)
              clear e1 e2 e3 hD hmj hlej hown hg hb hm1 hl1 hvn hG1 hB1 r1 r3
              go_wp2_with fail
              go_quiet (fail)
              have f1' : (wr.drewN nq).cell? _ = _ := f1
              have f2' : (wr.drewN nq).cell? _ = _ := f2
              have f3' : (wr.drewN nq).cell? _ = _ := f3
              have hbel2 := below_dN (n := nq) hbel
              have HO2 := Lib.hid (show (wr.drewN nq).ownsRow w2.heap.size 75 3 _ L1.length (nc L1) from HO.out)
              have hbs := hbel2.size
              clear f1 f2 f3 r1' r3' hbel hbudr
              generalize wr.drewN nq = wx at *
              go_wp2_with (at_builtin; refine wpList_append_own _ rfl (.tmp 59) (.tmp 64) 101 rfl w2.heap.size 75 i0 (.agg #[.int .i64 0, .int .i64 0, .int .i64 0]) 3 24 Try.underlying101 hi hz0 hz1 hz2 rfl (by decide) _ _ _ rfl (HO2.out.alloc _) ⟨wx.heap.size, 0, none⟩ 1 1 [.int .i64 (V j).1, .int .i64 (V j).2.1, .int .i64 (V j).2.2] rfl rfl ?cc1 ?cc2 ?cc3 ?cc4 ?cc5 ?_)
              case cc1 => intro m u hu; rcases m with _ | _ | _ | m <;> simp at hu <;> subst hu; exact cell_of_block (alloc_at _ _) 0; exact cell_of_block (alloc_at _ _) 1; exact cell_of_block (alloc_at _ _) 2
              case cc2 => intro u hu; simp at hu; rcases hu with rfl | rfl | rfl <;> rfl
              case cc3 => have := HG.out.2.2.2.1; simp only [maxLen]; omega
              case cc4 => have := HG.out.2.2.2.1; omega
              case cc5 => simp; omega
              intro v' w6 hown6 hg6 hnil
              have hbel6 := (hbel2.alloc hbs _).grown hg6 (by simp; omega) (fun q hq => (HO2.out.lt q hq).1)
              have HO6 := Lib.hid (show w6.ownsRow w2.heap.size 75 3 v' (L1 ++ [V j]).length (nc (L1 ++ [V j])) by rw [List.length_append, nc_append]; exact hown6)
              clear hown6 hg6 hnil hbel2 f1' f2' f3'
              go_wp2_with fail
              go_roundw
              case rel =>
                obtain ⟨q1, q2, q3, q4, q5⟩ := HG.out
                refine ⟨j + 1, L1 ++ [V j], by go_num, by omega, HO6.out, HN.out.1, HN.out.2, ?_, by rw [List.length_append, List.length_singleton]; omega, fun e => by simp at e, hbel6⟩
                intro i hi
                rw [List.length_append, List.length_singleton] at hi
                by_cases e : i = L1.length
                · subst e; rw [gd_last]; exact HMJ.out
                · rw [gd_left (by omega)]; exact q3 i (by omega)
              case measure => simp [intOf]; omega
            · have HN := Lib.hid (show GL L1 = cutF (goodN V (j + 1)) (N1 - s) ∧ BL L1 = cutF (badN V (j + 1)) (N1 - s) by
                rw [hG1, hB1, cut_add, cut_add, if_neg hin, if_neg hin]; exact ⟨hg, hb⟩)
              clear e1 e2 e3 hD hmj hlej hown hg hb hm1 hl1 hvn hG1 hB1 r1 r3
              go_wp2_with fail
              go_quiet (fail)
              have hbel2 := below_dN (n := nq) hbel
              have HO2 := Lib.hid (show (wr.drewN nq).ownsRow w2.heap.size 75 3 _ L1.length (nc L1) from HO.out)
              clear f1 f2 f3 r1' r3' hbel hbudr
              generalize wr.drewN nq = wx at *
              go_wp2_with fail
              go_roundw
              case rel =>
                obtain ⟨q1, q2, q3, q4, q5⟩ := HG.out
                exact ⟨j + 1, L1, by go_num, by omega, HO2.out, HN.out.1, HN.out.2, q3, by omega, q5, hbel2⟩
              case measure => simp [intOf]; omega
          · have i1 : ¬ ((j : Int) < (n1 : Int)) := by omega
            have hjn : j = n1 := by omega
            subst hjn
            obtain ⟨a1, c1, hv, hc1, _, hp1⟩ := own_notes hown
            subst hv
            have r2 : wr.cell? ⟨b, 2, none⟩ = some (.slice a L.length cp) := cell_of_block hbudr 2
            have z2 := frozen_of_block hbudr 2
            have hapart : ∀ p, a1 = some p → p.block ≠ b := fun p hp => by have := (hp1 p hp).1; omega
            have hfin : TakeP Bq b t s (max now x) L x y z w (.returned (.tuple #[])) (wr.setCell ⟨b, 2, none⟩ (.slice a1 L1.length c1)) := by
              refine ⟨rfl, (HFR.out.trans (Fr.ofBelow HB4.out)).trans ((Fr.ofBelow hbel).setB 2 _), L1, ⟨a1, c1, ⟨s1, s2, ?_, counts_set hc1 hapart 2 _, hapart, by have := hl5.out; omega, ?_, ?_⟩, (fun e => absurd e (by decide)), (fun e => ?_), (fun p hp => by have q1 := (hp1 p hp).1; have q2 := HFR.out.size; omega)⟩, ?_, ?_, by have := hl5.out; omega⟩
              · rw [heap_setCell_same wr b 2 _ 103 (.slice a1 L1.length c1) hbudr, ← HN1.out]; rfl
              · rw [← HN1.out]; exact hm1
              · rw [← HN1.out]; exact hN2
              · have := hvn e
                simp only [Value.slice.injEq] at this
                exact ⟨this.1, this.2.2⟩
              · rw [hg, HGA.out.1, ← HN1.out]; rfl
              · rw [hb, HGA.out.2, ← HN1.out]; rfl
            have HFIN := Lib.hid hfin
            clear hfin hown hg hb hm1 hl1 hvn hc1 hp1 hapart r1 r3
            go_wp2_with ((with_reducible refine at_op (.store 101 (.tmp 69) (.tmp 67)) rfl ?_); refine wpList_store_cell rfl 101 (.tmp 69) _ rfl ⟨b, 2, none⟩ _ (.slice a1 L1.length c1) rfl rfl (by kernel_rfl) rfl rfl r2 z2 ?_)
            go_end0
            exact HFIN.out
      refine ready_cons (d := some 36) rfl rfl (by rfl) (fun K hK => ?_) AllReadyH.nil
      · have hb2 : Below w4.heap.size w4 ((w4.alloc (.cells #[] 75)).alloc (.cells #[.int .i64 x, .int .i64 y, .int .i64 z] 75)).drew := (((Below.refl w4.heap.size w4).alloc (Nat.le_refl _) (.cells #[] 75)).alloc (by rw [World.size_alloc]; exact Nat.le_succ _) (.cells #[.int .i64 x, .int .i64 y, .int .i64 z] 75)).drew
        go_simp
        refine hK.out _ _ ⟨hb2, HD.out _ hb2⟩ (fun hHeld2 => ?_)
        clear hK K hHeld
        have hHeld := hHeld2
        clear hHeld2
        try simp only [Act.put, List.setIfInBounds_toArray, List.set_cons_zero, List.set_cons_succ]
        refine wpAnyH_ready (rs := [5]) (by kernel_rfl) (by simp) ?_
        refine ready_cons (d := some 34) rfl rfl (by rfl) (fun K hK => ?_) AllReadyH.nil
        have hown1 : (((w4.alloc (.cells #[] 75)).alloc (.cells #[.int .i64 x, .int .i64 y, .int .i64 z] 75)).drew).ownsRow w4.heap.size 75 3 (.slice (some ⟨w4.heap.size, 0, none⟩) 0 0) 0 [] := ownsRow_drew ((World.ownsRow_made w4 #[] 0 (Nat.le_refl _) (Nat.zero_le _) rfl).alloc _)
        have hxb : (((w4.alloc (.cells #[] 75)).alloc (.cells #[.int .i64 x, .int .i64 y, .int .i64 z] 75)).drew).heap[w4.heap.size + 1]? = some (.cells #[.int .i64 x, .int .i64 y, .int .i64 z] 75 (0, 0)) := alloc_at' (w4.alloc (.cells #[] 75)) _ _ (World.size_alloc _ _).symm
        obtain ⟨v1, w1, hr1, ho1, hg1⟩ := app_all hown1 hb2.size (hcn.belowS hb2) HZ.out hlen
        have hb3 := hb2.grown hg1 hb2.size (fun k hk => (hown1.lt k hk).1)
        refine wp_append_run (.tmp 29) (.tmp 33) 101 rfl _ _ v1 w1 rfl rfl (hr1 _) ?_
        refine hK.out _ _ ⟨hb3, HD.out _ hb3⟩ (fun hHeld2 => ?_)
        clear hK K hHeld
        have hHeld := hHeld2
        clear hHeld2
        try simp only [Act.put, List.setIfInBounds_toArray, List.set_cons_zero, List.set_cons_succ]
        have hxne : some (w4.heap.size + 1) ≠ (Value.slice (some ⟨w4.heap.size, 0, none⟩) 0 0).ownBlock := by simp [Value.ownBlock]
        refine wpAnyH_ready (rs := [8]) (by kernel_rfl) (by simp) ?_
        refine ready_cons (d := some 37) rfl rfl (by rfl) (fun K hK => ?_) AllReadyH.nil
        obtain ⟨v2, w2, hr2, ho2, hg2⟩ := app_one ho1 hb3.size (grownBy_cell hg1 (cell_of_block hxb 0) hxne) (grownBy_cell hg1 (cell_of_block hxb 1) hxne) (grownBy_cell hg1 (cell_of_block hxb 2) hxne) hlen
        have hb4 := hb3.grown hg2 hb3.size (fun k hk => (ho1.lt k hk).1)
        refine wp_append_run (.tmp 34) (.tmp 36) 101 rfl _ _ v2 w2 rfl rfl (hr2 _) ?_
        refine hK.out _ _ ⟨hb4, HD.out _ hb4⟩ (fun hHeld2 => ?_)
        clear hK K hHeld
        have hHeld := hHeld2
        clear hHeld2
        try simp only [Act.put, List.setIfInBounds_toArray, List.set_cons_zero, List.set_cons_succ]
        refine take_at (i := 9) (d := some 5) (v := ?_) rfl rfl (by kernel_rfl) (by kernel_rfl) (by kernel_rfl) (fun _ _ _ h => h) (Or.inl ⟨by rfl, fun w hSw => ?_⟩) hHeld ?_
        rotate_left
        · (try dsimp only at hSw); go_simp; try with_reducible rfl
        try simp only [Act.put, List.setIfInBounds_toArray, List.set_cons_zero, List.set_cons_succ]
        refine wpAnyH_done (by kernel_rfl) ?_ _
        have hown5 : w2.ownsRow w4.heap.size 75 3 v2 (L ++ [(x, y, z)]).length (nc (L ++ [(x, y, z)])) := by rw [List.length_append, nc_append]; exact ho2
        have HB4 := Lib.hid hb4
        have hlen5 : (L ++ [(x, y, z)]).length = L.length + 1 := by rw [List.length_append]; rfl
        obtain ⟨aA, cA, hv2, hcA, _, hpA⟩ := own_notes hown5
        subst hv2
        have hmayA : ∀ i, i < (L ++ [(x, y, z)]).length → mayB (gd (L ++ [(x, y, z)]) i).1 (gd (L ++ [(x, y, z)]) i).2.1 (gd (L ++ [(x, y, z)]) i).2.2 ∧ (gd (L ++ [(x, y, z)]) i).1 ≤ max now x := by
          intro i hi
          rw [hlen5] at hi
          by_cases e : i = L.length
          · subst e; rw [gd_last]; exact ⟨⟨m1, m2, m3, m4, m5, m6⟩, by show x ≤ _; omega⟩
          · rw [gd_left (by omega)]
            have := hmay i (by omega)
            exact ⟨this.1, by omega⟩
        have hGA := GL_append (L := L) (x := (x, y, z)) ⟨m1, m2, m3, m4, m5, m6⟩
        unfold GL BL at hGA
        obtain ⟨n1, hn1⟩ : ∃ n1, n1 = (L ++ [(x, y, z)]).length := ⟨_, rfl⟩
        obtain ⟨V, hV⟩ : ∃ V, V = gd (L ++ [(x, y, z)]) := ⟨_, rfl⟩
        obtain ⟨N1, hN1⟩ : ∃ N1, N1 = max now x := ⟨_, rfl⟩
        rw [← hn1] at hcA hmayA hlen5 hGA ⊢
        rw [← hV] at hcA hmayA hGA
        rw [← hN1] at hmayA hbud
        have hN2 : 0 ≤ N1 ∧ N1 ≤ 4611686018427387904 := by omega
        have HA := Lib.hid hmayA
        have HGA := Lib.hid hGA
        have HN1 := Lib.hid hN1
        have HFR := Lib.hid hfr
        have HBU := Lib.hid hbud
        have hn1b : n1 ≤ 1000000001 := by omega
        have hl5 := Lib.hid hlen5
        have hbsz := hb4.size
        have hnn : n1 ≤ 9223372036854775807 := by omega
        have hlb2 : b < w2.heap.size := by omega
        have hpA2 := Lib.hid hpA
        obtain ⟨i0, hi, hz0, hz1, hz2⟩ := info75
        clear hown5 ho2 hr2 hg2 ho1 hr1 hg1 hb4 hmayA hGA hn1 hV hN1 hHeld HD hcn hblk hfr hbud hbd hlen5 hpA
        go_wp2_with fail
        go_loopw [4, 6] (fun v i W => ∃ (j : Nat) (L1 : List Nt), i = .int .i64 j ∧ j ≤ n1 ∧ W.ownsRow w2.heap.size 75 3 v L1.length (nc L1) ∧ GL L1 = cutF (goodN V j) (N1 - s) ∧ BL L1 = cutF (badN V j) (N1 - s) ∧ (∀ i, i < L1.length → mayB (gd L1 i).1 (gd L1 i).2.1 (gd L1 i).2.2 ∧ (gd L1 i).1 ≤ N1) ∧ L1.length ≤ j ∧ (L1 = [] → v = .slice none 0 0) ∧ Below w2.heap.size w2 W) (fun _ i _ => n1 - (intOf i).toNat)
        case atStart => exact ⟨0, [], rfl, by omega, ⟨rfl, Or.inl ⟨rfl, rfl⟩⟩, (cut_none _).symm, (cut_none _).symm, fun i hi => by simp at hi, by simp, fun _ => rfl, Below.refl _ _⟩
        case round =>
          obtain ⟨j, L1, rfl, hj, hown, hg, hb, hm1, hl1, hvn, hbel⟩ := hrel
          have hbudr : wr.heap[b]? = some (.cells (mrV t s a L.length cp N1 true) 103 (0, 0)) := by rw [hbel.block b hlb2, HB4.out.block b hlb]; exact HBU.out
          have r1 := cell_of_block hbudr 1
          have r3 := cell_of_block hbudr 3
          have r1' : wr.cell? ⟨b, 1, none⟩ = some (.int .i64 s) := r1
          have r3' : wr.cell? ⟨b, 3, none⟩ = some (.int .i64 N1) := r3
          have HO := Lib.hid hown
          have HG := Lib.hid (And.intro hg (And.intro hb (And.intro hm1 (And.intro hl1 hvn))))
          by_cases hlt : j < n1
          · have i1 : (j : Int) < (n1 : Int) := by omega
            obtain ⟨pp, rfl, hD⟩ := hcA (by omega)
            obtain ⟨e1, e2, e3⟩ := hD j hlt
            have f1 := (hbel.cell (block_lt e1)).trans e1
            have f2 := (hbel.cell (p := ⟨(pp.add (j * 3)).block, (pp.add (j * 3)).off + 1, none⟩) (block_lt e2)).trans e2
            have f3 := (hbel.cell (p := ⟨(pp.add (j * 3)).block, (pp.add (j * 3)).off + 2, none⟩) (block_lt e3)).trans e3
            obtain ⟨hmj, hlej⟩ := HA.out j hlt
            have hG1 : goodN V (j + 1) = addAt (goodN V j) (V j).1 (V j).2.1 := by rw [goodN, if_pos hmj]
            have hB1 : badN V (j + 1) = addAt (badN V j) (V j).1 (V j).2.2 := by rw [badN, if_pos hmj]
            have hr0 := hmj.1
            have hr1 := hmj.2.1
            have HMJ := Lib.hid (And.intro hmj hlej)
            by_cases hin : N1 - s < (V j).1
            · have HN := Lib.hid (show GL (L1 ++ [V j]) = cutF (goodN V (j + 1)) (N1 - s) ∧ BL (L1 ++ [V j]) = cutF (badN V (j + 1)) (N1 - s) by
                obtain ⟨q1, q2⟩ := GL_append (L := L1) (x := V j) hmj
                rw [q1, q2, hG1, hB1, cut_add, cut_add, if_pos hin, if_pos hin, hg, hb]; exact ⟨rfl, rfl⟩)
              clear e1 e2 e3 hD hmj hlej hown hg hb hm1 hl1 hvn hG1 hB1 r1 r3
              go_wp2_with fail
              go_quiet (fail)
              have f1' : (wr.drewN nq).cell? _ = _ := f1
              have f2' : (wr.drewN nq).cell? _ = _ := f2
              have f3' : (wr.drewN nq).cell? _ = _ := f3
              have hbel2 := below_dN (n := nq) hbel
              have HO2 := Lib.hid (show (wr.drewN nq).ownsRow w2.heap.size 75 3 _ L1.length (nc L1) from HO.out)
              have hbs := hbel2.size
              clear f1 f2 f3 r1' r3' hbel hbudr
              generalize wr.drewN nq = wx at *
              go_wp2_with (at_builtin; refine wpList_append_own _ rfl (.tmp 59) (.tmp 64) 101 rfl w2.heap.size 75 i0 (.agg #[.int .i64 0, .int .i64 0, .int .i64 0]) 3 24 Try.underlying101 hi hz0 hz1 hz2 rfl (by decide) _ _ _ rfl (HO2.out.alloc _) ⟨wx.heap.size, 0, none⟩ 1 1 [.int .i64 (V j).1, .int .i64 (V j).2.1, .int .i64 (V j).2.2] rfl rfl ?cc1 ?cc2 ?cc3 ?cc4 ?cc5 ?_)
              case cc1 => intro m u hu; rcases m with _ | _ | _ | m <;> simp at hu <;> subst hu; exact cell_of_block (alloc_at _ _) 0; exact cell_of_block (alloc_at _ _) 1; exact cell_of_block (alloc_at _ _) 2
              case cc2 => intro u hu; simp at hu; rcases hu with rfl | rfl | rfl <;> rfl
              case cc3 => have := HG.out.2.2.2.1; simp only [maxLen]; omega
              case cc4 => have := HG.out.2.2.2.1; omega
              case cc5 => simp; omega
              intro v' w6 hown6 hg6 hnil
              have hbel6 := (hbel2.alloc hbs _).grown hg6 (by simp; omega) (fun q hq => (HO2.out.lt q hq).1)
              have HO6 := Lib.hid (show w6.ownsRow w2.heap.size 75 3 v' (L1 ++ [V j]).length (nc (L1 ++ [V j])) by rw [List.length_append, nc_append]; exact hown6)
              clear hown6 hg6 hnil hbel2 f1' f2' f3'
              go_wp2_with fail
              go_roundw
              case rel =>
                obtain ⟨q1, q2, q3, q4, q5⟩ := HG.out
                refine ⟨j + 1, L1 ++ [V j], by go_num, by omega, HO6.out, HN.out.1, HN.out.2, ?_, by rw [List.length_append, List.length_singleton]; omega, fun e => by simp at e, hbel6⟩
                intro i hi
                rw [List.length_append, List.length_singleton] at hi
                by_cases e : i = L1.length
                · subst e; rw [gd_last]; exact HMJ.out
                · rw [gd_left (by omega)]; exact q3 i (by omega)
              case measure => simp [intOf]; omega
            · have HN := Lib.hid (show GL L1 = cutF (goodN V (j + 1)) (N1 - s) ∧ BL L1 = cutF (badN V (j + 1)) (N1 - s) by
                rw [hG1, hB1, cut_add, cut_add, if_neg hin, if_neg hin]; exact ⟨hg, hb⟩)
              clear e1 e2 e3 hD hmj hlej hown hg hb hm1 hl1 hvn hG1 hB1 r1 r3
              go_wp2_with fail
              go_quiet (fail)
              have hbel2 := below_dN (n := nq) hbel
              have HO2 := Lib.hid (show (wr.drewN nq).ownsRow w2.heap.size 75 3 _ L1.length (nc L1) from HO.out)
              clear f1 f2 f3 r1' r3' hbel hbudr
              generalize wr.drewN nq = wx at *
              go_wp2_with fail
              go_roundw
              case rel =>
                obtain ⟨q1, q2, q3, q4, q5⟩ := HG.out
                exact ⟨j + 1, L1, by go_num, by omega, HO2.out, HN.out.1, HN.out.2, q3, by omega, q5, hbel2⟩
              case measure => simp [intOf]; omega
          · have i1 : ¬ ((j : Int) < (n1 : Int)) := by omega
            have hjn : j = n1 := by omega
            subst hjn
            obtain ⟨a1, c1, hv, hc1, _, hp1⟩ := own_notes hown
            subst hv
            have r2 : wr.cell? ⟨b, 2, none⟩ = some (.slice a L.length cp) := cell_of_block hbudr 2
            have z2 := frozen_of_block hbudr 2
            have hapart : ∀ p, a1 = some p → p.block ≠ b := fun p hp => by have := (hp1 p hp).1; omega
            have hfin : TakeP Bq b t s (max now x) L x y z w (.returned (.tuple #[])) (wr.setCell ⟨b, 2, none⟩ (.slice a1 L1.length c1)) := by
              refine ⟨rfl, (HFR.out.trans (Fr.ofBelow HB4.out)).trans ((Fr.ofBelow hbel).setB 2 _), L1, ⟨a1, c1, ⟨s1, s2, ?_, counts_set hc1 hapart 2 _, hapart, by have := hl5.out; omega, ?_, ?_⟩, (fun e => absurd e (by decide)), (fun e => ?_), (fun p hp => by have q1 := (hp1 p hp).1; have q2 := HFR.out.size; omega)⟩, ?_, ?_, by have := hl5.out; omega⟩
              · rw [heap_setCell_same wr b 2 _ 103 (.slice a1 L1.length c1) hbudr, ← HN1.out]; rfl
              · rw [← HN1.out]; exact hm1
              · rw [← HN1.out]; exact hN2
              · have := hvn e
                simp only [Value.slice.injEq] at this
                exact ⟨this.1, this.2.2⟩
              · rw [hg, HGA.out.1, ← HN1.out]; rfl
              · rw [hb, HGA.out.2, ← HN1.out]; rfl
            have HFIN := Lib.hid hfin
            clear hfin hown hg hb hm1 hl1 hvn hc1 hp1 hapart r1 r3
            go_wp2_with ((with_reducible refine at_op (.store 101 (.tmp 69) (.tmp 67)) rfl ?_); refine wpList_store_cell rfl 101 (.tmp 69) _ rfl ⟨b, 2, none⟩ _ (.slice a1 L1.length c1) rfl rfl (by kernel_rfl) rfl rfl r2 z2 ?_)
            go_end0
            exact HFIN.out
    refine ready_cons (d := some 36) rfl rfl (by rfl) (fun K hK => ?_) AllReadyH.nil
    · have hb1 : Below w4.heap.size w4 (w4.alloc (.cells #[.int .i64 x, .int .i64 y, .int .i64 z] 75)).drew := ((Below.refl w4.heap.size w4).alloc (Nat.le_refl _) (.cells #[.int .i64 x, .int .i64 y, .int .i64 z] 75)).drew
      go_simp
      refine hK.out _ _ ⟨hb1, HD.out _ hb1⟩ (fun hHeld2 => ?_)
      clear hK K hHeld
      have hHeld := hHeld2
      clear hHeld2
      try simp only [Act.put, List.setIfInBounds_toArray, List.set_cons_zero, List.set_cons_succ]
      refine wpAnyH_ready (rs := [0]) (by kernel_rfl) (by simp) ?_
      refine ready_cons (d := some 29) rfl rfl (by rfl) (fun K hK => ?_) AllReadyH.nil
      have hb2 : Below w4.heap.size w4 ((w4.alloc (.cells #[.int .i64 x, .int .i64 y, .int .i64 z] 75)).alloc (.cells #[] 75)).drew := (((Below.refl w4.heap.size w4).alloc (Nat.le_refl _) (.cells #[.int .i64 x, .int .i64 y, .int .i64 z] 75)).alloc (by rw [World.size_alloc]; exact Nat.le_succ _) (.cells #[] 75)).drew
      go_simp
      refine hK.out _ _ ⟨hb2, HD.out _ hb2⟩ (fun hHeld2 => ?_)
      clear hK K hHeld
      have hHeld := hHeld2
      clear hHeld2
      try simp only [Act.put, List.setIfInBounds_toArray, List.set_cons_zero, List.set_cons_succ]
      have hown0 : (((w4.alloc (.cells #[.int .i64 x, .int .i64 y, .int .i64 z] 75)).alloc (.cells #[] 75)).drew).ownsRow w4.heap.size 75 3 (.slice (some ⟨w4.heap.size + 1, 0, none⟩) 0 0) 0 [] := by
        have q := World.ownsRow_made (base := w4.heap.size) (e := 75) (size := 3) (w4.alloc (.cells #[.int .i64 x, .int .i64 y, .int .i64 z] 75)) #[] 0 (by rw [World.size_alloc]; exact Nat.le_succ _) (Nat.zero_le _) rfl
        rw [World.size_alloc] at q
        exact ownsRow_drew q
      have hxb : (((w4.alloc (.cells #[.int .i64 x, .int .i64 y, .int .i64 z] 75)).alloc (.cells #[] 75)).drew).heap[w4.heap.size]? = some (.cells #[.int .i64 x, .int .i64 y, .int .i64 z] 75 (0, 0)) := (Below.heap_alloc (w4.alloc (.cells #[.int .i64 x, .int .i64 y, .int .i64 z] 75)) _ _ (by rw [World.size_alloc]; exact Nat.lt_succ_self _)).trans (alloc_at w4 _)
      refine wpAnyH_ready (rs := [5]) (by kernel_rfl) (by simp) ?_
      refine ready_cons (d := some 34) rfl rfl (by rfl) (fun K hK => ?_) AllReadyH.nil
      obtain ⟨v1, w1, hr1, ho1, hg1⟩ := app_all hown0 hb2.size (hcn.belowS hb2) HZ.out hlen
      have hb3 := hb2.grown hg1 hb2.size (fun k hk => (hown0.lt k hk).1)
      refine wp_append_run (.tmp 29) (.tmp 33) 101 rfl _ _ v1 w1 rfl rfl (hr1 _) ?_
      refine hK.out _ _ ⟨hb3, HD.out _ hb3⟩ (fun hHeld2 => ?_)
      clear hK K hHeld
      have hHeld := hHeld2
      clear hHeld2
      try simp only [Act.put, List.setIfInBounds_toArray, List.set_cons_zero, List.set_cons_succ]
      have hxne : some w4.heap.size ≠ (Value.slice (some ⟨w4.heap.size + 1, 0, none⟩) 0 0).ownBlock := by simp [Value.ownBlock]
      refine wpAnyH_ready (rs := [8]) (by kernel_rfl) (by simp) ?_
      refine ready_cons (d := some 37) rfl rfl (by rfl) (fun K hK => ?_) AllReadyH.nil
      obtain ⟨v2, w2, hr2, ho2, hg2⟩ := app_one ho1 hb3.size (grownBy_cell hg1 (cell_of_block hxb 0) hxne) (grownBy_cell hg1 (cell_of_block hxb 1) hxne) (grownBy_cell hg1 (cell_of_block hxb 2) hxne) hlen
      have hb4 := hb3.grown hg2 hb3.size (fun k hk => (ho1.lt k hk).1)
      refine wp_append_run (.tmp 34) (.tmp 36) 101 rfl _ _ v2 w2 rfl rfl (hr2 _) ?_
      refine hK.out _ _ ⟨hb4, HD.out _ hb4⟩ (fun hHeld2 => ?_)
      clear hK K hHeld
      have hHeld := hHeld2
      clear hHeld2
      try simp only [Act.put, List.setIfInBounds_toArray, List.set_cons_zero, List.set_cons_succ]
      refine take_at (i := 9) (d := some 5) (v := ?_) rfl rfl (by kernel_rfl) (by kernel_rfl) (by kernel_rfl) (fun _ _ _ h => h) (Or.inl ⟨by rfl, fun w hSw => ?_⟩) hHeld ?_
      rotate_left
      · (try dsimp only at hSw); go_simp; try with_reducible rfl
      try simp only [Act.put, List.setIfInBounds_toArray, List.set_cons_zero, List.set_cons_succ]
      refine wpAnyH_done (by kernel_rfl) ?_ _
      have hown5 : w2.ownsRow w4.heap.size 75 3 v2 (L ++ [(x, y, z)]).length (nc (L ++ [(x, y, z)])) := by rw [List.length_append, nc_append]; exact ho2
      have HB4 := Lib.hid hb4
      have hlen5 : (L ++ [(x, y, z)]).length = L.length + 1 := by rw [List.length_append]; rfl
      obtain ⟨aA, cA, hv2, hcA, _, hpA⟩ := own_notes hown5
      subst hv2
      have hmayA : ∀ i, i < (L ++ [(x, y, z)]).length → mayB (gd (L ++ [(x, y, z)]) i).1 (gd (L ++ [(x, y, z)]) i).2.1 (gd (L ++ [(x, y, z)]) i).2.2 ∧ (gd (L ++ [(x, y, z)]) i).1 ≤ max now x := by
        intro i hi
        rw [hlen5] at hi
        by_cases e : i = L.length
        · subst e; rw [gd_last]; exact ⟨⟨m1, m2, m3, m4, m5, m6⟩, by show x ≤ _; omega⟩
        · rw [gd_left (by omega)]
          have := hmay i (by omega)
          exact ⟨this.1, by omega⟩
      have hGA := GL_append (L := L) (x := (x, y, z)) ⟨m1, m2, m3, m4, m5, m6⟩
      unfold GL BL at hGA
      obtain ⟨n1, hn1⟩ : ∃ n1, n1 = (L ++ [(x, y, z)]).length := ⟨_, rfl⟩
      obtain ⟨V, hV⟩ : ∃ V, V = gd (L ++ [(x, y, z)]) := ⟨_, rfl⟩
      obtain ⟨N1, hN1⟩ : ∃ N1, N1 = max now x := ⟨_, rfl⟩
      rw [← hn1] at hcA hmayA hlen5 hGA ⊢
      rw [← hV] at hcA hmayA hGA
      rw [← hN1] at hmayA hbud
      have hN2 : 0 ≤ N1 ∧ N1 ≤ 4611686018427387904 := by omega
      have HA := Lib.hid hmayA
      have HGA := Lib.hid hGA
      have HN1 := Lib.hid hN1
      have HFR := Lib.hid hfr
      have HBU := Lib.hid hbud
      have hn1b : n1 ≤ 1000000001 := by omega
      have hl5 := Lib.hid hlen5
      have hbsz := hb4.size
      have hnn : n1 ≤ 9223372036854775807 := by omega
      have hlb2 : b < w2.heap.size := by omega
      have hpA2 := Lib.hid hpA
      obtain ⟨i0, hi, hz0, hz1, hz2⟩ := info75
      clear hown5 ho2 hr2 hg2 ho1 hr1 hg1 hb4 hmayA hGA hn1 hV hN1 hHeld HD hcn hblk hfr hbud hbd hlen5 hpA
      go_wp2_with fail
      go_loopw [4, 6] (fun v i W => ∃ (j : Nat) (L1 : List Nt), i = .int .i64 j ∧ j ≤ n1 ∧ W.ownsRow w2.heap.size 75 3 v L1.length (nc L1) ∧ GL L1 = cutF (goodN V j) (N1 - s) ∧ BL L1 = cutF (badN V j) (N1 - s) ∧ (∀ i, i < L1.length → mayB (gd L1 i).1 (gd L1 i).2.1 (gd L1 i).2.2 ∧ (gd L1 i).1 ≤ N1) ∧ L1.length ≤ j ∧ (L1 = [] → v = .slice none 0 0) ∧ Below w2.heap.size w2 W) (fun _ i _ => n1 - (intOf i).toNat)
      case atStart => exact ⟨0, [], rfl, by omega, ⟨rfl, Or.inl ⟨rfl, rfl⟩⟩, (cut_none _).symm, (cut_none _).symm, fun i hi => by simp at hi, by simp, fun _ => rfl, Below.refl _ _⟩
      case round =>
        obtain ⟨j, L1, rfl, hj, hown, hg, hb, hm1, hl1, hvn, hbel⟩ := hrel
        have hbudr : wr.heap[b]? = some (.cells (mrV t s a L.length cp N1 true) 103 (0, 0)) := by rw [hbel.block b hlb2, HB4.out.block b hlb]; exact HBU.out
        have r1 := cell_of_block hbudr 1
        have r3 := cell_of_block hbudr 3
        have r1' : wr.cell? ⟨b, 1, none⟩ = some (.int .i64 s) := r1
        have r3' : wr.cell? ⟨b, 3, none⟩ = some (.int .i64 N1) := r3
        have HO := Lib.hid hown
        have HG := Lib.hid (And.intro hg (And.intro hb (And.intro hm1 (And.intro hl1 hvn))))
        by_cases hlt : j < n1
        · have i1 : (j : Int) < (n1 : Int) := by omega
          obtain ⟨pp, rfl, hD⟩ := hcA (by omega)
          obtain ⟨e1, e2, e3⟩ := hD j hlt
          have f1 := (hbel.cell (block_lt e1)).trans e1
          have f2 := (hbel.cell (p := ⟨(pp.add (j * 3)).block, (pp.add (j * 3)).off + 1, none⟩) (block_lt e2)).trans e2
          have f3 := (hbel.cell (p := ⟨(pp.add (j * 3)).block, (pp.add (j * 3)).off + 2, none⟩) (block_lt e3)).trans e3
          obtain ⟨hmj, hlej⟩ := HA.out j hlt
          have hG1 : goodN V (j + 1) = addAt (goodN V j) (V j).1 (V j).2.1 := by rw [goodN, if_pos hmj]
          have hB1 : badN V (j + 1) = addAt (badN V j) (V j).1 (V j).2.2 := by rw [badN, if_pos hmj]
          have hr0 := hmj.1
          have hr1 := hmj.2.1
          have HMJ := Lib.hid (And.intro hmj hlej)
          by_cases hin : N1 - s < (V j).1
          · have HN := Lib.hid (show GL (L1 ++ [V j]) = cutF (goodN V (j + 1)) (N1 - s) ∧ BL (L1 ++ [V j]) = cutF (badN V (j + 1)) (N1 - s) by
              obtain ⟨q1, q2⟩ := GL_append (L := L1) (x := V j) hmj
              rw [q1, q2, hG1, hB1, cut_add, cut_add, if_pos hin, if_pos hin, hg, hb]; exact ⟨rfl, rfl⟩)
            clear e1 e2 e3 hD hmj hlej hown hg hb hm1 hl1 hvn hG1 hB1 r1 r3
            go_wp2_with fail
            go_quiet (fail)
            have f1' : (wr.drewN nq).cell? _ = _ := f1
            have f2' : (wr.drewN nq).cell? _ = _ := f2
            have f3' : (wr.drewN nq).cell? _ = _ := f3
            have hbel2 := below_dN (n := nq) hbel
            have HO2 := Lib.hid (show (wr.drewN nq).ownsRow w2.heap.size 75 3 _ L1.length (nc L1) from HO.out)
            have hbs := hbel2.size
            clear f1 f2 f3 r1' r3' hbel hbudr
            generalize wr.drewN nq = wx at *
            go_wp2_with (at_builtin; refine wpList_append_own _ rfl (.tmp 59) (.tmp 64) 101 rfl w2.heap.size 75 i0 (.agg #[.int .i64 0, .int .i64 0, .int .i64 0]) 3 24 Try.underlying101 hi hz0 hz1 hz2 rfl (by decide) _ _ _ rfl (HO2.out.alloc _) ⟨wx.heap.size, 0, none⟩ 1 1 [.int .i64 (V j).1, .int .i64 (V j).2.1, .int .i64 (V j).2.2] rfl rfl ?cc1 ?cc2 ?cc3 ?cc4 ?cc5 ?_)
            case cc1 => intro m u hu; rcases m with _ | _ | _ | m <;> simp at hu <;> subst hu; exact cell_of_block (alloc_at _ _) 0; exact cell_of_block (alloc_at _ _) 1; exact cell_of_block (alloc_at _ _) 2
            case cc2 => intro u hu; simp at hu; rcases hu with rfl | rfl | rfl <;> rfl
            case cc3 => have := HG.out.2.2.2.1; simp only [maxLen]; omega
            case cc4 => have := HG.out.2.2.2.1; omega
            case cc5 => simp; omega
            intro v' w6 hown6 hg6 hnil
            have hbel6 := (hbel2.alloc hbs _).grown hg6 (by simp; omega) (fun q hq => (HO2.out.lt q hq).1)
            have HO6 := Lib.hid (show w6.ownsRow w2.heap.size 75 3 v' (L1 ++ [V j]).length (nc (L1 ++ [V j])) by rw [List.length_append, nc_append]; exact hown6)
            clear hown6 hg6 hnil hbel2 f1' f2' f3'
            go_wp2_with fail
            go_roundw
            case rel =>
              obtain ⟨q1, q2, q3, q4, q5⟩ := HG.out
              refine ⟨j + 1, L1 ++ [V j], by go_num, by omega, HO6.out, HN.out.1, HN.out.2, ?_, by rw [List.length_append, List.length_singleton]; omega, fun e => by simp at e, hbel6⟩
              intro i hi
              rw [List.length_append, List.length_singleton] at hi
              by_cases e : i = L1.length
              · subst e; rw [gd_last]; exact HMJ.out
              · rw [gd_left (by omega)]; exact q3 i (by omega)
            case measure => simp [intOf]; omega
          · have HN := Lib.hid (show GL L1 = cutF (goodN V (j + 1)) (N1 - s) ∧ BL L1 = cutF (badN V (j + 1)) (N1 - s) by
              rw [hG1, hB1, cut_add, cut_add, if_neg hin, if_neg hin]; exact ⟨hg, hb⟩)
            clear e1 e2 e3 hD hmj hlej hown hg hb hm1 hl1 hvn hG1 hB1 r1 r3
            go_wp2_with fail
            go_quiet (fail)
            have hbel2 := below_dN (n := nq) hbel
            have HO2 := Lib.hid (show (wr.drewN nq).ownsRow w2.heap.size 75 3 _ L1.length (nc L1) from HO.out)
            clear f1 f2 f3 r1' r3' hbel hbudr
            generalize wr.drewN nq = wx at *
            go_wp2_with fail
            go_roundw
            case rel =>
              obtain ⟨q1, q2, q3, q4, q5⟩ := HG.out
              exact ⟨j + 1, L1, by go_num, by omega, HO2.out, HN.out.1, HN.out.2, q3, by omega, q5, hbel2⟩
            case measure => simp [intOf]; omega
        · have i1 : ¬ ((j : Int) < (n1 : Int)) := by omega
          have hjn : j = n1 := by omega
          subst hjn
          obtain ⟨a1, c1, hv, hc1, _, hp1⟩ := own_notes hown
          subst hv
          have r2 : wr.cell? ⟨b, 2, none⟩ = some (.slice a L.length cp) := cell_of_block hbudr 2
          have z2 := frozen_of_block hbudr 2
          have hapart : ∀ p, a1 = some p → p.block ≠ b := fun p hp => by have := (hp1 p hp).1; omega
          have hfin : TakeP Bq b t s (max now x) L x y z w (.returned (.tuple #[])) (wr.setCell ⟨b, 2, none⟩ (.slice a1 L1.length c1)) := by
            refine ⟨rfl, (HFR.out.trans (Fr.ofBelow HB4.out)).trans ((Fr.ofBelow hbel).setB 2 _), L1, ⟨a1, c1, ⟨s1, s2, ?_, counts_set hc1 hapart 2 _, hapart, by have := hl5.out; omega, ?_, ?_⟩, (fun e => absurd e (by decide)), (fun e => ?_), (fun p hp => by have q1 := (hp1 p hp).1; have q2 := HFR.out.size; omega)⟩, ?_, ?_, by have := hl5.out; omega⟩
            · rw [heap_setCell_same wr b 2 _ 103 (.slice a1 L1.length c1) hbudr, ← HN1.out]; rfl
            · rw [← HN1.out]; exact hm1
            · rw [← HN1.out]; exact hN2
            · have := hvn e
              simp only [Value.slice.injEq] at this
              exact ⟨this.1, this.2.2⟩
            · rw [hg, HGA.out.1, ← HN1.out]; rfl
            · rw [hb, HGA.out.2, ← HN1.out]; rfl
          have HFIN := Lib.hid hfin
          clear hfin hown hg hb hm1 hl1 hvn hc1 hp1 hapart r1 r3
          go_wp2_with ((with_reducible refine at_op (.store 101 (.tmp 69) (.tmp 67)) rfl ?_); refine wpList_store_cell rfl 101 (.tmp 69) _ rfl ⟨b, 2, none⟩ _ (.slice a1 L1.length c1) rfl rfl (by kernel_rfl) rfl rfl r2 z2 ?_)
          go_end0
          exact HFIN.out
  · clear H0
    by_cases hx : now < x
    · have HMX := Lib.hid (show max now x = x by omega)
      go_quiet (fail)
      have d3 : (wA.drewN nq).cell? ⟨b, 3, none⟩ = some (.int .i64 now) := c3
      have d4 : (wA.drewN nq).cell? ⟨b, 4, none⟩ = _ := c4
      have g0 : (wA.drewN nq).cell? ⟨p, 0, none⟩ = _ := e0'
      have hbud2 : (wA.drewN nq).heap[b]? = _ := hbud
      have hblk2 : (wA.drewN nq).heap[p]? = _ := hblk
      have hcn2 : CountsIn (wA.drewN nq) a L.length (gd L) := hcn.drewN nq
      have hbel2 := below_dN (n := nq) hbel
      clear c0 c1 c2 c3 c4 e0' hbud hblk hcn hbel
      generalize wA.drewN nq = wB at *
      have z3 := frozen_of_block hbud2 3
      have hbud3 := heap_setCell_same wB b 3 _ 103 (.int .i64 x) hbud2
      have k4 : (wB.setCell ⟨b, 3, none⟩ (.int .i64 x)).cell? ⟨b, 4, none⟩ = _ := cell_of_block hbud3 4
      have z4 := frozen_of_block hbud3 4
      have hbud4 : ((wB.setCell ⟨b, 3, none⟩ (.int .i64 x)).setCell ⟨b, 4, none⟩ (.bool true)).heap[b]? = some (.cells (mrV t s a L.length cp (max now x) true) 103 (0, 0)) := by rw [heap_setCell_same _ b 4 _ 103 (.bool true) hbud3, HMX.out]; rfl
      have hoth : ∀ k, k ≠ b → ((wB.setCell ⟨b, 3, none⟩ (.int .i64 x)).setCell ⟨b, 4, none⟩ (.bool true)).heap[k]? = wB.heap[k]? := fun k hk => (Below.heap_setCell _ ⟨b, 4, none⟩ _ k hk).trans (Below.heap_setCell _ ⟨b, 3, none⟩ _ k hk)
      have hfr : Fr b b w ((wB.setCell ⟨b, 3, none⟩ (.int .i64 x)).setCell ⟨b, 4, none⟩ (.bool true)) := ((Fr.ofBelow (b := b) (g := b) hbel2).setB 3 _).setB 4 _
      have hblk4 : ((wB.setCell ⟨b, 3, none⟩ (.int .i64 x)).setCell ⟨b, 4, none⟩ (.bool true)).heap[p]? = _ := (hoth p hpb).trans hblk2
      have hcn4 : CountsIn ((wB.setCell ⟨b, 3, none⟩ (.int .i64 x)).setCell ⟨b, 4, none⟩ (.bool true)) a L.length (gd L) := fun q => by
        obtain ⟨pp, hpp, hq⟩ := hcn2 q
        refine ⟨pp, hpp, fun i hi => ?_⟩
        obtain ⟨q1, q2, q3⟩ := hq i hi
        have hne : ∀ i, (pp.add i).block ≠ b := fun i => by rw [show (pp.add i).block = pp.block by unfold Addr.add; split <;> rfl]; exact hap pp hpp
        have hh := hoth (pp.add (i * 3)).block (hne _)
        exact ⟨(World.cell?_of_block (w := wB) (a := pp.add (i * 3)) hh).trans q1, (World.cell?_of_block (w := wB) (a := ⟨(pp.add (i * 3)).block, (pp.add (i * 3)).off + 1, none⟩) hh).trans q2, (World.cell?_of_block (w := wB) (a := ⟨(pp.add (i * 3)).block, (pp.add (i * 3)).off + 2, none⟩) hh).trans q3⟩
      obtain ⟨w4, hw4⟩ : ∃ w4, w4 = ((wB.setCell ⟨b, 3, none⟩ (.int .i64 x)).setCell ⟨b, 4, none⟩ (.bool true)) := ⟨_, rfl⟩
      rw [← hw4] at hbud4 hblk4 hcn4 hfr
      have HW4 := Lib.hid hw4
      have HC := Lib.hid (And.intro hbud4 (And.intro hblk4 (And.intro hcn4 hfr)))
      clear hw4 hbud4 hblk4 hcn4 hfr hoth hbud2 hblk2 hcn2 hbel2 hbud3
      go_wp2_with (first | ((with_reducible refine at_op (.store 2 (.tmp 25) (.tmp 23)) rfl ?_); refine wpList_store_cell rfl 2 (.tmp 25) _ rfl ⟨b, 3, none⟩ _ (.int .i64 x) rfl rfl (by kernel_rfl) rfl rfl d3 z3 ?_) | ((with_reducible refine at_op (.store 4 (.tmp 28) (.const (.bool true))) rfl ?_); refine wpList_store_cell rfl 4 (.tmp 28) _ rfl ⟨b, 4, none⟩ _ (.bool true) rfl rfl (by kernel_rfl) rfl rfl k4 z4 ?_))
      rw [← HW4.out]
      clear HW4 d3 d4 g0 k4 z3 z4
      obtain ⟨hbud, hblk, hcn, hfr⟩ := HC.out
      clear HC
      have hbd : Below w4.heap.size w4 w4.drew := (Below.refl _ _).drew
      have hlb : b < w4.heap.size := (Array.getElem?_eq_some_iff.1 hbud).1
      have hlp : p < w4.heap.size := (Array.getElem?_eq_some_iff.1 hblk).1
      have HD := Lib.hid (show ∀ w', Below w4.heap.size w4 w' → w'.cell? ⟨b, 2, none⟩ = some (.slice a L.length cp) ∧ w'.cell? ⟨p, 0, none⟩ = some (.int .i64 x) ∧ w'.cell? ⟨p, 1, none⟩ = some (.int .i64 y) ∧ w'.cell? ⟨p, 2, none⟩ = some (.int .i64 z) from
        fun w' hb => ⟨(hb.cell (p := ⟨b, 2, none⟩) hlb).trans (cell_of_block hbud 2), (hb.cell (p := ⟨p, 0, none⟩) hlp).trans (cell_of_block hblk 0), (hb.cell (p := ⟨p, 1, none⟩) hlp).trans (cell_of_block hblk 1), (hb.cell (p := ⟨p, 2, none⟩) hlp).trans (cell_of_block hblk 2)⟩)
      have hlen : L.length ≤ 1000000000 := by omega
      go_wp2_with fail
      refine wp_region_held_drew (S := fun w' => Below w4.heap.size w4 w' ∧ w'.cell? ⟨b, 2, none⟩ = some (.slice a L.length cp) ∧ w'.cell? ⟨p, 0, none⟩ = some (.int .i64 x) ∧ w'.cell? ⟨p, 1, none⟩ = some (.int .i64 y) ∧ w'.cell? ⟨p, 2, none⟩ = some (.int .i64 z)) (by kernel_rfl) ⟨hbd, HD.out _ hbd⟩ (fun hHeld => ?_)
      refine take_at (i := 1) (d := some 30) (v := ?_) rfl rfl (by kernel_rfl) (by kernel_rfl) (by kernel_rfl) (fun _ _ _ h => h) (Or.inl ⟨by rfl, fun w hSw => ?_⟩) hHeld ?_
      rotate_left
      · (try dsimp only at hSw); go_simp; try with_reducible rfl
      try simp only [Act.put, List.setIfInBounds_toArray, List.set_cons_zero, List.set_cons_succ]
      refine take_at (i := 2) (d := some 31) (v := ?_) rfl rfl (by kernel_rfl) (by kernel_rfl) (by kernel_rfl) (fun _ _ _ h => h) (Or.inl ⟨by rfl, fun w hSw => ?_⟩) hHeld ?_
      rotate_left
      · (try dsimp only at hSw); go_simp; try with_reducible rfl
      try simp only [Act.put, List.setIfInBounds_toArray, List.set_cons_zero, List.set_cons_succ]
      refine take_at (i := 3) (d := some 32) (v := ?_) rfl rfl (by kernel_rfl) (by kernel_rfl) (by kernel_rfl) (fun _ _ _ h => h) (Or.inl ⟨by rfl, fun w hSw => ?_⟩) hHeld ?_
      rotate_left
      · (try dsimp only at hSw); go_simp; try with_reducible rfl
      try simp only [Act.put, List.setIfInBounds_toArray, List.set_cons_zero, List.set_cons_succ]
      refine take_at (i := 4) (d := some 33) (v := ?_) rfl rfl (by kernel_rfl) (by kernel_rfl) (by kernel_rfl) (fun _ _ _ h => h) (Or.inl ⟨by rfl, fun w hSw => ?_⟩) hHeld ?_
      rotate_left
      · (try dsimp only at hSw); go_simp; try with_reducible rfl
      try simp only [Act.put, List.setIfInBounds_toArray, List.set_cons_zero, List.set_cons_succ]
      refine take_at (i := 6) (d := some 35) (v := ?_) rfl rfl (by kernel_rfl) (by kernel_rfl) (by kernel_rfl) (fun _ _ _ h => h) (Or.inl ⟨by rfl, fun w hSw => ?_⟩) hHeld ?_
      rotate_left
      · (try dsimp only at hSw); go_simp; try with_reducible rfl
      try simp only [Act.put, List.setIfInBounds_toArray, List.set_cons_zero, List.set_cons_succ]
      refine wpAnyH_ready (rs := [0, 7]) (by kernel_rfl) (by simp) ?_
      refine ready_cons (d := some 29) rfl rfl (by rfl) (fun K hK => ?_) ?_
      · have hb1 : Below w4.heap.size w4 (w4.alloc (.cells #[] 75)).drew := ((Below.refl w4.heap.size w4).alloc (Nat.le_refl _) (.cells #[] 75)).drew
        go_simp
        refine hK.out _ _ ⟨hb1, HD.out _ hb1⟩ (fun hHeld2 => ?_)
        clear hK K hHeld
        have hHeld := hHeld2
        clear hHeld2
        try simp only [Act.put, List.setIfInBounds_toArray, List.set_cons_zero, List.set_cons_succ]
        have hown0 : ((w4.alloc (.cells #[] 75)).drew).ownsRow w4.heap.size 75 3 (.slice (some ⟨w4.heap.size, 0, none⟩) 0 0) 0 [] := ownsRow_drew (World.ownsRow_made w4 #[] 0 (Nat.le_refl _) (Nat.zero_le _) rfl)
        refine wpAnyH_ready (rs := [5, 7]) (by kernel_rfl) (by simp) ?_
        refine ready_cons (d := some 34) rfl rfl (by rfl) (fun K hK => ?_) ?_
        · obtain ⟨v1, w1, hr1, ho1, hg1⟩ := app_all hown0 hb1.size (hcn.belowS hb1) HZ.out hlen
          have hb2 := hb1.grown hg1 hb1.size (fun k hk => (hown0.lt k hk).1)
          refine wp_append_run (.tmp 29) (.tmp 33) 101 rfl _ _ v1 w1 rfl rfl (hr1 _) ?_
          refine hK.out _ _ ⟨hb2, HD.out _ hb2⟩ (fun hHeld2 => ?_)
          clear hK K hHeld
          have hHeld := hHeld2
          clear hHeld2
          try simp only [Act.put, List.setIfInBounds_toArray, List.set_cons_zero, List.set_cons_succ]
          refine wpAnyH_ready (rs := [7]) (by kernel_rfl) (by simp) ?_
          refine ready_cons (d := some 36) rfl rfl (by rfl) (fun K hK => ?_) AllReadyH.nil
          have hb3 : Below w4.heap.size w4 (w1.alloc (.cells #[.int .i64 x, .int .i64 y, .int .i64 z] 75)) := hb2.alloc hb2.size _
          go_simp
          refine hK.out _ _ ⟨hb3, HD.out _ hb3⟩ (fun hHeld2 => ?_)
          clear hK K hHeld
          have hHeld := hHeld2
          clear hHeld2
          try simp only [Act.put, List.setIfInBounds_toArray, List.set_cons_zero, List.set_cons_succ]
          refine wpAnyH_ready (rs := [8]) (by kernel_rfl) (by simp) ?_
          refine ready_cons (d := some 37) rfl rfl (by rfl) (fun K hK => ?_) AllReadyH.nil
          obtain ⟨v2, w2, hr2, ho2, hg2⟩ := app_one (ho1.alloc (.cells #[.int .i64 x, .int .i64 y, .int .i64 z] 75)) hb3.size (cell_of_block (alloc_at _ _) 0) (cell_of_block (alloc_at _ _) 1) (cell_of_block (alloc_at _ _) 2) hlen
          have hb4 := hb3.grown hg2 hb3.size (fun k hk => (ho1.lt k hk).1)
          refine wp_append_run (.tmp 34) (.tmp 36) 101 rfl _ _ v2 w2 rfl rfl (hr2 _) ?_
          refine hK.out _ _ ⟨hb4, HD.out _ hb4⟩ (fun hHeld2 => ?_)
          clear hK K hHeld
          have hHeld := hHeld2
          clear hHeld2
          try simp only [Act.put, List.setIfInBounds_toArray, List.set_cons_zero, List.set_cons_succ]
          refine take_at (i := 9) (d := some 5) (v := ?_) rfl rfl (by kernel_rfl) (by kernel_rfl) (by kernel_rfl) (fun _ _ _ h => h) (Or.inl ⟨by rfl, fun w hSw => ?_⟩) hHeld ?_
          rotate_left
          · (try dsimp only at hSw); go_simp; try with_reducible rfl
          try simp only [Act.put, List.setIfInBounds_toArray, List.set_cons_zero, List.set_cons_succ]
          refine wpAnyH_done (by kernel_rfl) ?_ _
          have hown5 : w2.ownsRow w4.heap.size 75 3 v2 (L ++ [(x, y, z)]).length (nc (L ++ [(x, y, z)])) := by rw [List.length_append, nc_append]; exact ho2
          have HB4 := Lib.hid hb4
          have hlen5 : (L ++ [(x, y, z)]).length = L.length + 1 := by rw [List.length_append]; rfl
          obtain ⟨aA, cA, hv2, hcA, _, hpA⟩ := own_notes hown5
          subst hv2
          have hmayA : ∀ i, i < (L ++ [(x, y, z)]).length → mayB (gd (L ++ [(x, y, z)]) i).1 (gd (L ++ [(x, y, z)]) i).2.1 (gd (L ++ [(x, y, z)]) i).2.2 ∧ (gd (L ++ [(x, y, z)]) i).1 ≤ max now x := by
            intro i hi
            rw [hlen5] at hi
            by_cases e : i = L.length
            · subst e; rw [gd_last]; exact ⟨⟨m1, m2, m3, m4, m5, m6⟩, by show x ≤ _; omega⟩
            · rw [gd_left (by omega)]
              have := hmay i (by omega)
              exact ⟨this.1, by omega⟩
          have hGA := GL_append (L := L) (x := (x, y, z)) ⟨m1, m2, m3, m4, m5, m6⟩
          unfold GL BL at hGA
          obtain ⟨n1, hn1⟩ : ∃ n1, n1 = (L ++ [(x, y, z)]).length := ⟨_, rfl⟩
          obtain ⟨V, hV⟩ : ∃ V, V = gd (L ++ [(x, y, z)]) := ⟨_, rfl⟩
          obtain ⟨N1, hN1⟩ : ∃ N1, N1 = max now x := ⟨_, rfl⟩
          rw [← hn1] at hcA hmayA hlen5 hGA ⊢
          rw [← hV] at hcA hmayA hGA
          rw [← hN1] at hmayA hbud
          have hN2 : 0 ≤ N1 ∧ N1 ≤ 4611686018427387904 := by omega
          have HA := Lib.hid hmayA
          have HGA := Lib.hid hGA
          have HN1 := Lib.hid hN1
          have HFR := Lib.hid hfr
          have HBU := Lib.hid hbud
          have hn1b : n1 ≤ 1000000001 := by omega
          have hl5 := Lib.hid hlen5
          have hbsz := hb4.size
          have hnn : n1 ≤ 9223372036854775807 := by omega
          have hlb2 : b < w2.heap.size := by omega
          have hpA2 := Lib.hid hpA
          obtain ⟨i0, hi, hz0, hz1, hz2⟩ := info75
          clear hown5 ho2 hr2 hg2 ho1 hr1 hg1 hb4 hmayA hGA hn1 hV hN1 hHeld HD hcn hblk hfr hbud hbd hlen5 hpA
          go_wp2_with fail
          go_loopw [4, 6] (fun v i W => ∃ (j : Nat) (L1 : List Nt), i = .int .i64 j ∧ j ≤ n1 ∧ W.ownsRow w2.heap.size 75 3 v L1.length (nc L1) ∧ GL L1 = cutF (goodN V j) (N1 - s) ∧ BL L1 = cutF (badN V j) (N1 - s) ∧ (∀ i, i < L1.length → mayB (gd L1 i).1 (gd L1 i).2.1 (gd L1 i).2.2 ∧ (gd L1 i).1 ≤ N1) ∧ L1.length ≤ j ∧ (L1 = [] → v = .slice none 0 0) ∧ Below w2.heap.size w2 W) (fun _ i _ => n1 - (intOf i).toNat)
          case atStart => exact ⟨0, [], rfl, by omega, ⟨rfl, Or.inl ⟨rfl, rfl⟩⟩, (cut_none _).symm, (cut_none _).symm, fun i hi => by simp at hi, by simp, fun _ => rfl, Below.refl _ _⟩
          case round =>
            obtain ⟨j, L1, rfl, hj, hown, hg, hb, hm1, hl1, hvn, hbel⟩ := hrel
            have hbudr : wr.heap[b]? = some (.cells (mrV t s a L.length cp N1 true) 103 (0, 0)) := by rw [hbel.block b hlb2, HB4.out.block b hlb]; exact HBU.out
            have r1 := cell_of_block hbudr 1
            have r3 := cell_of_block hbudr 3
            have r1' : wr.cell? ⟨b, 1, none⟩ = some (.int .i64 s) := r1
            have r3' : wr.cell? ⟨b, 3, none⟩ = some (.int .i64 N1) := r3
            have HO := Lib.hid hown
            have HG := Lib.hid (And.intro hg (And.intro hb (And.intro hm1 (And.intro hl1 hvn))))
            by_cases hlt : j < n1
            · have i1 : (j : Int) < (n1 : Int) := by omega
              obtain ⟨pp, rfl, hD⟩ := hcA (by omega)
              obtain ⟨e1, e2, e3⟩ := hD j hlt
              have f1 := (hbel.cell (block_lt e1)).trans e1
              have f2 := (hbel.cell (p := ⟨(pp.add (j * 3)).block, (pp.add (j * 3)).off + 1, none⟩) (block_lt e2)).trans e2
              have f3 := (hbel.cell (p := ⟨(pp.add (j * 3)).block, (pp.add (j * 3)).off + 2, none⟩) (block_lt e3)).trans e3
              obtain ⟨hmj, hlej⟩ := HA.out j hlt
              have hG1 : goodN V (j + 1) = addAt (goodN V j) (V j).1 (V j).2.1 := by rw [goodN, if_pos hmj]
              have hB1 : badN V (j + 1) = addAt (badN V j) (V j).1 (V j).2.2 := by rw [badN, if_pos hmj]
              have hr0 := hmj.1
              have hr1 := hmj.2.1
              have HMJ := Lib.hid (And.intro hmj hlej)
              by_cases hin : N1 - s < (V j).1
              · have HN := Lib.hid (show GL (L1 ++ [V j]) = cutF (goodN V (j + 1)) (N1 - s) ∧ BL (L1 ++ [V j]) = cutF (badN V (j + 1)) (N1 - s) by
                  obtain ⟨q1, q2⟩ := GL_append (L := L1) (x := V j) hmj
                  rw [q1, q2, hG1, hB1, cut_add, cut_add, if_pos hin, if_pos hin, hg, hb]; exact ⟨rfl, rfl⟩)
                clear e1 e2 e3 hD hmj hlej hown hg hb hm1 hl1 hvn hG1 hB1 r1 r3
                go_wp2_with fail
                go_quiet (fail)
                have f1' : (wr.drewN nq).cell? _ = _ := f1
                have f2' : (wr.drewN nq).cell? _ = _ := f2
                have f3' : (wr.drewN nq).cell? _ = _ := f3
                have hbel2 := below_dN (n := nq) hbel
                have HO2 := Lib.hid (show (wr.drewN nq).ownsRow w2.heap.size 75 3 _ L1.length (nc L1) from HO.out)
                have hbs := hbel2.size
                clear f1 f2 f3 r1' r3' hbel hbudr
                generalize wr.drewN nq = wx at *
                go_wp2_with (at_builtin; refine wpList_append_own _ rfl (.tmp 59) (.tmp 64) 101 rfl w2.heap.size 75 i0 (.agg #[.int .i64 0, .int .i64 0, .int .i64 0]) 3 24 Try.underlying101 hi hz0 hz1 hz2 rfl (by decide) _ _ _ rfl (HO2.out.alloc _) ⟨wx.heap.size, 0, none⟩ 1 1 [.int .i64 (V j).1, .int .i64 (V j).2.1, .int .i64 (V j).2.2] rfl rfl ?cc1 ?cc2 ?cc3 ?cc4 ?cc5 ?_)
                case cc1 => intro m u hu; rcases m with _ | _ | _ | m <;> simp at hu <;> subst hu; exact cell_of_block (alloc_at _ _) 0; exact cell_of_block (alloc_at _ _) 1; exact cell_of_block (alloc_at _ _) 2
                case cc2 => intro u hu; simp at hu; rcases hu with rfl | rfl | rfl <;> rfl
                case cc3 => have := HG.out.2.2.2.1; simp only [maxLen]; omega
                case cc4 => have := HG.out.2.2.2.1; omega
                case cc5 => simp; omega
                intro v' w6 hown6 hg6 hnil
                have hbel6 := (hbel2.alloc hbs _).grown hg6 (by simp; omega) (fun q hq => (HO2.out.lt q hq).1)
                have HO6 := Lib.hid (show w6.ownsRow w2.heap.size 75 3 v' (L1 ++ [V j]).length (nc (L1 ++ [V j])) by rw [List.length_append, nc_append]; exact hown6)
                clear hown6 hg6 hnil hbel2 f1' f2' f3'
                go_wp2_with fail
                go_roundw
                case rel =>
                  obtain ⟨q1, q2, q3, q4, q5⟩ := HG.out
                  refine ⟨j + 1, L1 ++ [V j], by go_num, by omega, HO6.out, HN.out.1, HN.out.2, ?_, by rw [List.length_append, List.length_singleton]; omega, fun e => by simp at e, hbel6⟩
                  intro i hi
                  rw [List.length_append, List.length_singleton] at hi
                  by_cases e : i = L1.length
                  · subst e; rw [gd_last]; exact HMJ.out
                  · rw [gd_left (by omega)]; exact q3 i (by omega)
                case measure => simp [intOf]; omega
              · have HN := Lib.hid (show GL L1 = cutF (goodN V (j + 1)) (N1 - s) ∧ BL L1 = cutF (badN V (j + 1)) (N1 - s) by
                  rw [hG1, hB1, cut_add, cut_add, if_neg hin, if_neg hin]; exact ⟨hg, hb⟩)
                clear e1 e2 e3 hD hmj hlej hown hg hb hm1 hl1 hvn hG1 hB1 r1 r3
                go_wp2_with fail
                go_quiet (fail)
                have hbel2 := below_dN (n := nq) hbel
                have HO2 := Lib.hid (show (wr.drewN nq).ownsRow w2.heap.size 75 3 _ L1.length (nc L1) from HO.out)
                clear f1 f2 f3 r1' r3' hbel hbudr
                generalize wr.drewN nq = wx at *
                go_wp2_with fail
                go_roundw
                case rel =>
                  obtain ⟨q1, q2, q3, q4, q5⟩ := HG.out
                  exact ⟨j + 1, L1, by go_num, by omega, HO2.out, HN.out.1, HN.out.2, q3, by omega, q5, hbel2⟩
                case measure => simp [intOf]; omega
            · have i1 : ¬ ((j : Int) < (n1 : Int)) := by omega
              have hjn : j = n1 := by omega
              subst hjn
              obtain ⟨a1, c1, hv, hc1, _, hp1⟩ := own_notes hown
              subst hv
              have r2 : wr.cell? ⟨b, 2, none⟩ = some (.slice a L.length cp) := cell_of_block hbudr 2
              have z2 := frozen_of_block hbudr 2
              have hapart : ∀ p, a1 = some p → p.block ≠ b := fun p hp => by have := (hp1 p hp).1; omega
              have hfin : TakeP Bq b t s (max now x) L x y z w (.returned (.tuple #[])) (wr.setCell ⟨b, 2, none⟩ (.slice a1 L1.length c1)) := by
                refine ⟨rfl, (HFR.out.trans (Fr.ofBelow HB4.out)).trans ((Fr.ofBelow hbel).setB 2 _), L1, ⟨a1, c1, ⟨s1, s2, ?_, counts_set hc1 hapart 2 _, hapart, by have := hl5.out; omega, ?_, ?_⟩, (fun e => absurd e (by decide)), (fun e => ?_), (fun p hp => by have q1 := (hp1 p hp).1; have q2 := HFR.out.size; omega)⟩, ?_, ?_, by have := hl5.out; omega⟩
                · rw [heap_setCell_same wr b 2 _ 103 (.slice a1 L1.length c1) hbudr, ← HN1.out]; rfl
                · rw [← HN1.out]; exact hm1
                · rw [← HN1.out]; exact hN2
                · have := hvn e
                  simp only [Value.slice.injEq] at this
                  exact ⟨this.1, this.2.2⟩
                · rw [hg, HGA.out.1, ← HN1.out]; rfl
                · rw [hb, HGA.out.2, ← HN1.out]; rfl
              have HFIN := Lib.hid hfin
              clear hfin hown hg hb hm1 hl1 hvn hc1 hp1 hapart r1 r3
              go_wp2_with ((with_reducible refine at_op (.store 101 (.tmp 69) (.tmp 67)) rfl ?_); refine wpList_store_cell rfl 101 (.tmp 69) _ rfl ⟨b, 2, none⟩ _ (.slice a1 L1.length c1) rfl rfl (by kernel_rfl) rfl rfl r2 z2 ?_)
              go_end0
              exact HFIN.out
        refine ready_cons (d := some 36) rfl rfl (by rfl) (fun K hK => ?_) AllReadyH.nil
        · have hb2 : Below w4.heap.size w4 ((w4.alloc (.cells #[] 75)).alloc (.cells #[.int .i64 x, .int .i64 y, .int .i64 z] 75)).drew := (((Below.refl w4.heap.size w4).alloc (Nat.le_refl _) (.cells #[] 75)).alloc (by rw [World.size_alloc]; exact Nat.le_succ _) (.cells #[.int .i64 x, .int .i64 y, .int .i64 z] 75)).drew
          go_simp
          refine hK.out _ _ ⟨hb2, HD.out _ hb2⟩ (fun hHeld2 => ?_)
          clear hK K hHeld
          have hHeld := hHeld2
          clear hHeld2
          try simp only [Act.put, List.setIfInBounds_toArray, List.set_cons_zero, List.set_cons_succ]
          refine wpAnyH_ready (rs := [5]) (by kernel_rfl) (by simp) ?_
          refine ready_cons (d := some 34) rfl rfl (by rfl) (fun K hK => ?_) AllReadyH.nil
          have hown1 : (((w4.alloc (.cells #[] 75)).alloc (.cells #[.int .i64 x, .int .i64 y, .int .i64 z] 75)).drew).ownsRow w4.heap.size 75 3 (.slice (some ⟨w4.heap.size, 0, none⟩) 0 0) 0 [] := ownsRow_drew ((World.ownsRow_made w4 #[] 0 (Nat.le_refl _) (Nat.zero_le _) rfl).alloc _)
          have hxb : (((w4.alloc (.cells #[] 75)).alloc (.cells #[.int .i64 x, .int .i64 y, .int .i64 z] 75)).drew).heap[w4.heap.size + 1]? = some (.cells #[.int .i64 x, .int .i64 y, .int .i64 z] 75 (0, 0)) := alloc_at' (w4.alloc (.cells #[] 75)) _ _ (World.size_alloc _ _).symm
          obtain ⟨v1, w1, hr1, ho1, hg1⟩ := app_all hown1 hb2.size (hcn.belowS hb2) HZ.out hlen
          have hb3 := hb2.grown hg1 hb2.size (fun k hk => (hown1.lt k hk).1)
          refine wp_append_run (.tmp 29) (.tmp 33) 101 rfl _ _ v1 w1 rfl rfl (hr1 _) ?_
          refine hK.out _ _ ⟨hb3, HD.out _ hb3⟩ (fun hHeld2 => ?_)
          clear hK K hHeld
          have hHeld := hHeld2
          clear hHeld2
          try simp only [Act.put, List.setIfInBounds_toArray, List.set_cons_zero, List.set_cons_succ]
          have hxne : some (w4.heap.size + 1) ≠ (Value.slice (some ⟨w4.heap.size, 0, none⟩) 0 0).ownBlock := by simp [Value.ownBlock]
          refine wpAnyH_ready (rs := [8]) (by kernel_rfl) (by simp) ?_
          refine ready_cons (d := some 37) rfl rfl (by rfl) (fun K hK => ?_) AllReadyH.nil
          obtain ⟨v2, w2, hr2, ho2, hg2⟩ := app_one ho1 hb3.size (grownBy_cell hg1 (cell_of_block hxb 0) hxne) (grownBy_cell hg1 (cell_of_block hxb 1) hxne) (grownBy_cell hg1 (cell_of_block hxb 2) hxne) hlen
          have hb4 := hb3.grown hg2 hb3.size (fun k hk => (ho1.lt k hk).1)
          refine wp_append_run (.tmp 34) (.tmp 36) 101 rfl _ _ v2 w2 rfl rfl (hr2 _) ?_
          refine hK.out _ _ ⟨hb4, HD.out _ hb4⟩ (fun hHeld2 => ?_)
          clear hK K hHeld
          have hHeld := hHeld2
          clear hHeld2
          try simp only [Act.put, List.setIfInBounds_toArray, List.set_cons_zero, List.set_cons_succ]
          refine take_at (i := 9) (d := some 5) (v := ?_) rfl rfl (by kernel_rfl) (by kernel_rfl) (by kernel_rfl) (fun _ _ _ h => h) (Or.inl ⟨by rfl, fun w hSw => ?_⟩) hHeld ?_
          rotate_left
          · (try dsimp only at hSw); go_simp; try with_reducible rfl
          try simp only [Act.put, List.setIfInBounds_toArray, List.set_cons_zero, List.set_cons_succ]
          refine wpAnyH_done (by kernel_rfl) ?_ _
          have hown5 : w2.ownsRow w4.heap.size 75 3 v2 (L ++ [(x, y, z)]).length (nc (L ++ [(x, y, z)])) := by rw [List.length_append, nc_append]; exact ho2
          have HB4 := Lib.hid hb4
          have hlen5 : (L ++ [(x, y, z)]).length = L.length + 1 := by rw [List.length_append]; rfl
          obtain ⟨aA, cA, hv2, hcA, _, hpA⟩ := own_notes hown5
          subst hv2
          have hmayA : ∀ i, i < (L ++ [(x, y, z)]).length → mayB (gd (L ++ [(x, y, z)]) i).1 (gd (L ++ [(x, y, z)]) i).2.1 (gd (L ++ [(x, y, z)]) i).2.2 ∧ (gd (L ++ [(x, y, z)]) i).1 ≤ max now x := by
            intro i hi
            rw [hlen5] at hi
            by_cases e : i = L.length
            · subst e; rw [gd_last]; exact ⟨⟨m1, m2, m3, m4, m5, m6⟩, by show x ≤ _; omega⟩
            · rw [gd_left (by omega)]
              have := hmay i (by omega)
              exact ⟨this.1, by omega⟩
          have hGA := GL_append (L := L) (x := (x, y, z)) ⟨m1, m2, m3, m4, m5, m6⟩
          unfold GL BL at hGA
          obtain ⟨n1, hn1⟩ : ∃ n1, n1 = (L ++ [(x, y, z)]).length := ⟨_, rfl⟩
          obtain ⟨V, hV⟩ : ∃ V, V = gd (L ++ [(x, y, z)]) := ⟨_, rfl⟩
          obtain ⟨N1, hN1⟩ : ∃ N1, N1 = max now x := ⟨_, rfl⟩
          rw [← hn1] at hcA hmayA hlen5 hGA ⊢
          rw [← hV] at hcA hmayA hGA
          rw [← hN1] at hmayA hbud
          have hN2 : 0 ≤ N1 ∧ N1 ≤ 4611686018427387904 := by omega
          have HA := Lib.hid hmayA
          have HGA := Lib.hid hGA
          have HN1 := Lib.hid hN1
          have HFR := Lib.hid hfr
          have HBU := Lib.hid hbud
          have hn1b : n1 ≤ 1000000001 := by omega
          have hl5 := Lib.hid hlen5
          have hbsz := hb4.size
          have hnn : n1 ≤ 9223372036854775807 := by omega
          have hlb2 : b < w2.heap.size := by omega
          have hpA2 := Lib.hid hpA
          obtain ⟨i0, hi, hz0, hz1, hz2⟩ := info75
          clear hown5 ho2 hr2 hg2 ho1 hr1 hg1 hb4 hmayA hGA hn1 hV hN1 hHeld HD hcn hblk hfr hbud hbd hlen5 hpA
          go_wp2_with fail
          go_loopw [4, 6] (fun v i W => ∃ (j : Nat) (L1 : List Nt), i = .int .i64 j ∧ j ≤ n1 ∧ W.ownsRow w2.heap.size 75 3 v L1.length (nc L1) ∧ GL L1 = cutF (goodN V j) (N1 - s) ∧ BL L1 = cutF (badN V j) (N1 - s) ∧ (∀ i, i < L1.length → mayB (gd L1 i).1 (gd L1 i).2.1 (gd L1 i).2.2 ∧ (gd L1 i).1 ≤ N1) ∧ L1.length ≤ j ∧ (L1 = [] → v = .slice none 0 0) ∧ Below w2.heap.size w2 W) (fun _ i _ => n1 - (intOf i).toNat)
          case atStart => exact ⟨0, [], rfl, by omega, ⟨rfl, Or.inl ⟨rfl, rfl⟩⟩, (cut_none _).symm, (cut_none _).symm, fun i hi => by simp at hi, by simp, fun _ => rfl, Below.refl _ _⟩
          case round =>
            obtain ⟨j, L1, rfl, hj, hown, hg, hb, hm1, hl1, hvn, hbel⟩ := hrel
            have hbudr : wr.heap[b]? = some (.cells (mrV t s a L.length cp N1 true) 103 (0, 0)) := by rw [hbel.block b hlb2, HB4.out.block b hlb]; exact HBU.out
            have r1 := cell_of_block hbudr 1
            have r3 := cell_of_block hbudr 3
            have r1' : wr.cell? ⟨b, 1, none⟩ = some (.int .i64 s) := r1
            have r3' : wr.cell? ⟨b, 3, none⟩ = some (.int .i64 N1) := r3
            have HO := Lib.hid hown
            have HG := Lib.hid (And.intro hg (And.intro hb (And.intro hm1 (And.intro hl1 hvn))))
            by_cases hlt : j < n1
            · have i1 : (j : Int) < (n1 : Int) := by omega
              obtain ⟨pp, rfl, hD⟩ := hcA (by omega)
              obtain ⟨e1, e2, e3⟩ := hD j hlt
              have f1 := (hbel.cell (block_lt e1)).trans e1
              have f2 := (hbel.cell (p := ⟨(pp.add (j * 3)).block, (pp.add (j * 3)).off + 1, none⟩) (block_lt e2)).trans e2
              have f3 := (hbel.cell (p := ⟨(pp.add (j * 3)).block, (pp.add (j * 3)).off + 2, none⟩) (block_lt e3)).trans e3
              obtain ⟨hmj, hlej⟩ := HA.out j hlt
              have hG1 : goodN V (j + 1) = addAt (goodN V j) (V j).1 (V j).2.1 := by rw [goodN, if_pos hmj]
              have hB1 : badN V (j + 1) = addAt (badN V j) (V j).1 (V j).2.2 := by rw [badN, if_pos hmj]
              have hr0 := hmj.1
              have hr1 := hmj.2.1
              have HMJ := Lib.hid (And.intro hmj hlej)
              by_cases hin : N1 - s < (V j).1
              · have HN := Lib.hid (show GL (L1 ++ [V j]) = cutF (goodN V (j + 1)) (N1 - s) ∧ BL (L1 ++ [V j]) = cutF (badN V (j + 1)) (N1 - s) by
                  obtain ⟨q1, q2⟩ := GL_append (L := L1) (x := V j) hmj
                  rw [q1, q2, hG1, hB1, cut_add, cut_add, if_pos hin, if_pos hin, hg, hb]; exact ⟨rfl, rfl⟩)
                clear e1 e2 e3 hD hmj hlej hown hg hb hm1 hl1 hvn hG1 hB1 r1 r3
                go_wp2_with fail
                go_quiet (fail)
                have f1' : (wr.drewN nq).cell? _ = _ := f1
                have f2' : (wr.drewN nq).cell? _ = _ := f2
                have f3' : (wr.drewN nq).cell? _ = _ := f3
                have hbel2 := below_dN (n := nq) hbel
                have HO2 := Lib.hid (show (wr.drewN nq).ownsRow w2.heap.size 75 3 _ L1.length (nc L1) from HO.out)
                have hbs := hbel2.size
                clear f1 f2 f3 r1' r3' hbel hbudr
                generalize wr.drewN nq = wx at *
                go_wp2_with (at_builtin; refine wpList_append_own _ rfl (.tmp 59) (.tmp 64) 101 rfl w2.heap.size 75 i0 (.agg #[.int .i64 0, .int .i64 0, .int .i64 0]) 3 24 Try.underlying101 hi hz0 hz1 hz2 rfl (by decide) _ _ _ rfl (HO2.out.alloc _) ⟨wx.heap.size, 0, none⟩ 1 1 [.int .i64 (V j).1, .int .i64 (V j).2.1, .int .i64 (V j).2.2] rfl rfl ?cc1 ?cc2 ?cc3 ?cc4 ?cc5 ?_)
                case cc1 => intro m u hu; rcases m with _ | _ | _ | m <;> simp at hu <;> subst hu; exact cell_of_block (alloc_at _ _) 0; exact cell_of_block (alloc_at _ _) 1; exact cell_of_block (alloc_at _ _) 2
                case cc2 => intro u hu; simp at hu; rcases hu with rfl | rfl | rfl <;> rfl
                case cc3 => have := HG.out.2.2.2.1; simp only [maxLen]; omega
                case cc4 => have := HG.out.2.2.2.1; omega
                case cc5 => simp; omega
                intro v' w6 hown6 hg6 hnil
                have hbel6 := (hbel2.alloc hbs _).grown hg6 (by simp; omega) (fun q hq => (HO2.out.lt q hq).1)
                have HO6 := Lib.hid (show w6.ownsRow w2.heap.size 75 3 v' (L1 ++ [V j]).length (nc (L1 ++ [V j])) by rw [List.length_append, nc_append]; exact hown6)
                clear hown6 hg6 hnil hbel2 f1' f2' f3'
                go_wp2_with fail
                go_roundw
                case rel =>
                  obtain ⟨q1, q2, q3, q4, q5⟩ := HG.out
                  refine ⟨j + 1, L1 ++ [V j], by go_num, by omega, HO6.out, HN.out.1, HN.out.2, ?_, by rw [List.length_append, List.length_singleton]; omega, fun e => by simp at e, hbel6⟩
                  intro i hi
                  rw [List.length_append, List.length_singleton] at hi
                  by_cases e : i = L1.length
                  · subst e; rw [gd_last]; exact HMJ.out
                  · rw [gd_left (by omega)]; exact q3 i (by omega)
                case measure => simp [intOf]; omega
              · have HN := Lib.hid (show GL L1 = cutF (goodN V (j + 1)) (N1 - s) ∧ BL L1 = cutF (badN V (j + 1)) (N1 - s) by
                  rw [hG1, hB1, cut_add, cut_add, if_neg hin, if_neg hin]; exact ⟨hg, hb⟩)
                clear e1 e2 e3 hD hmj hlej hown hg hb hm1 hl1 hvn hG1 hB1 r1 r3
                go_wp2_with fail
                go_quiet (fail)
                have hbel2 := below_dN (n := nq) hbel
                have HO2 := Lib.hid (show (wr.drewN nq).ownsRow w2.heap.size 75 3 _ L1.length (nc L1) from HO.out)
                clear f1 f2 f3 r1' r3' hbel hbudr
                generalize wr.drewN nq = wx at *
                go_wp2_with fail
                go_roundw
                case rel =>
                  obtain ⟨q1, q2, q3, q4, q5⟩ := HG.out
                  exact ⟨j + 1, L1, by go_num, by omega, HO2.out, HN.out.1, HN.out.2, q3, by omega, q5, hbel2⟩
                case measure => simp [intOf]; omega
            · have i1 : ¬ ((j : Int) < (n1 : Int)) := by omega
              have hjn : j = n1 := by omega
              subst hjn
              obtain ⟨a1, c1, hv, hc1, _, hp1⟩ := own_notes hown
              subst hv
              have r2 : wr.cell? ⟨b, 2, none⟩ = some (.slice a L.length cp) := cell_of_block hbudr 2
              have z2 := frozen_of_block hbudr 2
              have hapart : ∀ p, a1 = some p → p.block ≠ b := fun p hp => by have := (hp1 p hp).1; omega
              have hfin : TakeP Bq b t s (max now x) L x y z w (.returned (.tuple #[])) (wr.setCell ⟨b, 2, none⟩ (.slice a1 L1.length c1)) := by
                refine ⟨rfl, (HFR.out.trans (Fr.ofBelow HB4.out)).trans ((Fr.ofBelow hbel).setB 2 _), L1, ⟨a1, c1, ⟨s1, s2, ?_, counts_set hc1 hapart 2 _, hapart, by have := hl5.out; omega, ?_, ?_⟩, (fun e => absurd e (by decide)), (fun e => ?_), (fun p hp => by have q1 := (hp1 p hp).1; have q2 := HFR.out.size; omega)⟩, ?_, ?_, by have := hl5.out; omega⟩
                · rw [heap_setCell_same wr b 2 _ 103 (.slice a1 L1.length c1) hbudr, ← HN1.out]; rfl
                · rw [← HN1.out]; exact hm1
                · rw [← HN1.out]; exact hN2
                · have := hvn e
                  simp only [Value.slice.injEq] at this
                  exact ⟨this.1, this.2.2⟩
                · rw [hg, HGA.out.1, ← HN1.out]; rfl
                · rw [hb, HGA.out.2, ← HN1.out]; rfl
              have HFIN := Lib.hid hfin
              clear hfin hown hg hb hm1 hl1 hvn hc1 hp1 hapart r1 r3
              go_wp2_with ((with_reducible refine at_op (.store 101 (.tmp 69) (.tmp 67)) rfl ?_); refine wpList_store_cell rfl 101 (.tmp 69) _ rfl ⟨b, 2, none⟩ _ (.slice a1 L1.length c1) rfl rfl (by kernel_rfl) rfl rfl r2 z2 ?_)
              go_end0
              exact HFIN.out
      refine ready_cons (d := some 36) rfl rfl (by rfl) (fun K hK => ?_) AllReadyH.nil
      · have hb1 : Below w4.heap.size w4 (w4.alloc (.cells #[.int .i64 x, .int .i64 y, .int .i64 z] 75)).drew := ((Below.refl w4.heap.size w4).alloc (Nat.le_refl _) (.cells #[.int .i64 x, .int .i64 y, .int .i64 z] 75)).drew
        go_simp
        refine hK.out _ _ ⟨hb1, HD.out _ hb1⟩ (fun hHeld2 => ?_)
        clear hK K hHeld
        have hHeld := hHeld2
        clear hHeld2
        try simp only [Act.put, List.setIfInBounds_toArray, List.set_cons_zero, List.set_cons_succ]
        refine wpAnyH_ready (rs := [0]) (by kernel_rfl) (by simp) ?_
        refine ready_cons (d := some 29) rfl rfl (by rfl) (fun K hK => ?_) AllReadyH.nil
        have hb2 : Below w4.heap.size w4 ((w4.alloc (.cells #[.int .i64 x, .int .i64 y, .int .i64 z] 75)).alloc (.cells #[] 75)).drew := (((Below.refl w4.heap.size w4).alloc (Nat.le_refl _) (.cells #[.int .i64 x, .int .i64 y, .int .i64 z] 75)).alloc (by rw [World.size_alloc]; exact Nat.le_succ _) (.cells #[] 75)).drew
        go_simp
        refine hK.out _ _ ⟨hb2, HD.out _ hb2⟩ (fun hHeld2 => ?_)
        clear hK K hHeld
        have hHeld := hHeld2
        clear hHeld2
        try simp only [Act.put, List.setIfInBounds_toArray, List.set_cons_zero, List.set_cons_succ]
        have hown0 : (((w4.alloc (.cells #[.int .i64 x, .int .i64 y, .int .i64 z] 75)).alloc (.cells #[] 75)).drew).ownsRow w4.heap.size 75 3 (.slice (some ⟨w4.heap.size + 1, 0, none⟩) 0 0) 0 [] := by
          have q := World.ownsRow_made (base := w4.heap.size) (e := 75) (size := 3) (w4.alloc (.cells #[.int .i64 x, .int .i64 y, .int .i64 z] 75)) #[] 0 (by rw [World.size_alloc]; exact Nat.le_succ _) (Nat.zero_le _) rfl
          rw [World.size_alloc] at q
          exact ownsRow_drew q
        have hxb : (((w4.alloc (.cells #[.int .i64 x, .int .i64 y, .int .i64 z] 75)).alloc (.cells #[] 75)).drew).heap[w4.heap.size]? = some (.cells #[.int .i64 x, .int .i64 y, .int .i64 z] 75 (0, 0)) := (Below.heap_alloc (w4.alloc (.cells #[.int .i64 x, .int .i64 y, .int .i64 z] 75)) _ _ (by rw [World.size_alloc]; exact Nat.lt_succ_self _)).trans (alloc_at w4 _)
        refine wpAnyH_ready (rs := [5]) (by kernel_rfl) (by simp) ?_
        refine ready_cons (d := some 34) rfl rfl (by rfl) (fun K hK => ?_) AllReadyH.nil
        obtain ⟨v1, w1, hr1, ho1, hg1⟩ := app_all hown0 hb2.size (hcn.belowS hb2) HZ.out hlen
        have hb3 := hb2.grown hg1 hb2.size (fun k hk => (hown0.lt k hk).1)
        refine wp_append_run (.tmp 29) (.tmp 33) 101 rfl _ _ v1 w1 rfl rfl (hr1 _) ?_
        refine hK.out _ _ ⟨hb3, HD.out _ hb3⟩ (fun hHeld2 => ?_)
        clear hK K hHeld
        have hHeld := hHeld2
        clear hHeld2
        try simp only [Act.put, List.setIfInBounds_toArray, List.set_cons_zero, List.set_cons_succ]
        have hxne : some w4.heap.size ≠ (Value.slice (some ⟨w4.heap.size + 1, 0, none⟩) 0 0).ownBlock := by simp [Value.ownBlock]
        refine wpAnyH_ready (rs := [8]) (by kernel_rfl) (by simp) ?_
        refine ready_cons (d := some 37) rfl rfl (by rfl) (fun K hK => ?_) AllReadyH.nil
        obtain ⟨v2, w2, hr2, ho2, hg2⟩ := app_one ho1 hb3.size (grownBy_cell hg1 (cell_of_block hxb 0) hxne) (grownBy_cell hg1 (cell_of_block hxb 1) hxne) (grownBy_cell hg1 (cell_of_block hxb 2) hxne) hlen
        have hb4 := hb3.grown hg2 hb3.size (fun k hk => (ho1.lt k hk).1)
        refine wp_append_run (.tmp 34) (.tmp 36) 101 rfl _ _ v2 w2 rfl rfl (hr2 _) ?_
        refine hK.out _ _ ⟨hb4, HD.out _ hb4⟩ (fun hHeld2 => ?_)
        clear hK K hHeld
        have hHeld := hHeld2
        clear hHeld2
        try simp only [Act.put, List.setIfInBounds_toArray, List.set_cons_zero, List.set_cons_succ]
        refine take_at (i := 9) (d := some 5) (v := ?_) rfl rfl (by kernel_rfl) (by kernel_rfl) (by kernel_rfl) (fun _ _ _ h => h) (Or.inl ⟨by rfl, fun w hSw => ?_⟩) hHeld ?_
        rotate_left
        · (try dsimp only at hSw); go_simp; try with_reducible rfl
        try simp only [Act.put, List.setIfInBounds_toArray, List.set_cons_zero, List.set_cons_succ]
        refine wpAnyH_done (by kernel_rfl) ?_ _
        have hown5 : w2.ownsRow w4.heap.size 75 3 v2 (L ++ [(x, y, z)]).length (nc (L ++ [(x, y, z)])) := by rw [List.length_append, nc_append]; exact ho2
        have HB4 := Lib.hid hb4
        have hlen5 : (L ++ [(x, y, z)]).length = L.length + 1 := by rw [List.length_append]; rfl
        obtain ⟨aA, cA, hv2, hcA, _, hpA⟩ := own_notes hown5
        subst hv2
        have hmayA : ∀ i, i < (L ++ [(x, y, z)]).length → mayB (gd (L ++ [(x, y, z)]) i).1 (gd (L ++ [(x, y, z)]) i).2.1 (gd (L ++ [(x, y, z)]) i).2.2 ∧ (gd (L ++ [(x, y, z)]) i).1 ≤ max now x := by
          intro i hi
          rw [hlen5] at hi
          by_cases e : i = L.length
          · subst e; rw [gd_last]; exact ⟨⟨m1, m2, m3, m4, m5, m6⟩, by show x ≤ _; omega⟩
          · rw [gd_left (by omega)]
            have := hmay i (by omega)
            exact ⟨this.1, by omega⟩
        have hGA := GL_append (L := L) (x := (x, y, z)) ⟨m1, m2, m3, m4, m5, m6⟩
        unfold GL BL at hGA
        obtain ⟨n1, hn1⟩ : ∃ n1, n1 = (L ++ [(x, y, z)]).length := ⟨_, rfl⟩
        obtain ⟨V, hV⟩ : ∃ V, V = gd (L ++ [(x, y, z)]) := ⟨_, rfl⟩
        obtain ⟨N1, hN1⟩ : ∃ N1, N1 = max now x := ⟨_, rfl⟩
        rw [← hn1] at hcA hmayA hlen5 hGA ⊢
        rw [← hV] at hcA hmayA hGA
        rw [← hN1] at hmayA hbud
        have hN2 : 0 ≤ N1 ∧ N1 ≤ 4611686018427387904 := by omega
        have HA := Lib.hid hmayA
        have HGA := Lib.hid hGA
        have HN1 := Lib.hid hN1
        have HFR := Lib.hid hfr
        have HBU := Lib.hid hbud
        have hn1b : n1 ≤ 1000000001 := by omega
        have hl5 := Lib.hid hlen5
        have hbsz := hb4.size
        have hnn : n1 ≤ 9223372036854775807 := by omega
        have hlb2 : b < w2.heap.size := by omega
        have hpA2 := Lib.hid hpA
        obtain ⟨i0, hi, hz0, hz1, hz2⟩ := info75
        clear hown5 ho2 hr2 hg2 ho1 hr1 hg1 hb4 hmayA hGA hn1 hV hN1 hHeld HD hcn hblk hfr hbud hbd hlen5 hpA
        go_wp2_with fail
        go_loopw [4, 6] (fun v i W => ∃ (j : Nat) (L1 : List Nt), i = .int .i64 j ∧ j ≤ n1 ∧ W.ownsRow w2.heap.size 75 3 v L1.length (nc L1) ∧ GL L1 = cutF (goodN V j) (N1 - s) ∧ BL L1 = cutF (badN V j) (N1 - s) ∧ (∀ i, i < L1.length → mayB (gd L1 i).1 (gd L1 i).2.1 (gd L1 i).2.2 ∧ (gd L1 i).1 ≤ N1) ∧ L1.length ≤ j ∧ (L1 = [] → v = .slice none 0 0) ∧ Below w2.heap.size w2 W) (fun _ i _ => n1 - (intOf i).toNat)
        case atStart => exact ⟨0, [], rfl, by omega, ⟨rfl, Or.inl ⟨rfl, rfl⟩⟩, (cut_none _).symm, (cut_none _).symm, fun i hi => by simp at hi, by simp, fun _ => rfl, Below.refl _ _⟩
        case round =>
          obtain ⟨j, L1, rfl, hj, hown, hg, hb, hm1, hl1, hvn, hbel⟩ := hrel
          have hbudr : wr.heap[b]? = some (.cells (mrV t s a L.length cp N1 true) 103 (0, 0)) := by rw [hbel.block b hlb2, HB4.out.block b hlb]; exact HBU.out
          have r1 := cell_of_block hbudr 1
          have r3 := cell_of_block hbudr 3
          have r1' : wr.cell? ⟨b, 1, none⟩ = some (.int .i64 s) := r1
          have r3' : wr.cell? ⟨b, 3, none⟩ = some (.int .i64 N1) := r3
          have HO := Lib.hid hown
          have HG := Lib.hid (And.intro hg (And.intro hb (And.intro hm1 (And.intro hl1 hvn))))
          by_cases hlt : j < n1
          · have i1 : (j : Int) < (n1 : Int) := by omega
            obtain ⟨pp, rfl, hD⟩ := hcA (by omega)
            obtain ⟨e1, e2, e3⟩ := hD j hlt
            have f1 := (hbel.cell (block_lt e1)).trans e1
            have f2 := (hbel.cell (p := ⟨(pp.add (j * 3)).block, (pp.add (j * 3)).off + 1, none⟩) (block_lt e2)).trans e2
            have f3 := (hbel.cell (p := ⟨(pp.add (j * 3)).block, (pp.add (j * 3)).off + 2, none⟩) (block_lt e3)).trans e3
            obtain ⟨hmj, hlej⟩ := HA.out j hlt
            have hG1 : goodN V (j + 1) = addAt (goodN V j) (V j).1 (V j).2.1 := by rw [goodN, if_pos hmj]
            have hB1 : badN V (j + 1) = addAt (badN V j) (V j).1 (V j).2.2 := by rw [badN, if_pos hmj]
            have hr0 := hmj.1
            have hr1 := hmj.2.1
            have HMJ := Lib.hid (And.intro hmj hlej)
            by_cases hin : N1 - s < (V j).1
            · have HN := Lib.hid (show GL (L1 ++ [V j]) = cutF (goodN V (j + 1)) (N1 - s) ∧ BL (L1 ++ [V j]) = cutF (badN V (j + 1)) (N1 - s) by
                obtain ⟨q1, q2⟩ := GL_append (L := L1) (x := V j) hmj
                rw [q1, q2, hG1, hB1, cut_add, cut_add, if_pos hin, if_pos hin, hg, hb]; exact ⟨rfl, rfl⟩)
              clear e1 e2 e3 hD hmj hlej hown hg hb hm1 hl1 hvn hG1 hB1 r1 r3
              go_wp2_with fail
              go_quiet (fail)
              have f1' : (wr.drewN nq).cell? _ = _ := f1
              have f2' : (wr.drewN nq).cell? _ = _ := f2
              have f3' : (wr.drewN nq).cell? _ = _ := f3
              have hbel2 := below_dN (n := nq) hbel
              have HO2 := Lib.hid (show (wr.drewN nq).ownsRow w2.heap.size 75 3 _ L1.length (nc L1) from HO.out)
              have hbs := hbel2.size
              clear f1 f2 f3 r1' r3' hbel hbudr
              generalize wr.drewN nq = wx at *
              go_wp2_with (at_builtin; refine wpList_append_own _ rfl (.tmp 59) (.tmp 64) 101 rfl w2.heap.size 75 i0 (.agg #[.int .i64 0, .int .i64 0, .int .i64 0]) 3 24 Try.underlying101 hi hz0 hz1 hz2 rfl (by decide) _ _ _ rfl (HO2.out.alloc _) ⟨wx.heap.size, 0, none⟩ 1 1 [.int .i64 (V j).1, .int .i64 (V j).2.1, .int .i64 (V j).2.2] rfl rfl ?cc1 ?cc2 ?cc3 ?cc4 ?cc5 ?_)
              case cc1 => intro m u hu; rcases m with _ | _ | _ | m <;> simp at hu <;> subst hu; exact cell_of_block (alloc_at _ _) 0; exact cell_of_block (alloc_at _ _) 1; exact cell_of_block (alloc_at _ _) 2
              case cc2 => intro u hu; simp at hu; rcases hu with rfl | rfl | rfl <;> rfl
              case cc3 => have := HG.out.2.2.2.1; simp only [maxLen]; omega
              case cc4 => have := HG.out.2.2.2.1; omega
              case cc5 => simp; omega
              intro v' w6 hown6 hg6 hnil
              have hbel6 := (hbel2.alloc hbs _).grown hg6 (by simp; omega) (fun q hq => (HO2.out.lt q hq).1)
              have HO6 := Lib.hid (show w6.ownsRow w2.heap.size 75 3 v' (L1 ++ [V j]).length (nc (L1 ++ [V j])) by rw [List.length_append, nc_append]; exact hown6)
              clear hown6 hg6 hnil hbel2 f1' f2' f3'
              go_wp2_with fail
              go_roundw
              case rel =>
                obtain ⟨q1, q2, q3, q4, q5⟩ := HG.out
                refine ⟨j + 1, L1 ++ [V j], by go_num, by omega, HO6.out, HN.out.1, HN.out.2, ?_, by rw [List.length_append, List.length_singleton]; omega, fun e => by simp at e, hbel6⟩
                intro i hi
                rw [List.length_append, List.length_singleton] at hi
                by_cases e : i = L1.length
                · subst e; rw [gd_last]; exact HMJ.out
                · rw [gd_left (by omega)]; exact q3 i (by omega)
              case measure => simp [intOf]; omega
            · have HN := Lib.hid (show GL L1 = cutF (goodN V (j + 1)) (N1 - s) ∧ BL L1 = cutF (badN V (j + 1)) (N1 - s) by
                rw [hG1, hB1, cut_add, cut_add, if_neg hin, if_neg hin]; exact ⟨hg, hb⟩)
              clear e1 e2 e3 hD hmj hlej hown hg hb hm1 hl1 hvn hG1 hB1 r1 r3
              go_wp2_with fail
              go_quiet (fail)
              have hbel2 := below_dN (n := nq) hbel
              have HO2 := Lib.hid (show (wr.drewN nq).ownsRow w2.heap.size 75 3 _ L1.length (nc L1) from HO.out)
              clear f1 f2 f3 r1' r3' hbel hbudr
              generalize wr.drewN nq = wx at *
              go_wp2_with fail
              go_roundw
              case rel =>
                obtain ⟨q1, q2, q3, q4, q5⟩ := HG.out
                exact ⟨j + 1, L1, by go_num, by omega, HO2.out, HN.out.1, HN.out.2, q3, by omega, q5, hbel2⟩
              case measure => simp [intOf]; omega
          · have i1 : ¬ ((j : Int) < (n1 : Int)) := by omega
            have hjn : j = n1 := by omega
            subst hjn
            obtain ⟨a1, c1, hv, hc1, _, hp1⟩ := own_notes hown
            subst hv
            have r2 : wr.cell? ⟨b, 2, none⟩ = some (.slice a L.length cp) := cell_of_block hbudr 2
            have z2 := frozen_of_block hbudr 2
            have hapart : ∀ p, a1 = some p → p.block ≠ b := fun p hp => by have := (hp1 p hp).1; omega
            have hfin : TakeP Bq b t s (max now x) L x y z w (.returned (.tuple #[])) (wr.setCell ⟨b, 2, none⟩ (.slice a1 L1.length c1)) := by
              refine ⟨rfl, (HFR.out.trans (Fr.ofBelow HB4.out)).trans ((Fr.ofBelow hbel).setB 2 _), L1, ⟨a1, c1, ⟨s1, s2, ?_, counts_set hc1 hapart 2 _, hapart, by have := hl5.out; omega, ?_, ?_⟩, (fun e => absurd e (by decide)), (fun e => ?_), (fun p hp => by have q1 := (hp1 p hp).1; have q2 := HFR.out.size; omega)⟩, ?_, ?_, by have := hl5.out; omega⟩
              · rw [heap_setCell_same wr b 2 _ 103 (.slice a1 L1.length c1) hbudr, ← HN1.out]; rfl
              · rw [← HN1.out]; exact hm1
              · rw [← HN1.out]; exact hN2
              · have := hvn e
                simp only [Value.slice.injEq] at this
                exact ⟨this.1, this.2.2⟩
              · rw [hg, HGA.out.1, ← HN1.out]; rfl
              · rw [hb, HGA.out.2, ← HN1.out]; rfl
            have HFIN := Lib.hid hfin
            clear hfin hown hg hb hm1 hl1 hvn hc1 hp1 hapart r1 r3
            go_wp2_with ((with_reducible refine at_op (.store 101 (.tmp 69) (.tmp 67)) rfl ?_); refine wpList_store_cell rfl 101 (.tmp 69) _ rfl ⟨b, 2, none⟩ _ (.slice a1 L1.length c1) rfl rfl (by kernel_rfl) rfl rfl r2 z2 ?_)
            go_end0
            exact HFIN.out
    · have HMX := Lib.hid (show max now x = now by omega)
      go_quiet (fail)
      have d3 : (wA.drewN nq).cell? ⟨b, 3, none⟩ = some (.int .i64 now) := c3
      have d4 : (wA.drewN nq).cell? ⟨b, 4, none⟩ = _ := c4
      have g0 : (wA.drewN nq).cell? ⟨p, 0, none⟩ = _ := e0'
      have hbud2 : (wA.drewN nq).heap[b]? = _ := hbud
      have hblk2 : (wA.drewN nq).heap[p]? = _ := hblk
      have hcn2 : CountsIn (wA.drewN nq) a L.length (gd L) := hcn.drewN nq
      have hbel2 := below_dN (n := nq) hbel
      clear c0 c1 c2 c3 c4 e0' hbud hblk hcn hbel
      generalize wA.drewN nq = wB at *
      have z4 := frozen_of_block hbud2 4
      have hbud4 : (wB.setCell ⟨b, 4, none⟩ (.bool true)).heap[b]? = some (.cells (mrV t s a L.length cp (max now x) true) 103 (0, 0)) := by rw [heap_setCell_same _ b 4 _ 103 (.bool true) hbud2, HMX.out]; rfl
      have hoth : ∀ k, k ≠ b → (wB.setCell ⟨b, 4, none⟩ (.bool true)).heap[k]? = wB.heap[k]? := fun k hk => Below.heap_setCell _ ⟨b, 4, none⟩ _ k hk
      have hfr : Fr b b w (wB.setCell ⟨b, 4, none⟩ (.bool true)) := (Fr.ofBelow (b := b) (g := b) hbel2).setB 4 _
      have hblk4 : (wB.setCell ⟨b, 4, none⟩ (.bool true)).heap[p]? = _ := (hoth p hpb).trans hblk2
      have hcn4 : CountsIn (wB.setCell ⟨b, 4, none⟩ (.bool true)) a L.length (gd L) := fun q => by
        obtain ⟨pp, hpp, hq⟩ := hcn2 q
        refine ⟨pp, hpp, fun i hi => ?_⟩
        obtain ⟨q1, q2, q3⟩ := hq i hi
        have hne : ∀ i, (pp.add i).block ≠ b := fun i => by rw [show (pp.add i).block = pp.block by unfold Addr.add; split <;> rfl]; exact hap pp hpp
        have hh := hoth (pp.add (i * 3)).block (hne _)
        exact ⟨(World.cell?_of_block (w := wB) (a := pp.add (i * 3)) hh).trans q1, (World.cell?_of_block (w := wB) (a := ⟨(pp.add (i * 3)).block, (pp.add (i * 3)).off + 1, none⟩) hh).trans q2, (World.cell?_of_block (w := wB) (a := ⟨(pp.add (i * 3)).block, (pp.add (i * 3)).off + 2, none⟩) hh).trans q3⟩
      obtain ⟨w4, hw4⟩ : ∃ w4, w4 = (wB.setCell ⟨b, 4, none⟩ (.bool true)) := ⟨_, rfl⟩
      rw [← hw4] at hbud4 hblk4 hcn4 hfr
      have HW4 := Lib.hid hw4
      have HC := Lib.hid (And.intro hbud4 (And.intro hblk4 (And.intro hcn4 hfr)))
      clear hw4 hbud4 hblk4 hcn4 hfr hoth hbud2 hblk2 hcn2 hbel2
      go_wp2_with ((with_reducible refine at_op (.store 4 (.tmp 28) (.const (.bool true))) rfl ?_); refine wpList_store_cell rfl 4 (.tmp 28) _ rfl ⟨b, 4, none⟩ _ (.bool true) rfl rfl (by kernel_rfl) rfl rfl d4 z4 ?_)
      rw [← HW4.out]
      clear HW4 d3 d4 g0 z4
      obtain ⟨hbud, hblk, hcn, hfr⟩ := HC.out
      clear HC
      have hbd : Below w4.heap.size w4 w4.drew := (Below.refl _ _).drew
      have hlb : b < w4.heap.size := (Array.getElem?_eq_some_iff.1 hbud).1
      have hlp : p < w4.heap.size := (Array.getElem?_eq_some_iff.1 hblk).1
      have HD := Lib.hid (show ∀ w', Below w4.heap.size w4 w' → w'.cell? ⟨b, 2, none⟩ = some (.slice a L.length cp) ∧ w'.cell? ⟨p, 0, none⟩ = some (.int .i64 x) ∧ w'.cell? ⟨p, 1, none⟩ = some (.int .i64 y) ∧ w'.cell? ⟨p, 2, none⟩ = some (.int .i64 z) from
        fun w' hb => ⟨(hb.cell (p := ⟨b, 2, none⟩) hlb).trans (cell_of_block hbud 2), (hb.cell (p := ⟨p, 0, none⟩) hlp).trans (cell_of_block hblk 0), (hb.cell (p := ⟨p, 1, none⟩) hlp).trans (cell_of_block hblk 1), (hb.cell (p := ⟨p, 2, none⟩) hlp).trans (cell_of_block hblk 2)⟩)
      have hlen : L.length ≤ 1000000000 := by omega
      go_wp2_with fail
      refine wp_region_held_drew (S := fun w' => Below w4.heap.size w4 w' ∧ w'.cell? ⟨b, 2, none⟩ = some (.slice a L.length cp) ∧ w'.cell? ⟨p, 0, none⟩ = some (.int .i64 x) ∧ w'.cell? ⟨p, 1, none⟩ = some (.int .i64 y) ∧ w'.cell? ⟨p, 2, none⟩ = some (.int .i64 z)) (by kernel_rfl) ⟨hbd, HD.out _ hbd⟩ (fun hHeld => ?_)
      refine take_at (i := 1) (d := some 30) (v := ?_) rfl rfl (by kernel_rfl) (by kernel_rfl) (by kernel_rfl) (fun _ _ _ h => h) (Or.inl ⟨by rfl, fun w hSw => ?_⟩) hHeld ?_
      rotate_left
      · (try dsimp only at hSw); go_simp; try with_reducible rfl
      try simp only [Act.put, List.setIfInBounds_toArray, List.set_cons_zero, List.set_cons_succ]
      refine take_at (i := 2) (d := some 31) (v := ?_) rfl rfl (by kernel_rfl) (by kernel_rfl) (by kernel_rfl) (fun _ _ _ h => h) (Or.inl ⟨by rfl, fun w hSw => ?_⟩) hHeld ?_
      rotate_left
      · (try dsimp only at hSw); go_simp; try with_reducible rfl
      try simp only [Act.put, List.setIfInBounds_toArray, List.set_cons_zero, List.set_cons_succ]
      refine take_at (i := 3) (d := some 32) (v := ?_) rfl rfl (by kernel_rfl) (by kernel_rfl) (by kernel_rfl) (fun _ _ _ h => h) (Or.inl ⟨by rfl, fun w hSw => ?_⟩) hHeld ?_
      rotate_left
      · (try dsimp only at hSw); go_simp; try with_reducible rfl
      try simp only [Act.put, List.setIfInBounds_toArray, List.set_cons_zero, List.set_cons_succ]
      refine take_at (i := 4) (d := some 33) (v := ?_) rfl rfl (by kernel_rfl) (by kernel_rfl) (by kernel_rfl) (fun _ _ _ h => h) (Or.inl ⟨by rfl, fun w hSw => ?_⟩) hHeld ?_
      rotate_left
      · (try dsimp only at hSw); go_simp; try with_reducible rfl
      try simp only [Act.put, List.setIfInBounds_toArray, List.set_cons_zero, List.set_cons_succ]
      refine take_at (i := 6) (d := some 35) (v := ?_) rfl rfl (by kernel_rfl) (by kernel_rfl) (by kernel_rfl) (fun _ _ _ h => h) (Or.inl ⟨by rfl, fun w hSw => ?_⟩) hHeld ?_
      rotate_left
      · (try dsimp only at hSw); go_simp; try with_reducible rfl
      try simp only [Act.put, List.setIfInBounds_toArray, List.set_cons_zero, List.set_cons_succ]
      refine wpAnyH_ready (rs := [0, 7]) (by kernel_rfl) (by simp) ?_
      refine ready_cons (d := some 29) rfl rfl (by rfl) (fun K hK => ?_) ?_
      · have hb1 : Below w4.heap.size w4 (w4.alloc (.cells #[] 75)).drew := ((Below.refl w4.heap.size w4).alloc (Nat.le_refl _) (.cells #[] 75)).drew
        go_simp
        refine hK.out _ _ ⟨hb1, HD.out _ hb1⟩ (fun hHeld2 => ?_)
        clear hK K hHeld
        have hHeld := hHeld2
        clear hHeld2
        try simp only [Act.put, List.setIfInBounds_toArray, List.set_cons_zero, List.set_cons_succ]
        have hown0 : ((w4.alloc (.cells #[] 75)).drew).ownsRow w4.heap.size 75 3 (.slice (some ⟨w4.heap.size, 0, none⟩) 0 0) 0 [] := ownsRow_drew (World.ownsRow_made w4 #[] 0 (Nat.le_refl _) (Nat.zero_le _) rfl)
        refine wpAnyH_ready (rs := [5, 7]) (by kernel_rfl) (by simp) ?_
        refine ready_cons (d := some 34) rfl rfl (by rfl) (fun K hK => ?_) ?_
        · obtain ⟨v1, w1, hr1, ho1, hg1⟩ := app_all hown0 hb1.size (hcn.belowS hb1) HZ.out hlen
          have hb2 := hb1.grown hg1 hb1.size (fun k hk => (hown0.lt k hk).1)
          refine wp_append_run (.tmp 29) (.tmp 33) 101 rfl _ _ v1 w1 rfl rfl (hr1 _) ?_
          refine hK.out _ _ ⟨hb2, HD.out _ hb2⟩ (fun hHeld2 => ?_)
          clear hK K hHeld
          have hHeld := hHeld2
          clear hHeld2
          try simp only [Act.put, List.setIfInBounds_toArray, List.set_cons_zero, List.set_cons_succ]
          refine wpAnyH_ready (rs := [7]) (by kernel_rfl) (by simp) ?_
          refine ready_cons (d := some 36) rfl rfl (by rfl) (fun K hK => ?_) AllReadyH.nil
          have hb3 : Below w4.heap.size w4 (w1.alloc (.cells #[.int .i64 x, .int .i64 y, .int .i64 z] 75)) := hb2.alloc hb2.size _
          go_simp
          refine hK.out _ _ ⟨hb3, HD.out _ hb3⟩ (fun hHeld2 => ?_)
          clear hK K hHeld
          have hHeld := hHeld2
          clear hHeld2
          try simp only [Act.put, List.setIfInBounds_toArray, List.set_cons_zero, List.set_cons_succ]
          refine wpAnyH_ready (rs := [8]) (by kernel_rfl) (by simp) ?_
          refine ready_cons (d := some 37) rfl rfl (by rfl) (fun K hK => ?_) AllReadyH.nil
          obtain ⟨v2, w2, hr2, ho2, hg2⟩ := app_one (ho1.alloc (.cells #[.int .i64 x, .int .i64 y, .int .i64 z] 75)) hb3.size (cell_of_block (alloc_at _ _) 0) (cell_of_block (alloc_at _ _) 1) (cell_of_block (alloc_at _ _) 2) hlen
          have hb4 := hb3.grown hg2 hb3.size (fun k hk => (ho1.lt k hk).1)
          refine wp_append_run (.tmp 34) (.tmp 36) 101 rfl _ _ v2 w2 rfl rfl (hr2 _) ?_
          refine hK.out _ _ ⟨hb4, HD.out _ hb4⟩ (fun hHeld2 => ?_)
          clear hK K hHeld
          have hHeld := hHeld2
          clear hHeld2
          try simp only [Act.put, List.setIfInBounds_toArray, List.set_cons_zero, List.set_cons_succ]
          refine take_at (i := 9) (d := some 5) (v := ?_) rfl rfl (by kernel_rfl) (by kernel_rfl) (by kernel_rfl) (fun _ _ _ h => h) (Or.inl ⟨by rfl, fun w hSw => ?_⟩) hHeld ?_
          rotate_left
          · (try dsimp only at hSw); go_simp; try with_reducible rfl
          try simp only [Act.put, List.setIfInBounds_toArray, List.set_cons_zero, List.set_cons_succ]
          refine wpAnyH_done (by kernel_rfl) ?_ _
          have hown5 : w2.ownsRow w4.heap.size 75 3 v2 (L ++ [(x, y, z)]).length (nc (L ++ [(x, y, z)])) := by rw [List.length_append, nc_append]; exact ho2
          have HB4 := Lib.hid hb4
          have hlen5 : (L ++ [(x, y, z)]).length = L.length + 1 := by rw [List.length_append]; rfl
          obtain ⟨aA, cA, hv2, hcA, _, hpA⟩ := own_notes hown5
          subst hv2
          have hmayA : ∀ i, i < (L ++ [(x, y, z)]).length → mayB (gd (L ++ [(x, y, z)]) i).1 (gd (L ++ [(x, y, z)]) i).2.1 (gd (L ++ [(x, y, z)]) i).2.2 ∧ (gd (L ++ [(x, y, z)]) i).1 ≤ max now x := by
            intro i hi
            rw [hlen5] at hi
            by_cases e : i = L.length
            · subst e; rw [gd_last]; exact ⟨⟨m1, m2, m3, m4, m5, m6⟩, by show x ≤ _; omega⟩
            · rw [gd_left (by omega)]
              have := hmay i (by omega)
              exact ⟨this.1, by omega⟩
          have hGA := GL_append (L := L) (x := (x, y, z)) ⟨m1, m2, m3, m4, m5, m6⟩
          unfold GL BL at hGA
          obtain ⟨n1, hn1⟩ : ∃ n1, n1 = (L ++ [(x, y, z)]).length := ⟨_, rfl⟩
          obtain ⟨V, hV⟩ : ∃ V, V = gd (L ++ [(x, y, z)]) := ⟨_, rfl⟩
          obtain ⟨N1, hN1⟩ : ∃ N1, N1 = max now x := ⟨_, rfl⟩
          rw [← hn1] at hcA hmayA hlen5 hGA ⊢
          rw [← hV] at hcA hmayA hGA
          rw [← hN1] at hmayA hbud
          have hN2 : 0 ≤ N1 ∧ N1 ≤ 4611686018427387904 := by omega
          have HA := Lib.hid hmayA
          have HGA := Lib.hid hGA
          have HN1 := Lib.hid hN1
          have HFR := Lib.hid hfr
          have HBU := Lib.hid hbud
          have hn1b : n1 ≤ 1000000001 := by omega
          have hl5 := Lib.hid hlen5
          have hbsz := hb4.size
          have hnn : n1 ≤ 9223372036854775807 := by omega
          have hlb2 : b < w2.heap.size := by omega
          have hpA2 := Lib.hid hpA
          obtain ⟨i0, hi, hz0, hz1, hz2⟩ := info75
          clear hown5 ho2 hr2 hg2 ho1 hr1 hg1 hb4 hmayA hGA hn1 hV hN1 hHeld HD hcn hblk hfr hbud hbd hlen5 hpA
          go_wp2_with fail
          go_loopw [4, 6] (fun v i W => ∃ (j : Nat) (L1 : List Nt), i = .int .i64 j ∧ j ≤ n1 ∧ W.ownsRow w2.heap.size 75 3 v L1.length (nc L1) ∧ GL L1 = cutF (goodN V j) (N1 - s) ∧ BL L1 = cutF (badN V j) (N1 - s) ∧ (∀ i, i < L1.length → mayB (gd L1 i).1 (gd L1 i).2.1 (gd L1 i).2.2 ∧ (gd L1 i).1 ≤ N1) ∧ L1.length ≤ j ∧ (L1 = [] → v = .slice none 0 0) ∧ Below w2.heap.size w2 W) (fun _ i _ => n1 - (intOf i).toNat)
          case atStart => exact ⟨0, [], rfl, by omega, ⟨rfl, Or.inl ⟨rfl, rfl⟩⟩, (cut_none _).symm, (cut_none _).symm, fun i hi => by simp at hi, by simp, fun _ => rfl, Below.refl _ _⟩
          case round =>
            obtain ⟨j, L1, rfl, hj, hown, hg, hb, hm1, hl1, hvn, hbel⟩ := hrel
            have hbudr : wr.heap[b]? = some (.cells (mrV t s a L.length cp N1 true) 103 (0, 0)) := by rw [hbel.block b hlb2, HB4.out.block b hlb]; exact HBU.out
            have r1 := cell_of_block hbudr 1
            have r3 := cell_of_block hbudr 3
            have r1' : wr.cell? ⟨b, 1, none⟩ = some (.int .i64 s) := r1
            have r3' : wr.cell? ⟨b, 3, none⟩ = some (.int .i64 N1) := r3
            have HO := Lib.hid hown
            have HG := Lib.hid (And.intro hg (And.intro hb (And.intro hm1 (And.intro hl1 hvn))))
            by_cases hlt : j < n1
            · have i1 : (j : Int) < (n1 : Int) := by omega
              obtain ⟨pp, rfl, hD⟩ := hcA (by omega)
              obtain ⟨e1, e2, e3⟩ := hD j hlt
              have f1 := (hbel.cell (block_lt e1)).trans e1
              have f2 := (hbel.cell (p := ⟨(pp.add (j * 3)).block, (pp.add (j * 3)).off + 1, none⟩) (block_lt e2)).trans e2
              have f3 := (hbel.cell (p := ⟨(pp.add (j * 3)).block, (pp.add (j * 3)).off + 2, none⟩) (block_lt e3)).trans e3
              obtain ⟨hmj, hlej⟩ := HA.out j hlt
              have hG1 : goodN V (j + 1) = addAt (goodN V j) (V j).1 (V j).2.1 := by rw [goodN, if_pos hmj]
              have hB1 : badN V (j + 1) = addAt (badN V j) (V j).1 (V j).2.2 := by rw [badN, if_pos hmj]
              have hr0 := hmj.1
              have hr1 := hmj.2.1
              have HMJ := Lib.hid (And.intro hmj hlej)
              by_cases hin : N1 - s < (V j).1
              · have HN := Lib.hid (show GL (L1 ++ [V j]) = cutF (goodN V (j + 1)) (N1 - s) ∧ BL (L1 ++ [V j]) = cutF (badN V (j + 1)) (N1 - s) by
                  obtain ⟨q1, q2⟩ := GL_append (L := L1) (x := V j) hmj
                  rw [q1, q2, hG1, hB1, cut_add, cut_add, if_pos hin, if_pos hin, hg, hb]; exact ⟨rfl, rfl⟩)
                clear e1 e2 e3 hD hmj hlej hown hg hb hm1 hl1 hvn hG1 hB1 r1 r3
                go_wp2_with fail
                go_quiet (fail)
                have f1' : (wr.drewN nq).cell? _ = _ := f1
                have f2' : (wr.drewN nq).cell? _ = _ := f2
                have f3' : (wr.drewN nq).cell? _ = _ := f3
                have hbel2 := below_dN (n := nq) hbel
                have HO2 := Lib.hid (show (wr.drewN nq).ownsRow w2.heap.size 75 3 _ L1.length (nc L1) from HO.out)
                have hbs := hbel2.size
                clear f1 f2 f3 r1' r3' hbel hbudr
                generalize wr.drewN nq = wx at *
                go_wp2_with (at_builtin; refine wpList_append_own _ rfl (.tmp 59) (.tmp 64) 101 rfl w2.heap.size 75 i0 (.agg #[.int .i64 0, .int .i64 0, .int .i64 0]) 3 24 Try.underlying101 hi hz0 hz1 hz2 rfl (by decide) _ _ _ rfl (HO2.out.alloc _) ⟨wx.heap.size, 0, none⟩ 1 1 [.int .i64 (V j).1, .int .i64 (V j).2.1, .int .i64 (V j).2.2] rfl rfl ?cc1 ?cc2 ?cc3 ?cc4 ?cc5 ?_)
                case cc1 => intro m u hu; rcases m with _ | _ | _ | m <;> simp at hu <;> subst hu; exact cell_of_block (alloc_at _ _) 0; exact cell_of_block (alloc_at _ _) 1; exact cell_of_block (alloc_at _ _) 2
                case cc2 => intro u hu; simp at hu; rcases hu with rfl | rfl | rfl <;> rfl
                case cc3 => have := HG.out.2.2.2.1; simp only [maxLen]; omega
                case cc4 => have := HG.out.2.2.2.1; omega
                case cc5 => simp; omega
                intro v' w6 hown6 hg6 hnil
                have hbel6 := (hbel2.alloc hbs _).grown hg6 (by simp; omega) (fun q hq => (HO2.out.lt q hq).1)
                have HO6 := Lib.hid (show w6.ownsRow w2.heap.size 75 3 v' (L1 ++ [V j]).length (nc (L1 ++ [V j])) by rw [List.length_append, nc_append]; exact hown6)
                clear hown6 hg6 hnil hbel2 f1' f2' f3'
                go_wp2_with fail
                go_roundw
                case rel =>
                  obtain ⟨q1, q2, q3, q4, q5⟩ := HG.out
                  refine ⟨j + 1, L1 ++ [V j], by go_num, by omega, HO6.out, HN.out.1, HN.out.2, ?_, by rw [List.length_append, List.length_singleton]; omega, fun e => by simp at e, hbel6⟩
                  intro i hi
                  rw [List.length_append, List.length_singleton] at hi
                  by_cases e : i = L1.length
                  · subst e; rw [gd_last]; exact HMJ.out
                  · rw [gd_left (by omega)]; exact q3 i (by omega)
                case measure => simp [intOf]; omega
              · have HN := Lib.hid (show GL L1 = cutF (goodN V (j + 1)) (N1 - s) ∧ BL L1 = cutF (badN V (j + 1)) (N1 - s) by
                  rw [hG1, hB1, cut_add, cut_add, if_neg hin, if_neg hin]; exact ⟨hg, hb⟩)
                clear e1 e2 e3 hD hmj hlej hown hg hb hm1 hl1 hvn hG1 hB1 r1 r3
                go_wp2_with fail
                go_quiet (fail)
                have hbel2 := below_dN (n := nq) hbel
                have HO2 := Lib.hid (show (wr.drewN nq).ownsRow w2.heap.size 75 3 _ L1.length (nc L1) from HO.out)
                clear f1 f2 f3 r1' r3' hbel hbudr
                generalize wr.drewN nq = wx at *
                go_wp2_with fail
                go_roundw
                case rel =>
                  obtain ⟨q1, q2, q3, q4, q5⟩ := HG.out
                  exact ⟨j + 1, L1, by go_num, by omega, HO2.out, HN.out.1, HN.out.2, q3, by omega, q5, hbel2⟩
                case measure => simp [intOf]; omega
            · have i1 : ¬ ((j : Int) < (n1 : Int)) := by omega
              have hjn : j = n1 := by omega
              subst hjn
              obtain ⟨a1, c1, hv, hc1, _, hp1⟩ := own_notes hown
              subst hv
              have r2 : wr.cell? ⟨b, 2, none⟩ = some (.slice a L.length cp) := cell_of_block hbudr 2
              have z2 := frozen_of_block hbudr 2
              have hapart : ∀ p, a1 = some p → p.block ≠ b := fun p hp => by have := (hp1 p hp).1; omega
              have hfin : TakeP Bq b t s (max now x) L x y z w (.returned (.tuple #[])) (wr.setCell ⟨b, 2, none⟩ (.slice a1 L1.length c1)) := by
                refine ⟨rfl, (HFR.out.trans (Fr.ofBelow HB4.out)).trans ((Fr.ofBelow hbel).setB 2 _), L1, ⟨a1, c1, ⟨s1, s2, ?_, counts_set hc1 hapart 2 _, hapart, by have := hl5.out; omega, ?_, ?_⟩, (fun e => absurd e (by decide)), (fun e => ?_), (fun p hp => by have q1 := (hp1 p hp).1; have q2 := HFR.out.size; omega)⟩, ?_, ?_, by have := hl5.out; omega⟩
                · rw [heap_setCell_same wr b 2 _ 103 (.slice a1 L1.length c1) hbudr, ← HN1.out]; rfl
                · rw [← HN1.out]; exact hm1
                · rw [← HN1.out]; exact hN2
                · have := hvn e
                  simp only [Value.slice.injEq] at this
                  exact ⟨this.1, this.2.2⟩
                · rw [hg, HGA.out.1, ← HN1.out]; rfl
                · rw [hb, HGA.out.2, ← HN1.out]; rfl
              have HFIN := Lib.hid hfin
              clear hfin hown hg hb hm1 hl1 hvn hc1 hp1 hapart r1 r3
              go_wp2_with ((with_reducible refine at_op (.store 101 (.tmp 69) (.tmp 67)) rfl ?_); refine wpList_store_cell rfl 101 (.tmp 69) _ rfl ⟨b, 2, none⟩ _ (.slice a1 L1.length c1) rfl rfl (by kernel_rfl) rfl rfl r2 z2 ?_)
              go_end0
              exact HFIN.out
        refine ready_cons (d := some 36) rfl rfl (by rfl) (fun K hK => ?_) AllReadyH.nil
        · have hb2 : Below w4.heap.size w4 ((w4.alloc (.cells #[] 75)).alloc (.cells #[.int .i64 x, .int .i64 y, .int .i64 z] 75)).drew := (((Below.refl w4.heap.size w4).alloc (Nat.le_refl _) (.cells #[] 75)).alloc (by rw [World.size_alloc]; exact Nat.le_succ _) (.cells #[.int .i64 x, .int .i64 y, .int .i64 z] 75)).drew
          go_simp
          refine hK.out _ _ ⟨hb2, HD.out _ hb2⟩ (fun hHeld2 => ?_)
          clear hK K hHeld
          have hHeld := hHeld2
          clear hHeld2
          try simp only [Act.put, List.setIfInBounds_toArray, List.set_cons_zero, List.set_cons_succ]
          refine wpAnyH_ready (rs := [5]) (by kernel_rfl) (by simp) ?_
          refine ready_cons (d := some 34) rfl rfl (by rfl) (fun K hK => ?_) AllReadyH.nil
          have hown1 : (((w4.alloc (.cells #[] 75)).alloc (.cells #[.int .i64 x, .int .i64 y, .int .i64 z] 75)).drew).ownsRow w4.heap.size 75 3 (.slice (some ⟨w4.heap.size, 0, none⟩) 0 0) 0 [] := ownsRow_drew ((World.ownsRow_made w4 #[] 0 (Nat.le_refl _) (Nat.zero_le _) rfl).alloc _)
          have hxb : (((w4.alloc (.cells #[] 75)).alloc (.cells #[.int .i64 x, .int .i64 y, .int .i64 z] 75)).drew).heap[w4.heap.size + 1]? = some (.cells #[.int .i64 x, .int .i64 y, .int .i64 z] 75 (0, 0)) := alloc_at' (w4.alloc (.cells #[] 75)) _ _ (World.size_alloc _ _).symm
          obtain ⟨v1, w1, hr1, ho1, hg1⟩ := app_all hown1 hb2.size (hcn.belowS hb2) HZ.out hlen
          have hb3 := hb2.grown hg1 hb2.size (fun k hk => (hown1.lt k hk).1)
          refine wp_append_run (.tmp 29) (.tmp 33) 101 rfl _ _ v1 w1 rfl rfl (hr1 _) ?_
          refine hK.out _ _ ⟨hb3, HD.out _ hb3⟩ (fun hHeld2 => ?_)
          clear hK K hHeld
          have hHeld := hHeld2
          clear hHeld2
          try simp only [Act.put, List.setIfInBounds_toArray, List.set_cons_zero, List.set_cons_succ]
          have hxne : some (w4.heap.size + 1) ≠ (Value.slice (some ⟨w4.heap.size, 0, none⟩) 0 0).ownBlock := by simp [Value.ownBlock]
          refine wpAnyH_ready (rs := [8]) (by kernel_rfl) (by simp) ?_
          refine ready_cons (d := some 37) rfl rfl (by rfl) (fun K hK => ?_) AllReadyH.nil
          obtain ⟨v2, w2, hr2, ho2, hg2⟩ := app_one ho1 hb3.size (grownBy_cell hg1 (cell_of_block hxb 0) hxne) (grownBy_cell hg1 (cell_of_block hxb 1) hxne) (grownBy_cell hg1 (cell_of_block hxb 2) hxne) hlen
          have hb4 := hb3.grown hg2 hb3.size (fun k hk => (ho1.lt k hk).1)
          refine wp_append_run (.tmp 34) (.tmp 36) 101 rfl _ _ v2 w2 rfl rfl (hr2 _) ?_
          refine hK.out _ _ ⟨hb4, HD.out _ hb4⟩ (fun hHeld2 => ?_)
          clear hK K hHeld
          have hHeld := hHeld2
          clear hHeld2
          try simp only [Act.put, List.setIfInBounds_toArray, List.set_cons_zero, List.set_cons_succ]
          refine take_at (i := 9) (d := some 5) (v := ?_) rfl rfl (by kernel_rfl) (by kernel_rfl) (by kernel_rfl) (fun _ _ _ h => h) (Or.inl ⟨by rfl, fun w hSw => ?_⟩) hHeld ?_
          rotate_left
          · (try dsimp only at hSw); go_simp; try with_reducible rfl
          try simp only [Act.put, List.setIfInBounds_toArray, List.set_cons_zero, List.set_cons_succ]
          refine wpAnyH_done (by kernel_rfl) ?_ _
          have hown5 : w2.ownsRow w4.heap.size 75 3 v2 (L ++ [(x, y, z)]).length (nc (L ++ [(x, y, z)])) := by rw [List.length_append, nc_append]; exact ho2
          have HB4 := Lib.hid hb4
          have hlen5 : (L ++ [(x, y, z)]).length = L.length + 1 := by rw [List.length_append]; rfl
          obtain ⟨aA, cA, hv2, hcA, _, hpA⟩ := own_notes hown5
          subst hv2
          have hmayA : ∀ i, i < (L ++ [(x, y, z)]).length → mayB (gd (L ++ [(x, y, z)]) i).1 (gd (L ++ [(x, y, z)]) i).2.1 (gd (L ++ [(x, y, z)]) i).2.2 ∧ (gd (L ++ [(x, y, z)]) i).1 ≤ max now x := by
            intro i hi
            rw [hlen5] at hi
            by_cases e : i = L.length
            · subst e; rw [gd_last]; exact ⟨⟨m1, m2, m3, m4, m5, m6⟩, by show x ≤ _; omega⟩
            · rw [gd_left (by omega)]
              have := hmay i (by omega)
              exact ⟨this.1, by omega⟩
          have hGA := GL_append (L := L) (x := (x, y, z)) ⟨m1, m2, m3, m4, m5, m6⟩
          unfold GL BL at hGA
          obtain ⟨n1, hn1⟩ : ∃ n1, n1 = (L ++ [(x, y, z)]).length := ⟨_, rfl⟩
          obtain ⟨V, hV⟩ : ∃ V, V = gd (L ++ [(x, y, z)]) := ⟨_, rfl⟩
          obtain ⟨N1, hN1⟩ : ∃ N1, N1 = max now x := ⟨_, rfl⟩
          rw [← hn1] at hcA hmayA hlen5 hGA ⊢
          rw [← hV] at hcA hmayA hGA
          rw [← hN1] at hmayA hbud
          have hN2 : 0 ≤ N1 ∧ N1 ≤ 4611686018427387904 := by omega
          have HA := Lib.hid hmayA
          have HGA := Lib.hid hGA
          have HN1 := Lib.hid hN1
          have HFR := Lib.hid hfr
          have HBU := Lib.hid hbud
          have hn1b : n1 ≤ 1000000001 := by omega
          have hl5 := Lib.hid hlen5
          have hbsz := hb4.size
          have hnn : n1 ≤ 9223372036854775807 := by omega
          have hlb2 : b < w2.heap.size := by omega
          have hpA2 := Lib.hid hpA
          obtain ⟨i0, hi, hz0, hz1, hz2⟩ := info75
          clear hown5 ho2 hr2 hg2 ho1 hr1 hg1 hb4 hmayA hGA hn1 hV hN1 hHeld HD hcn hblk hfr hbud hbd hlen5 hpA
          go_wp2_with fail
          go_loopw [4, 6] (fun v i W => ∃ (j : Nat) (L1 : List Nt), i = .int .i64 j ∧ j ≤ n1 ∧ W.ownsRow w2.heap.size 75 3 v L1.length (nc L1) ∧ GL L1 = cutF (goodN V j) (N1 - s) ∧ BL L1 = cutF (badN V j) (N1 - s) ∧ (∀ i, i < L1.length → mayB (gd L1 i).1 (gd L1 i).2.1 (gd L1 i).2.2 ∧ (gd L1 i).1 ≤ N1) ∧ L1.length ≤ j ∧ (L1 = [] → v = .slice none 0 0) ∧ Below w2.heap.size w2 W) (fun _ i _ => n1 - (intOf i).toNat)
          case atStart => exact ⟨0, [], rfl, by omega, ⟨rfl, Or.inl ⟨rfl, rfl⟩⟩, (cut_none _).symm, (cut_none _).symm, fun i hi => by simp at hi, by simp, fun _ => rfl, Below.refl _ _⟩
          case round =>
            obtain ⟨j, L1, rfl, hj, hown, hg, hb, hm1, hl1, hvn, hbel⟩ := hrel
            have hbudr : wr.heap[b]? = some (.cells (mrV t s a L.length cp N1 true) 103 (0, 0)) := by rw [hbel.block b hlb2, HB4.out.block b hlb]; exact HBU.out
            have r1 := cell_of_block hbudr 1
            have r3 := cell_of_block hbudr 3
            have r1' : wr.cell? ⟨b, 1, none⟩ = some (.int .i64 s) := r1
            have r3' : wr.cell? ⟨b, 3, none⟩ = some (.int .i64 N1) := r3
            have HO := Lib.hid hown
            have HG := Lib.hid (And.intro hg (And.intro hb (And.intro hm1 (And.intro hl1 hvn))))
            by_cases hlt : j < n1
            · have i1 : (j : Int) < (n1 : Int) := by omega
              obtain ⟨pp, rfl, hD⟩ := hcA (by omega)
              obtain ⟨e1, e2, e3⟩ := hD j hlt
              have f1 := (hbel.cell (block_lt e1)).trans e1
              have f2 := (hbel.cell (p := ⟨(pp.add (j * 3)).block, (pp.add (j * 3)).off + 1, none⟩) (block_lt e2)).trans e2
              have f3 := (hbel.cell (p := ⟨(pp.add (j * 3)).block, (pp.add (j * 3)).off + 2, none⟩) (block_lt e3)).trans e3
              obtain ⟨hmj, hlej⟩ := HA.out j hlt
              have hG1 : goodN V (j + 1) = addAt (goodN V j) (V j).1 (V j).2.1 := by rw [goodN, if_pos hmj]
              have hB1 : badN V (j + 1) = addAt (badN V j) (V j).1 (V j).2.2 := by rw [badN, if_pos hmj]
              have hr0 := hmj.1
              have hr1 := hmj.2.1
              have HMJ := Lib.hid (And.intro hmj hlej)
              by_cases hin : N1 - s < (V j).1
              · have HN := Lib.hid (show GL (L1 ++ [V j]) = cutF (goodN V (j + 1)) (N1 - s) ∧ BL (L1 ++ [V j]) = cutF (badN V (j + 1)) (N1 - s) by
                  obtain ⟨q1, q2⟩ := GL_append (L := L1) (x := V j) hmj
                  rw [q1, q2, hG1, hB1, cut_add, cut_add, if_pos hin, if_pos hin, hg, hb]; exact ⟨rfl, rfl⟩)
                clear e1 e2 e3 hD hmj hlej hown hg hb hm1 hl1 hvn hG1 hB1 r1 r3
                go_wp2_with fail
                go_quiet (fail)
                have f1' : (wr.drewN nq).cell? _ = _ := f1
                have f2' : (wr.drewN nq).cell? _ = _ := f2
                have f3' : (wr.drewN nq).cell? _ = _ := f3
                have hbel2 := below_dN (n := nq) hbel
                have HO2 := Lib.hid (show (wr.drewN nq).ownsRow w2.heap.size 75 3 _ L1.length (nc L1) from HO.out)
                have hbs := hbel2.size
                clear f1 f2 f3 r1' r3' hbel hbudr
                generalize wr.drewN nq = wx at *
                go_wp2_with (at_builtin; refine wpList_append_own _ rfl (.tmp 59) (.tmp 64) 101 rfl w2.heap.size 75 i0 (.agg #[.int .i64 0, .int .i64 0, .int .i64 0]) 3 24 Try.underlying101 hi hz0 hz1 hz2 rfl (by decide) _ _ _ rfl (HO2.out.alloc _) ⟨wx.heap.size, 0, none⟩ 1 1 [.int .i64 (V j).1, .int .i64 (V j).2.1, .int .i64 (V j).2.2] rfl rfl ?cc1 ?cc2 ?cc3 ?cc4 ?cc5 ?_)
                case cc1 => intro m u hu; rcases m with _ | _ | _ | m <;> simp at hu <;> subst hu; exact cell_of_block (alloc_at _ _) 0; exact cell_of_block (alloc_at _ _) 1; exact cell_of_block (alloc_at _ _) 2
                case cc2 => intro u hu; simp at hu; rcases hu with rfl | rfl | rfl <;> rfl
                case cc3 => have := HG.out.2.2.2.1; simp only [maxLen]; omega
                case cc4 => have := HG.out.2.2.2.1; omega
                case cc5 => simp; omega
                intro v' w6 hown6 hg6 hnil
                have hbel6 := (hbel2.alloc hbs _).grown hg6 (by simp; omega) (fun q hq => (HO2.out.lt q hq).1)
                have HO6 := Lib.hid (show w6.ownsRow w2.heap.size 75 3 v' (L1 ++ [V j]).length (nc (L1 ++ [V j])) by rw [List.length_append, nc_append]; exact hown6)
                clear hown6 hg6 hnil hbel2 f1' f2' f3'
                go_wp2_with fail
                go_roundw
                case rel =>
                  obtain ⟨q1, q2, q3, q4, q5⟩ := HG.out
                  refine ⟨j + 1, L1 ++ [V j], by go_num, by omega, HO6.out, HN.out.1, HN.out.2, ?_, by rw [List.length_append, List.length_singleton]; omega, fun e => by simp at e, hbel6⟩
                  intro i hi
                  rw [List.length_append, List.length_singleton] at hi
                  by_cases e : i = L1.length
                  · subst e; rw [gd_last]; exact HMJ.out
                  · rw [gd_left (by omega)]; exact q3 i (by omega)
                case measure => simp [intOf]; omega
              · have HN := Lib.hid (show GL L1 = cutF (goodN V (j + 1)) (N1 - s) ∧ BL L1 = cutF (badN V (j + 1)) (N1 - s) by
                  rw [hG1, hB1, cut_add, cut_add, if_neg hin, if_neg hin]; exact ⟨hg, hb⟩)
                clear e1 e2 e3 hD hmj hlej hown hg hb hm1 hl1 hvn hG1 hB1 r1 r3
                go_wp2_with fail
                go_quiet (fail)
                have hbel2 := below_dN (n := nq) hbel
                have HO2 := Lib.hid (show (wr.drewN nq).ownsRow w2.heap.size 75 3 _ L1.length (nc L1) from HO.out)
                clear f1 f2 f3 r1' r3' hbel hbudr
                generalize wr.drewN nq = wx at *
                go_wp2_with fail
                go_roundw
                case rel =>
                  obtain ⟨q1, q2, q3, q4, q5⟩ := HG.out
                  exact ⟨j + 1, L1, by go_num, by omega, HO2.out, HN.out.1, HN.out.2, q3, by omega, q5, hbel2⟩
                case measure => simp [intOf]; omega
            · have i1 : ¬ ((j : Int) < (n1 : Int)) := by omega
              have hjn : j = n1 := by omega
              subst hjn
              obtain ⟨a1, c1, hv, hc1, _, hp1⟩ := own_notes hown
              subst hv
              have r2 : wr.cell? ⟨b, 2, none⟩ = some (.slice a L.length cp) := cell_of_block hbudr 2
              have z2 := frozen_of_block hbudr 2
              have hapart : ∀ p, a1 = some p → p.block ≠ b := fun p hp => by have := (hp1 p hp).1; omega
              have hfin : TakeP Bq b t s (max now x) L x y z w (.returned (.tuple #[])) (wr.setCell ⟨b, 2, none⟩ (.slice a1 L1.length c1)) := by
                refine ⟨rfl, (HFR.out.trans (Fr.ofBelow HB4.out)).trans ((Fr.ofBelow hbel).setB 2 _), L1, ⟨a1, c1, ⟨s1, s2, ?_, counts_set hc1 hapart 2 _, hapart, by have := hl5.out; omega, ?_, ?_⟩, (fun e => absurd e (by decide)), (fun e => ?_), (fun p hp => by have q1 := (hp1 p hp).1; have q2 := HFR.out.size; omega)⟩, ?_, ?_, by have := hl5.out; omega⟩
                · rw [heap_setCell_same wr b 2 _ 103 (.slice a1 L1.length c1) hbudr, ← HN1.out]; rfl
                · rw [← HN1.out]; exact hm1
                · rw [← HN1.out]; exact hN2
                · have := hvn e
                  simp only [Value.slice.injEq] at this
                  exact ⟨this.1, this.2.2⟩
                · rw [hg, HGA.out.1, ← HN1.out]; rfl
                · rw [hb, HGA.out.2, ← HN1.out]; rfl
              have HFIN := Lib.hid hfin
              clear hfin hown hg hb hm1 hl1 hvn hc1 hp1 hapart r1 r3
              go_wp2_with ((with_reducible refine at_op (.store 101 (.tmp 69) (.tmp 67)) rfl ?_); refine wpList_store_cell rfl 101 (.tmp 69) _ rfl ⟨b, 2, none⟩ _ (.slice a1 L1.length c1) rfl rfl (by kernel_rfl) rfl rfl r2 z2 ?_)
              go_end0
              exact HFIN.out
      refine ready_cons (d := some 36) rfl rfl (by rfl) (fun K hK => ?_) AllReadyH.nil
      · have hb1 : Below w4.heap.size w4 (w4.alloc (.cells #[.int .i64 x, .int .i64 y, .int .i64 z] 75)).drew := ((Below.refl w4.heap.size w4).alloc (Nat.le_refl _) (.cells #[.int .i64 x, .int .i64 y, .int .i64 z] 75)).drew
        go_simp
        refine hK.out _ _ ⟨hb1, HD.out _ hb1⟩ (fun hHeld2 => ?_)
        clear hK K hHeld
        have hHeld := hHeld2
        clear hHeld2
        try simp only [Act.put, List.setIfInBounds_toArray, List.set_cons_zero, List.set_cons_succ]
        refine wpAnyH_ready (rs := [0]) (by kernel_rfl) (by simp) ?_
        refine ready_cons (d := some 29) rfl rfl (by rfl) (fun K hK => ?_) AllReadyH.nil
        have hb2 : Below w4.heap.size w4 ((w4.alloc (.cells #[.int .i64 x, .int .i64 y, .int .i64 z] 75)).alloc (.cells #[] 75)).drew := (((Below.refl w4.heap.size w4).alloc (Nat.le_refl _) (.cells #[.int .i64 x, .int .i64 y, .int .i64 z] 75)).alloc (by rw [World.size_alloc]; exact Nat.le_succ _) (.cells #[] 75)).drew
        go_simp
        refine hK.out _ _ ⟨hb2, HD.out _ hb2⟩ (fun hHeld2 => ?_)
        clear hK K hHeld
        have hHeld := hHeld2
        clear hHeld2
        try simp only [Act.put, List.setIfInBounds_toArray, List.set_cons_zero, List.set_cons_succ]
        have hown0 : (((w4.alloc (.cells #[.int .i64 x, .int .i64 y, .int .i64 z] 75)).alloc (.cells #[] 75)).drew).ownsRow w4.heap.size 75 3 (.slice (some ⟨w4.heap.size + 1, 0, none⟩) 0 0) 0 [] := by
          have q := World.ownsRow_made (base := w4.heap.size) (e := 75) (size := 3) (w4.alloc (.cells #[.int .i64 x, .int .i64 y, .int .i64 z] 75)) #[] 0 (by rw [World.size_alloc]; exact Nat.le_succ _) (Nat.zero_le _) rfl
          rw [World.size_alloc] at q
          exact ownsRow_drew q
        have hxb : (((w4.alloc (.cells #[.int .i64 x, .int .i64 y, .int .i64 z] 75)).alloc (.cells #[] 75)).drew).heap[w4.heap.size]? = some (.cells #[.int .i64 x, .int .i64 y, .int .i64 z] 75 (0, 0)) := (Below.heap_alloc (w4.alloc (.cells #[.int .i64 x, .int .i64 y, .int .i64 z] 75)) _ _ (by rw [World.size_alloc]; exact Nat.lt_succ_self _)).trans (alloc_at w4 _)
        refine wpAnyH_ready (rs := [5]) (by kernel_rfl) (by simp) ?_
        refine ready_cons (d := some 34) rfl rfl (by rfl) (fun K hK => ?_) AllReadyH.nil
        obtain ⟨v1, w1, hr1, ho1, hg1⟩ := app_all hown0 hb2.size (hcn.belowS hb2) HZ.out hlen
        have hb3 := hb2.grown hg1 hb2.size (fun k hk => (hown0.lt k hk).1)
        refine wp_append_run (.tmp 29) (.tmp 33) 101 rfl _ _ v1 w1 rfl rfl (hr1 _) ?_
        refine hK.out _ _ ⟨hb3, HD.out _ hb3⟩ (fun hHeld2 => ?_)
        clear hK K hHeld
        have hHeld := hHeld2
        clear hHeld2
        try simp only [Act.put, List.setIfInBounds_toArray, List.set_cons_zero, List.set_cons_succ]
        have hxne : some w4.heap.size ≠ (Value.slice (some ⟨w4.heap.size + 1, 0, none⟩) 0 0).ownBlock := by simp [Value.ownBlock]
        refine wpAnyH_ready (rs := [8]) (by kernel_rfl) (by simp) ?_
        refine ready_cons (d := some 37) rfl rfl (by rfl) (fun K hK => ?_) AllReadyH.nil
        obtain ⟨v2, w2, hr2, ho2, hg2⟩ := app_one ho1 hb3.size (grownBy_cell hg1 (cell_of_block hxb 0) hxne) (grownBy_cell hg1 (cell_of_block hxb 1) hxne) (grownBy_cell hg1 (cell_of_block hxb 2) hxne) hlen
        have hb4 := hb3.grown hg2 hb3.size (fun k hk => (ho1.lt k hk).1)
        refine wp_append_run (.tmp 34) (.tmp 36) 101 rfl _ _ v2 w2 rfl rfl (hr2 _) ?_
        refine hK.out _ _ ⟨hb4, HD.out _ hb4⟩ (fun hHeld2 => ?_)
        clear hK K hHeld
        have hHeld := hHeld2
        clear hHeld2
        try simp only [Act.put, List.setIfInBounds_toArray, List.set_cons_zero, List.set_cons_succ]
        refine take_at (i := 9) (d := some 5) (v := ?_) rfl rfl (by kernel_rfl) (by kernel_rfl) (by kernel_rfl) (fun _ _ _ h => h) (Or.inl ⟨by rfl, fun w hSw => ?_⟩) hHeld ?_
        rotate_left
        · (try dsimp only at hSw); go_simp; try with_reducible rfl
        try simp only [Act.put, List.setIfInBounds_toArray, List.set_cons_zero, List.set_cons_succ]
        refine wpAnyH_done (by kernel_rfl) ?_ _
        have hown5 : w2.ownsRow w4.heap.size 75 3 v2 (L ++ [(x, y, z)]).length (nc (L ++ [(x, y, z)])) := by rw [List.length_append, nc_append]; exact ho2
        have HB4 := Lib.hid hb4
        have hlen5 : (L ++ [(x, y, z)]).length = L.length + 1 := by rw [List.length_append]; rfl
        obtain ⟨aA, cA, hv2, hcA, _, hpA⟩ := own_notes hown5
        subst hv2
        have hmayA : ∀ i, i < (L ++ [(x, y, z)]).length → mayB (gd (L ++ [(x, y, z)]) i).1 (gd (L ++ [(x, y, z)]) i).2.1 (gd (L ++ [(x, y, z)]) i).2.2 ∧ (gd (L ++ [(x, y, z)]) i).1 ≤ max now x := by
          intro i hi
          rw [hlen5] at hi
          by_cases e : i = L.length
          · subst e; rw [gd_last]; exact ⟨⟨m1, m2, m3, m4, m5, m6⟩, by show x ≤ _; omega⟩
          · rw [gd_left (by omega)]
            have := hmay i (by omega)
            exact ⟨this.1, by omega⟩
        have hGA := GL_append (L := L) (x := (x, y, z)) ⟨m1, m2, m3, m4, m5, m6⟩
        unfold GL BL at hGA
        obtain ⟨n1, hn1⟩ : ∃ n1, n1 = (L ++ [(x, y, z)]).length := ⟨_, rfl⟩
        obtain ⟨V, hV⟩ : ∃ V, V = gd (L ++ [(x, y, z)]) := ⟨_, rfl⟩
        obtain ⟨N1, hN1⟩ : ∃ N1, N1 = max now x := ⟨_, rfl⟩
        rw [← hn1] at hcA hmayA hlen5 hGA ⊢
        rw [← hV] at hcA hmayA hGA
        rw [← hN1] at hmayA hbud
        have hN2 : 0 ≤ N1 ∧ N1 ≤ 4611686018427387904 := by omega
        have HA := Lib.hid hmayA
        have HGA := Lib.hid hGA
        have HN1 := Lib.hid hN1
        have HFR := Lib.hid hfr
        have HBU := Lib.hid hbud
        have hn1b : n1 ≤ 1000000001 := by omega
        have hl5 := Lib.hid hlen5
        have hbsz := hb4.size
        have hnn : n1 ≤ 9223372036854775807 := by omega
        have hlb2 : b < w2.heap.size := by omega
        have hpA2 := Lib.hid hpA
        obtain ⟨i0, hi, hz0, hz1, hz2⟩ := info75
        clear hown5 ho2 hr2 hg2 ho1 hr1 hg1 hb4 hmayA hGA hn1 hV hN1 hHeld HD hcn hblk hfr hbud hbd hlen5 hpA
        go_wp2_with fail
        go_loopw [4, 6] (fun v i W => ∃ (j : Nat) (L1 : List Nt), i = .int .i64 j ∧ j ≤ n1 ∧ W.ownsRow w2.heap.size 75 3 v L1.length (nc L1) ∧ GL L1 = cutF (goodN V j) (N1 - s) ∧ BL L1 = cutF (badN V j) (N1 - s) ∧ (∀ i, i < L1.length → mayB (gd L1 i).1 (gd L1 i).2.1 (gd L1 i).2.2 ∧ (gd L1 i).1 ≤ N1) ∧ L1.length ≤ j ∧ (L1 = [] → v = .slice none 0 0) ∧ Below w2.heap.size w2 W) (fun _ i _ => n1 - (intOf i).toNat)
        case atStart => exact ⟨0, [], rfl, by omega, ⟨rfl, Or.inl ⟨rfl, rfl⟩⟩, (cut_none _).symm, (cut_none _).symm, fun i hi => by simp at hi, by simp, fun _ => rfl, Below.refl _ _⟩
        case round =>
          obtain ⟨j, L1, rfl, hj, hown, hg, hb, hm1, hl1, hvn, hbel⟩ := hrel
          have hbudr : wr.heap[b]? = some (.cells (mrV t s a L.length cp N1 true) 103 (0, 0)) := by rw [hbel.block b hlb2, HB4.out.block b hlb]; exact HBU.out
          have r1 := cell_of_block hbudr 1
          have r3 := cell_of_block hbudr 3
          have r1' : wr.cell? ⟨b, 1, none⟩ = some (.int .i64 s) := r1
          have r3' : wr.cell? ⟨b, 3, none⟩ = some (.int .i64 N1) := r3
          have HO := Lib.hid hown
          have HG := Lib.hid (And.intro hg (And.intro hb (And.intro hm1 (And.intro hl1 hvn))))
          by_cases hlt : j < n1
          · have i1 : (j : Int) < (n1 : Int) := by omega
            obtain ⟨pp, rfl, hD⟩ := hcA (by omega)
            obtain ⟨e1, e2, e3⟩ := hD j hlt
            have f1 := (hbel.cell (block_lt e1)).trans e1
            have f2 := (hbel.cell (p := ⟨(pp.add (j * 3)).block, (pp.add (j * 3)).off + 1, none⟩) (block_lt e2)).trans e2
            have f3 := (hbel.cell (p := ⟨(pp.add (j * 3)).block, (pp.add (j * 3)).off + 2, none⟩) (block_lt e3)).trans e3
            obtain ⟨hmj, hlej⟩ := HA.out j hlt
            have hG1 : goodN V (j + 1) = addAt (goodN V j) (V j).1 (V j).2.1 := by rw [goodN, if_pos hmj]
            have hB1 : badN V (j + 1) = addAt (badN V j) (V j).1 (V j).2.2 := by rw [badN, if_pos hmj]
            have hr0 := hmj.1
            have hr1 := hmj.2.1
            have HMJ := Lib.hid (And.intro hmj hlej)
            by_cases hin : N1 - s < (V j).1
            · have HN := Lib.hid (show GL (L1 ++ [V j]) = cutF (goodN V (j + 1)) (N1 - s) ∧ BL (L1 ++ [V j]) = cutF (badN V (j + 1)) (N1 - s) by
                obtain ⟨q1, q2⟩ := GL_append (L := L1) (x := V j) hmj
                rw [q1, q2, hG1, hB1, cut_add, cut_add, if_pos hin, if_pos hin, hg, hb]; exact ⟨rfl, rfl⟩)
              clear e1 e2 e3 hD hmj hlej hown hg hb hm1 hl1 hvn hG1 hB1 r1 r3
              go_wp2_with fail
              go_quiet (fail)
              have f1' : (wr.drewN nq).cell? _ = _ := f1
              have f2' : (wr.drewN nq).cell? _ = _ := f2
              have f3' : (wr.drewN nq).cell? _ = _ := f3
              have hbel2 := below_dN (n := nq) hbel
              have HO2 := Lib.hid (show (wr.drewN nq).ownsRow w2.heap.size 75 3 _ L1.length (nc L1) from HO.out)
              have hbs := hbel2.size
              clear f1 f2 f3 r1' r3' hbel hbudr
              generalize wr.drewN nq = wx at *
              go_wp2_with (at_builtin; refine wpList_append_own _ rfl (.tmp 59) (.tmp 64) 101 rfl w2.heap.size 75 i0 (.agg #[.int .i64 0, .int .i64 0, .int .i64 0]) 3 24 Try.underlying101 hi hz0 hz1 hz2 rfl (by decide) _ _ _ rfl (HO2.out.alloc _) ⟨wx.heap.size, 0, none⟩ 1 1 [.int .i64 (V j).1, .int .i64 (V j).2.1, .int .i64 (V j).2.2] rfl rfl ?cc1 ?cc2 ?cc3 ?cc4 ?cc5 ?_)
              case cc1 => intro m u hu; rcases m with _ | _ | _ | m <;> simp at hu <;> subst hu; exact cell_of_block (alloc_at _ _) 0; exact cell_of_block (alloc_at _ _) 1; exact cell_of_block (alloc_at _ _) 2
              case cc2 => intro u hu; simp at hu; rcases hu with rfl | rfl | rfl <;> rfl
              case cc3 => have := HG.out.2.2.2.1; simp only [maxLen]; omega
              case cc4 => have := HG.out.2.2.2.1; omega
              case cc5 => simp; omega
              intro v' w6 hown6 hg6 hnil
              have hbel6 := (hbel2.alloc hbs _).grown hg6 (by simp; omega) (fun q hq => (HO2.out.lt q hq).1)
              have HO6 := Lib.hid (show w6.ownsRow w2.heap.size 75 3 v' (L1 ++ [V j]).length (nc (L1 ++ [V j])) by rw [List.length_append, nc_append]; exact hown6)
              clear hown6 hg6 hnil hbel2 f1' f2' f3'
              go_wp2_with fail
              go_roundw
              case rel =>
                obtain ⟨q1, q2, q3, q4, q5⟩ := HG.out
                refine ⟨j + 1, L1 ++ [V j], by go_num, by omega, HO6.out, HN.out.1, HN.out.2, ?_, by rw [List.length_append, List.length_singleton]; omega, fun e => by simp at e, hbel6⟩
                intro i hi
                rw [List.length_append, List.length_singleton] at hi
                by_cases e : i = L1.length
                · subst e; rw [gd_last]; exact HMJ.out
                · rw [gd_left (by omega)]; exact q3 i (by omega)
              case measure => simp [intOf]; omega
            · have HN := Lib.hid (show GL L1 = cutF (goodN V (j + 1)) (N1 - s) ∧ BL L1 = cutF (badN V (j + 1)) (N1 - s) by
                rw [hG1, hB1, cut_add, cut_add, if_neg hin, if_neg hin]; exact ⟨hg, hb⟩)
              clear e1 e2 e3 hD hmj hlej hown hg hb hm1 hl1 hvn hG1 hB1 r1 r3
              go_wp2_with fail
              go_quiet (fail)
              have hbel2 := below_dN (n := nq) hbel
              have HO2 := Lib.hid (show (wr.drewN nq).ownsRow w2.heap.size 75 3 _ L1.length (nc L1) from HO.out)
              clear f1 f2 f3 r1' r3' hbel hbudr
              generalize wr.drewN nq = wx at *
              go_wp2_with fail
              go_roundw
              case rel =>
                obtain ⟨q1, q2, q3, q4, q5⟩ := HG.out
                exact ⟨j + 1, L1, by go_num, by omega, HO2.out, HN.out.1, HN.out.2, q3, by omega, q5, hbel2⟩
              case measure => simp [intOf]; omega
          · have i1 : ¬ ((j : Int) < (n1 : Int)) := by omega
            have hjn : j = n1 := by omega
            subst hjn
            obtain ⟨a1, c1, hv, hc1, _, hp1⟩ := own_notes hown
            subst hv
            have r2 : wr.cell? ⟨b, 2, none⟩ = some (.slice a L.length cp) := cell_of_block hbudr 2
            have z2 := frozen_of_block hbudr 2
            have hapart : ∀ p, a1 = some p → p.block ≠ b := fun p hp => by have := (hp1 p hp).1; omega
            have hfin : TakeP Bq b t s (max now x) L x y z w (.returned (.tuple #[])) (wr.setCell ⟨b, 2, none⟩ (.slice a1 L1.length c1)) := by
              refine ⟨rfl, (HFR.out.trans (Fr.ofBelow HB4.out)).trans ((Fr.ofBelow hbel).setB 2 _), L1, ⟨a1, c1, ⟨s1, s2, ?_, counts_set hc1 hapart 2 _, hapart, by have := hl5.out; omega, ?_, ?_⟩, (fun e => absurd e (by decide)), (fun e => ?_), (fun p hp => by have q1 := (hp1 p hp).1; have q2 := HFR.out.size; omega)⟩, ?_, ?_, by have := hl5.out; omega⟩
              · rw [heap_setCell_same wr b 2 _ 103 (.slice a1 L1.length c1) hbudr, ← HN1.out]; rfl
              · rw [← HN1.out]; exact hm1
              · rw [← HN1.out]; exact hN2
              · have := hvn e
                simp only [Value.slice.injEq] at this
                exact ⟨this.1, this.2.2⟩
              · rw [hg, HGA.out.1, ← HN1.out]; rfl
              · rw [hb, HGA.out.2, ← HN1.out]; rfl
            have HFIN := Lib.hid hfin
            clear hfin hown hg hb hm1 hl1 hvn hc1 hp1 hapart r1 r3
            go_wp2_with ((with_reducible refine at_op (.store 101 (.tmp 69) (.tmp 67)) rfl ?_); refine wpList_store_cell rfl 101 (.tmp 69) _ rfl ⟨b, 2, none⟩ _ (.slice a1 L1.length c1) rfl rfl (by kernel_rfl) rfl rfl r2 z2 ?_)
            go_end0
            exact HFIN.out
end Go.Proofs.Ytmdfkljmgijdlaa
