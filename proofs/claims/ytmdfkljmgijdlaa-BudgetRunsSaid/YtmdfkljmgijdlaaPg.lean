/- A ring cloned; merging. -/
import Derived.Test.YtmdfkljmgijdlaaPf
import Derived.Test.YtmdfkljmgijdlaaK3
import Derived.Lib.SliceRun
namespace Go.Proofs.Ytmdfkljmgijdlaa
open Go.RowKit
set_option linter.unusedVariables false

set_option maxRecDepth 100000 in
theorem ring_clone {w : World} {b g t s : Nat} {now : Int} {m : Bool} {rg rb : Nat → Int} (h : BR w b g t s now m rg rb) :
    Calls Try.prog 89 #[.slice (some ⟨g, 0, none⟩) s s] w fun e w' => ∃ g' cp, e = .returned (.slice (some ⟨g', 0, none⟩) s cp) ∧ w'.ownsRow w.heap.size 161 2 (.slice (some ⟨g', 0, none⟩) s cp) s (ringV s rg rb).toList ∧ Below w.heap.size w w' := by
  have q22 : ∀ (w : World) (a : Option Addr) (n c n' c' : Nat), (binOp .eql 154 (.slice a n c) (.slice none n' c')).run Try.prog w = .ok (.bool a.isNone) w := fun w a n c n' c' => Lib.run_eql_slice_nil w _ _ a n c n' c' Try.underlying154
  obtain ⟨i0, hi, hz0, hz1, hz2⟩ := info_parts (show (Try.prog.info? 161).map (fun i => (i.zero, i.size, i.bytes)) = some (some (.agg #[.int .i64 0, .int .i64 0]), 2, 16) by kernel_rfl)
  have s1 := h.s1
  have s2 := h.s2
  have A := Lib.hid h
  clear h
  go_enter Try.func89, Try.ntmps89
  go_wp2_with (at_builtin; refine wpList_append_own _ rfl _ _ 154 rfl w.heap.size 161 i0 (.agg #[.int .i64 0, .int .i64 0]) 2 16 Try.underlying154 hi hz0 hz1 hz2 rfl (by decide) _ _ _ rfl (World.ownsRow_made w #[] 0 (Nat.le_refl _) (Nat.zero_le _) rfl) ⟨g, 0, none⟩ s s (ringV s rg rb).toList rfl ?qc1 ?qc2 ?qc3 ?qc4 ?qc5 ?qc6 ?_)
  case qc1 => simp [ringV_size]
  case qc2 =>
    intro j u hj
    have hh := A.out.ring
    rw [Array.getElem?_toList] at hj
    have e : (⟨g, 0, none⟩ : Addr).add j = ⟨g, j, none⟩ := by rw [Addr.add_lit, Nat.zero_add]
    rw [e, World.cell?_of_block (w := w) (Below.heap_alloc _ _ _ A.out.lt.2), cell_of_block hh j]
    exact hj
  case qc3 => exact ringV_one _ _ _
  case qc4 => unfold maxLen; omega
  case qc5 => omega
  case qc6 => simp
  intro v' w1 hown hgrow hnil
  go_wp2
  go_ret
  have hb := ((Below.refl _ w).alloc (Nat.le_refl _) _).grown hgrow (by simp) (by intro k hk; simp [Value.ownBlock] at hk; omega)
  have ho := hown
  rcases hown.2 with ⟨rfl, h0⟩ | ⟨g', cap, cur, rfl, _⟩
  · omega
  · exact ⟨g', cap, rfl, by simpa using ho, hb⟩

theorem slot_gen {w : World} {b g s cp : Nat} (s1 : 1 ≤ s) (s2 : s ≤ 1024) (c1 : w.cell? ⟨b, 1, none⟩ = some (.slice (some ⟨g, 0, none⟩) s cp)) (x : Int) (hx : 0 ≤ x) (hx2 : x ≤ 4611686018427387904) :
    Calls Try.prog 78 #[.pointer (some ⟨b, 0, none⟩), .int .i64 x] w fun e w' => e = .returned (.pointer (some ⟨g, sl s x * 2, none⟩)) ∧ ∃ n, w' = w.drewN n := by
  obtain ⟨x, rfl⟩ := Int.eq_ofNat_of_zero_le hx
  have e : sl s (x : Int) = x % s := by unfold sl; rfl
  rw [e]
  have hlt : x % s < s := Nat.mod_lt _ (by omega)
  have hne : ((s : Int) == 0) = false := by simp; omega
  go_enter Try.func78, Try.ntmps78
  go_wp2
  go_quiet (fail)
  go_wp2
  go_ret
  exact ⟨rfl, nq, rfl⟩

/-- A pointer to a budget in a block of its own. -/
def PB (w : World) (x b : Nat) : Prop := w.heap[x]? = some (.cells #[.pointer (some ⟨b, 0, none⟩)] 37 (0, 0))

set_option maxRecDepth 100000 in
theorem merge1_no {w : World} {b g t s x : Nat} {now : Int} {m : Bool} {fg fb : Int → Int} (h : BG w b g t s now m fg fb) (hx : PB w x b) (at' u v : Int) (hn : at' ≤ now - s) :
    Calls Try.prog 91 #[.int .i64 at', .agg #[.int .i64 u, .int .i64 v], .pointer (some ⟨x, 0, none⟩)] w fun e w' => e = .returned (.tuple #[]) ∧ Below w.heap.size w w' := by
  obtain ⟨rg, rb, h, hi⟩ := h
  have s1 := h.s1
  have s2 := h.s2
  have hr := hi.range
  have hb : Below w.heap.size w (w.alloc (.cells #[.int .i64 u, .int .i64 v] 161)) := (Below.refl _ _).alloc (Nat.le_refl _) _
  have h2 := h.own hb
  have hx2 : PB (w.alloc (.cells #[.int .i64 u, .int .i64 v] 161)) x b := by unfold PB; rw [hb.block x (Array.getElem?_eq_some_iff.1 hx).1]; exact hx
  have p0 := cell_of_block hx2 0
  obtain ⟨c0, c1, c2, c3⟩ := h2.cells
  have p0' : (w.alloc (.cells #[.int .i64 u, .int .i64 v] 161)).cell? ⟨x, 0, none⟩ = some (.pointer (some ⟨b, 0, none⟩)) := p0
  clear hi h h2 hx hx2 p0
  go_enter Try.func91, Try.ntmps91
  go_wp2
  generalize w.alloc (.cells #[.int .i64 u, .int .i64 v] 161) = w1 at *
  go_quiet (fail)
  go_wp2
  go_end0
  exact ⟨rfl, below_dN hb⟩

set_option maxRecDepth 100000 in
theorem merge1_yes {w : World} {b g t s x : Nat} {now : Int} {rg rb : Nat → Int} (h : BR w b g t s now true rg rb) (hx : PB w x b) (hxb : x ≠ b) (hxg : x ≠ g) (at' u v : Int) (h0 : 0 ≤ at') (h1 : at' ≤ 4611686018427387904) (hr : 0 ≤ now ∧ now ≤ 4611686018427387904) (hn : now - s < at') :
    Calls Try.prog 91 #[.int .i64 at', .agg #[.int .i64 u, .int .i64 v], .pointer (some ⟨x, 0, none⟩)] w fun e w' => e = .returned (.tuple #[]) ∧
      BR w' b g t s now true (upd rg (sl s at') (wrap64 (rg (sl s at') + u))) (upd rb (sl s at') (wrap64 (rb (sl s at') + v))) ∧ Fr b g w w' := by
  have s1 := h.s1
  have s2 := h.s2
  have hl := h.lt
  have hb : Below w.heap.size w (w.alloc (.cells #[.int .i64 u, .int .i64 v] 161)) := (Below.refl _ _).alloc (Nat.le_refl _) _
  have h2 := h.own hb
  have hx2 : PB (w.alloc (.cells #[.int .i64 u, .int .i64 v] 161)) x b := by unfold PB; rw [hb.block x (Array.getElem?_eq_some_iff.1 hx).1]; exact hx
  have e0 : (w.alloc (.cells #[.int .i64 u, .int .i64 v] 161)).cell? ⟨w.heap.size, 0, none⟩ = some (.int .i64 u) := cell_of_block (alloc_at _ _) 0
  have e1 : (w.alloc (.cells #[.int .i64 u, .int .i64 v] 161)).cell? ⟨w.heap.size, 1, none⟩ = some (.int .i64 v) := cell_of_block (alloc_at _ _) 1
  have hf := Fr.ofBelow (b := b) (g := g) hb
  have n1 : w.heap.size ≠ g := by omega
  obtain ⟨p, hp⟩ : ∃ p, p = w.heap.size := ⟨_, rfl⟩
  have p0 : (w.alloc (.cells #[.int .i64 u, .int .i64 v] 161)).cell? ⟨x, 0, none⟩ = some (.pointer (some ⟨b, 0, none⟩)) := cell_of_block hx2 0
  obtain ⟨c0, c1, c2, c3⟩ := h2.cells
  have i1 : ¬ (at' ≤ now - s) := by omega
  clear h hx hx2
  go_enter Try.func91, Try.ntmps91
  go_wp2
  rw [← hp] at e0 e1 n1 ⊢
  have HP := Lib.hid hp
  clear hp hb hl
  generalize w.alloc (.cells #[.int .i64 u, .int .i64 v] 161) = w1 at *
  go_quiet (fail)
  have h3 := h2.drewN nq
  have hf3 := hf.drewN nq
  have p0' : (w1.drewN nq).cell? ⟨x, 0, none⟩ = _ := p0
  have e0' : (w1.drewN nq).cell? ⟨p, 0, none⟩ = _ := e0
  have e1' : (w1.drewN nq).cell? ⟨p, 1, none⟩ = _ := e1
  clear c0 c1 c2 c3 h2 hf p0 e0 e1
  generalize w1.drewN nq = w2 at *
  go_wp2_with fail
  refine (slot_any h3 at' h0 h1).mono ?_
  rintro e w3 ⟨rfl, n3, rfl⟩
  have h4 := h3.drewN n3
  have hf4 := hf3.drewN n3
  have e0 : (w2.drewN n3).cell? ⟨p, 0, none⟩ = _ := e0'
  have e1 : (w2.drewN n3).cell? ⟨p, 1, none⟩ = _ := e1'
  clear h3 hf3 e0' e1' p0'
  generalize w2.drewN n3 = w4 at *
  have hk := sl_lt s1 at'
  generalize hkk : sl s at' = k at *
  have k0 := h4.good hk
  have z0 := frozen_of_block h4.ring (k * 2)
  have h5 := h4.setGood hk (wrap64 (rg k + u))
  have hf5 := hf4.setG (k * 2) (.int .i64 (wrap64 (rg k + u)))
  clear hf4
  go_wp2_with fail
  go_region
  go_wp2_with fail
  have h6 := h5.drew
  have hf6 := hf5.drew
  have e2 : (w4.setCell ⟨g, k * 2, none⟩ (.int .i64 (wrap64 (rg k + u)))).drew.cell? ⟨p, 1, none⟩ = some (.int .i64 v) := by
    have q : (w4.setCell ⟨g, k * 2, none⟩ (.int .i64 (wrap64 (rg k + u)))).cell? ⟨p, 1, none⟩ = w4.cell? ⟨p, 1, none⟩ := World.cell?_of_block (w := w4) (Below.heap_setCell w4 ⟨g, k * 2, none⟩ (.int .i64 (wrap64 (rg k + u))) p n1)
    exact q.trans e1
  clear h5 hf5 e0 e1 z0 k0 h4
  generalize (w4.setCell ⟨g, k * 2, none⟩ (.int .i64 (wrap64 (rg k + u)))).drew = w5 at *
  have k0 := h6.bad hk
  have z0 := frozen_of_block h6.ring (k * 2 + 1)
  have h7 := (h6.setBad hk (wrap64 (rb k + v))).drew
  have hf7 := (hf6.setG (k * 2 + 1) (.int .i64 (wrap64 (rb k + v)))).drew
  clear h6 hf6
  go_region
  go_wp2
  go_end0
  rw [hkk]
  exact ⟨rfl, h7, hf7⟩

/-- The budget from which a merge takes. -/
structure FB (w : World) (f g' s cp : Nat) (now : Int) (rg rb : Nat → Int) : Prop where
  c1 : w.cell? ⟨f, 1, none⟩ = some (.slice (some ⟨g', 0, none⟩) s cp)
  c2 : w.cell? ⟨f, 2, none⟩ = some (.int .i64 now)
  c3 : w.cell? ⟨f, 3, none⟩ = some (.bool true)
  good : ∀ k, k < s → w.cell? ⟨g', k * 2, none⟩ = some (.int .i64 (rg k))
  bad : ∀ k, k < s → w.cell? ⟨g', k * 2 + 1, none⟩ = some (.int .i64 (rb k))
theorem FB.keep {w w' : World} {f g' s cp : Nat} {now : Int} {rg rb : Nat → Int} (h : FB w f g' s cp now rg rb) (h1 : w'.heap[f]? = w.heap[f]?) (h2 : w'.heap[g']? = w.heap[g']?) : FB w' f g' s cp now rg rb :=
  ⟨by rw [World.cell?_of_block (w := w) h1]; exact h.c1, by rw [World.cell?_of_block (w := w) h1]; exact h.c2, by rw [World.cell?_of_block (w := w) h1]; exact h.c3,
    fun k hk => by rw [World.cell?_of_block (w := w) h2]; exact h.good k hk, fun k hk => by rw [World.cell?_of_block (w := w) h2]; exact h.bad k hk⟩

set_option maxRecDepth 100000 in
theorem over_merge {w : World} {b g t s f g' cp x : Nat} {now o : Int} {fg fb hg hb : Int → Int} {rg' rb' : Nat → Int} (h : BG w b g t s now true fg fb) (hF : FB w f g' s cp o rg' rb') (hx : PB w x b)
    (n1 : f ≠ b) (n2 : f ≠ g) (n3 : g' ≠ b) (n4 : g' ≠ g) (n5 : x ≠ b) (n6 : x ≠ g) (ho : o ≤ now) (hi' : RI s o true rg' rb' hg hb) :
    Calls Try.prog 90 #[.pointer (some ⟨f, 0, none⟩), .int .i64 s, .func (.func 91) #[] #[.pointer (some ⟨x, 0, none⟩)]] w fun e w' =>
      e = .returned (.tuple #[]) ∧ BG w' b g t s now true (sumF2 fg hg) (sumF2 fb hb) ∧ Fr b g w w' := by
  have hB := h
  obtain ⟨rg, rb, h, hi⟩ := h
  have s1 := h.s1
  have s2 := h.s2
  have hr := hi.range
  have hr' := hi'.range
  have hf0 := hi.out
  have hh0 := hi'.out
  have lf := block_lt hF.c1
  have lg := block_lt (hF.good 0 s1)
  have lx := (Array.getElem?_eq_some_iff.1 hx).1
  go_enter Try.func90, Try.ntmps90
  go_wp2
  go_loopw [9] (fun i W => ∃ k : Nat, i = .int .i64 k ∧ k ≤ s ∧ BG W b g t s now true (part fg hg o k) (part fb hb o k) ∧ Fr b g w W) (fun i _ => s - (intOf i).toNat)
  case atStart => exact ⟨0, rfl, by omega, by rw [part_zero, part_zero]; exact hB, Fr.refl _ _ _⟩
  case round =>
    clear hB hi h
    obtain ⟨k, rfl, hk, hB, hfr⟩ := hrel
    have hF := hF.keep (hfr.block f lf n1 n2) (hfr.block g' lg n3 n4)
    have hx' : PB wr x b := by unfold PB; rw [hfr.block x lx n5 n6]; exact hx
    obtain ⟨c1, c2, c3, cg, cb⟩ := hF
    by_cases hlt : k < s
    · have i1 : (k : Int) < (s : Int) := by omega
      by_cases hneg : o - k < 0
      · have i2 : ¬ (0 ≤ o - k) := by omega
        obtain ⟨rg, rb, h, hi⟩ := hB
        have hi := hi.partOut ho (Or.inl hneg) hf0 hh0
        go_wp2
        go_roundw
        case rel => exact ⟨k + 1, by go_num, by omega, ⟨rg, rb, h, hi⟩, hfr⟩
        case measure => simp [intOf]; omega
      · have i2 : 0 ≤ o - k := by omega
        have SL := Lib.hid (slot_gen s1 s2 c1 (o - k) i2 (by omega))
        obtain ⟨a1, a2⟩ := hi'.at' (o - k) (by omega) (by omega) i2
        have k0 := cg _ (sl_lt s1 (o - k))
        have k1 := cb _ (sl_lt s1 (o - k))
        rw [a1] at k0
        rw [a2] at k1
        have HB := Lib.hid hB
        have HX := Lib.hid hx'
        clear a1 a2 cg cb hB hx'
        generalize hj : sl s (o - k) = j at *
        have HJ := Lib.hid hj
        clear hj
        go_wp2_with fail
        refine SL.out.mono ?_
        rintro e w2 ⟨rfl, n2, rfl⟩
        have hfr2 := hfr.drewN n2
        have k0' : (wr.drewN n2).cell? _ = _ := k0
        have k1' : (wr.drewN n2).cell? _ = _ := k1
        obtain ⟨rg, rb, h, hi⟩ := HB.out
        have h2 := h.drewN n2
        have hx2 : PB (wr.drewN n2) x b := HX.out
        clear SL k0 k1 c1 c2 c3 hfr h HB HX
        generalize wr.drewN n2 = w3 at *
        go_wp2_with fail
        by_cases hw : o - k ≤ now - s
        · have hi3 := hi.partOut ho (Or.inr hw) hf0 hh0
          refine (merge1_no ⟨rg, rb, h2, hi⟩ hx2 _ _ _ hw).mono ?_
          rintro e w4 ⟨rfl, hbel4⟩
          have h4 := h2.own hbel4
          have hfr4 := hfr2.trans (Fr.ofBelow hbel4)
          clear h2 hfr2 hx2 hbel4 k0' k1'
          go_wp2_with fail
          go_roundw
          case rel => exact ⟨k + 1, by go_num, by omega, ⟨rg, rb, h4, hi3⟩, hfr4⟩
          case measure => simp [intOf]; omega
        · have hi3 := hi.partIn s1 i2 ho (by omega) hf0 hh0
          refine (merge1_yes h2 hx2 n5 n6 _ _ _ i2 (by omega) hr (by omega)).mono ?_
          rintro e w4 ⟨rfl, h4, hfr4⟩
          have hfr4 := hfr2.trans hfr4
          clear h2 hfr2 hx2 k0' k1'
          go_wp2_with fail
          go_roundw
          case rel => exact ⟨k + 1, by go_num, by omega, ⟨_, _, h4, hi3⟩, hfr4⟩
          case measure => simp [intOf]; omega
    · have i1 : ¬ ((k : Int) < (s : Int)) := by omega
      go_wp2
      go_end0
      have : k = s := by omega
      subst this
      obtain ⟨rg, rb, h, hi⟩ := hB
      exact ⟨rfl, ⟨rg, rb, h, hi.partAll ho hf0 hh0⟩, hfr⟩
end Go.Proofs.Ytmdfkljmgijdlaa
