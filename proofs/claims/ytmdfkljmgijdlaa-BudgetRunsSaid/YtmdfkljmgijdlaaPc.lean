/- A budget reaches a time. -/
import Derived.Test.YtmdfkljmgijdlaaPb
import Derived.Laws.Tables
namespace Go.Proofs.Ytmdfkljmgijdlaa
open Go.RowKit
set_option linter.unusedVariables false

theorem zero_ring (s : Nat) : Builtin.zeroCells #[.int .i64 0, .int .i64 0] s = ringV s (fun _ => 0) (fun _ => 0) := by
  apply Array.ext_getElem?
  intro i
  rw [ringV_get]
  unfold Builtin.zeroCells
  by_cases h : i < s * 2
  · rw [if_pos h]
    have : i < s * #[Value.int .i64 0, Value.int .i64 0].size := h
    have hr : (Array.range (s * #[Value.int .i64 0, Value.int .i64 0].size))[i]? = some i := Array.getElem?_eq_some_iff.2 ⟨by simpa using h, by simp⟩
    rw [Array.getElem?_map, hr]
    rcases Nat.mod_two_eq_zero_or_one i with e | e <;> simp [e]
  · rw [if_neg h]
    have : ¬ i < s * #[Value.int .i64 0, Value.int .i64 0].size := h
    simp; simpa using this
theorem made_ring (s : Nat) : madeCells #[.int .i64 0, .int .i64 0] (s * 2) = ringV s (fun _ => 0) (fun _ => 0) := by
  rw [← zero_ring]; rfl
theorem ringV_one (s : Nat) (rg rb : Nat → Int) : ∀ v ∈ (ringV s rg rb).toList, v.oneCell' = true := by
  intro v hv
  obtain ⟨i, hi⟩ := List.mem_iff_getElem?.1 hv
  rw [Array.getElem?_toList, ringV_get] at hi
  by_cases h : i < s * 2
  · rw [if_pos h] at hi
    by_cases h2 : i % 2 = 0
    · rw [if_pos h2] at hi; cases hi; rfl
    · rw [if_neg h2] at hi; cases hi; rfl
  · rw [if_neg h] at hi; cases hi

theorem run_clear {w : World} {b g t s : Nat} {now : Int} {m : Bool} {rg rb : Nat → Int} (h : BR w b g t s now m rg rb) (ty : TypeId) :
    (Builtin.clear_ #[154] ty #[.slice (some ⟨g, 0, none⟩) s s]).run Try.prog w = .ok (.tuple #[]) (w.setRow g (ringV s (fun _ => 0) (fun _ => 0))) := by
  have hz : (zeroValue 161).run Try.prog w = .ok (.agg #[.int .i64 0, .int .i64 0]) w := by
    obtain ⟨i, hi, hz⟩ := Option.map_eq_some_iff.1 (show (Try.prog.info? 161).map (fun i => i.zero) = some (some (.agg #[.int .i64 0, .int .i64 0])) by kernel_rfl)
    simp [zeroValue, Sem.run_bind, typeInfo, hi, hz]
  have h1 := h.s1
  have hr := run_storeCells_from (P := Try.prog) g 161 (ringV s (fun _ => 0) (fun _ => 0)).toList 0 _ w h.ring (by simp [ringV_size]) (ringV_one _ _ _)
  simp only [List.take_zero, List.nil_append, Array.toArray_toList] at hr
  obtain ⟨n, rfl⟩ : ∃ n, s = n + 1 := ⟨s - 1, by omega⟩
  have hu : (underlying 154).run Try.prog w = .ok (.slice 161) w := by
    have := Try.underlying154
    rw [run_underlying this]
  simp [Builtin.clear_, Sem.run_bind, hu, hz, Value.cells, zero_ring, hr]
theorem BR.zero {w : World} {b g t s : Nat} {now : Int} {m : Bool} {rg rb : Nat → Int} (h : BR w b g t s now m rg rb) : BR (w.setRow g (ringV s (fun _ => 0) (fun _ => 0))) b g t s now m (fun _ => 0) (fun _ => 0) :=
  ⟨h.ne, h.s1, h.s2, by rw [setRow_other _ _ _ _ h.ne]; exact h.bud, setRow_heap w g _ _ 161 _ h.ring⟩
theorem Fr.zero {b g : Nat} {w w' : World} (h : Fr b g w w') (cs : Array Value) : Fr b g w (w'.setRow g cs) :=
  ⟨h.os, h.tape, h.output, by have := h.size; simpa [World.setRow] using this, fun k h1 h2 h3 => by rw [setRow_other _ _ _ _ h3]; exact h.block k h1 h2 h3⟩

/-- The number in a cell. -/
def cellInt (w : World) (a : Addr) : Int := intOf ((w.cell? a).getD undef)

/-- A budget that has counted. -/
def BG (w : World) (b g t s : Nat) (now : Int) (m : Bool) (fg fb : Int → Int) : Prop := ∃ rg rb, BR w b g t s now m rg rb ∧ RI s now m rg rb fg fb

set_option maxRecDepth 100000 in
theorem reach_none {w : World} {b g t s : Nat} {now : Int} {fg fb : Int → Int} (h : BG w b g t s now false fg fb) (x : Int) (hx : 0 ≤ x) (hx2 : x ≤ 4611686018427387904) :
    Calls Try.prog 77 #[.pointer (some ⟨b, 0, none⟩), .int .i64 x] w fun e w' => e = .returned (.tuple #[]) ∧ BG w' b g t s (max now x) true fg fb ∧ Fr b g w w' := by
  obtain ⟨rg, rb, h, hi⟩ := h
  have hm : max now x = x := by rw [(hi.none rfl).1]; omega
  rw [hm]
  obtain ⟨c0, c1, c2, c3⟩ := h.cells
  have h2 := h.set2 x
  have h3 := h2.set3 true
  have f1 := (Fr.refl b g w).setB 2 (.int .i64 x)
  have f2 := f1.setB 3 (.bool true)
  have hf := Lib.hid (show BG ((w.setCell ⟨b, 2, none⟩ (.int .i64 x)).setCell ⟨b, 3, none⟩ (.bool true)) b g t s x true fg fb ∧ _ from ⟨⟨rg, rb, h3, hi.first h.s1 hx hx2⟩, f2⟩)
  have d3 := h2.cells.2.2.2
  have z2 := frozen_of_block h.bud 2
  have z3 := frozen_of_block h2.bud 3
  clear h h2 h3 f1 f2 hi hm
  go_enter Try.func77, Try.ntmps77
  go_wp2_with (first
    | ((with_reducible refine at_op (.store 2 (.tmp 13) (.tmp 11)) rfl ?_); refine wpList_store_cell rfl 2 (.tmp 13) _ rfl ⟨b, 2, none⟩ _ (.int .i64 x) rfl rfl (by kernel_rfl) rfl rfl c2 z2 ?_)
    | ((with_reducible refine at_op (.store 4 (.tmp 15) (.const (.bool true))) rfl ?_); refine wpList_store_cell rfl 4 (.tmp 15) _ rfl ⟨b, 3, none⟩ _ (.bool true) rfl rfl (by kernel_rfl) rfl rfl d3 z3 ?_))
  refine bodyPost_ret (results_none rfl _ _ _) rfl ?_
  exact ⟨rfl, hf.out⟩

set_option maxRecDepth 100000 in
theorem reach_far {w : World} {b g t s : Nat} {now : Int} {fg fb : Int → Int} (h : BG w b g t s now true fg fb) (x : Int) (hx : 0 ≤ x) (hx2 : x ≤ 4611686018427387904) (hd : (s : Int) ≤ x - now) :
    Calls Try.prog 77 #[.pointer (some ⟨b, 0, none⟩), .int .i64 x] w fun e w' => e = .returned (.tuple #[]) ∧ BG w' b g t s (max now x) true fg fb ∧ Fr b g w w' := by
  obtain ⟨rg, rb, h, hi⟩ := h
  have s1 := h.s1
  have hm : max now x = x := by omega
  have hr1 := hi.range
  rw [hm]
  go_enter Try.func77, Try.ntmps77
  obtain ⟨c0, c1, c2, c3⟩ := h.cells
  go_wp2
  go_quiet (fail)
  have h0 := h.drewN nq
  have hf0 := (Fr.refl b g w).drewN nq
  clear c0 c1 c2 c3 h
  generalize w.drewN nq = w2 at *
  have hcl := fun ty => run_clear h0 ty
  have h2 := h0.zero
  have f1 := hf0.zero (ringV s (fun _ => 0) (fun _ => 0))
  obtain ⟨c0, c1, c2, c3⟩ := h0.cells
  clear h0 hf0
  generalize hW : w2.setRow g (ringV s (fun _ => 0) (fun _ => 0)) = w3 at *
  obtain ⟨d0, d1, d2, d3⟩ := h2.cells
  have z2 := frozen_of_block h2.bud 2
  have h4 := h2.set2 x
  have f4 := f1.setB 2 (.int .i64 x)
  have hf := Lib.hid (show BG (w3.setCell ⟨b, 2, none⟩ (.int .i64 x)) b g t s x true fg fb ∧ _ from ⟨⟨_, _, h4, hi.clear (by omega) hx2⟩, f4⟩)
  have e2 := h4.cells.2.2.1
  clear h2 f1 h4 f4 hi hm hW
  go_wp2_with (first
    | ((with_reducible refine at_op (.store 2 (.tmp 35) (.tmp 33)) rfl ?_); refine wpList_store_cell rfl 2 (.tmp 35) _ rfl ⟨b, 2, none⟩ _ (.int .i64 x) rfl rfl (by kernel_rfl) rfl rfl d2 z2 ?_))
  obtain ⟨w5, hw5⟩ : ∃ w5, w5 = w3.setCell ⟨b, 2, none⟩ (.int .i64 x) := ⟨_, rfl⟩
  rw [← hw5] at e2 hf ⊢
  clear hw5
  have i1 : ¬ (x < x) := by omega
  go_simp
  go_loopw [] (fun W => W = w5) (fun _ => 0)
  case atStart => rfl
  case round =>
    subst hrel
    go_wp2
    go_end0
    exact ⟨rfl, hf.out⟩

set_option maxRecDepth 100000 in
theorem reach_near {w : World} {b g t s : Nat} {now : Int} {fg fb : Int → Int} (h : BG w b g t s now true fg fb) (x : Int) (hx : 0 ≤ x) (hx2 : x ≤ 4611686018427387904) (hd : ¬ (s : Int) ≤ x - now) :
    Calls Try.prog 77 #[.pointer (some ⟨b, 0, none⟩), .int .i64 x] w fun e w' => e = .returned (.tuple #[]) ∧ BG w' b g t s (max now x) true fg fb ∧ Fr b g w w' := by
  obtain ⟨rg, rb, h, hi⟩ := h
  have s1 := h.s1
  have s2 := h.s2
  have hr1 := hi.range
  go_enter Try.func77, Try.ntmps77
  obtain ⟨c0, c1, c2, c3⟩ := h.cells
  go_wp2
  go_quiet (fail)
  have h0 := h.drewN nq
  have hf0 := (Fr.refl b g w).drewN nq
  clear c0 c1 c2 c3 h
  generalize w.drewN nq = w2 at *
  go_wp2
  go_loopw [] (fun W => ∃ now' rg' rb', now ≤ now' ∧ (now' ≤ x ∨ now' = now) ∧ BR W b g t s now' true rg' rb' ∧ RI s now' true rg' rb' fg fb ∧ Fr b g w W) (fun W => (x - cellInt W ⟨b, 2, none⟩).toNat)
  case atStart => exact ⟨now, rg, rb, Int.le_refl _, Or.inr rfl, h0, hi, hf0⟩
  case round =>
    obtain ⟨n, rg', rb', g1, g2, h, hi', hf⟩ := hrel
    obtain ⟨c0, c1, c2, c3⟩ := h.cells
    by_cases hlt : n < x
    · have z2 := frozen_of_block h.bud 2
      have h4 := h.set2 (n + 1)
      have f4 := hf.setB 2 (.int .i64 (n + 1))
      have hi4 := hi'.step s1 (by omega)
      have hn := hi'.range
      have hm : cellInt wr ⟨b, 2, none⟩ = n := by unfold cellInt; rw [c2]; rfl
      go_wp2_with (first
        | ((with_reducible refine at_op (.store 2 (.tmp 48) (.tmp 46)) rfl ?_); refine wpList_store_cell rfl 2 (.tmp 48) _ rfl ⟨b, 2, none⟩ _ (.int .i64 (n + 1)) rfl rfl (by kernel_rfl) rfl rfl c2 z2 ?_))
      refine (slot_any h4 (n + 1) (by omega) (by omega)).mono ?_
      rintro e w' ⟨rfl, nn, rfl⟩
      have h5 := h4.drewN nn
      have f5 := f4.drewN nn
      clear c0 c1 c2 c3 h4 f4 z2 h hf
      generalize (wr.setCell ⟨b, 2, none⟩ (.int .i64 (n + 1))).drewN nn = w4 at *
      have hk := sl_lt s1 (n + 1)
      have k0 := h5.good hk
      have k1 := h5.bad hk
      have z0 := frozen_of_block h5.ring (sl s (n + 1) * 2)
      have z1 := frozen_of_block h5.ring (sl s (n + 1) * 2 + 1)
      have h6 := (h5.setGood hk 0).setBad hk 0
      have f6 := (f5.setG (sl s (n + 1) * 2) (.int .i64 0)).setG (sl s (n + 1) * 2 + 1) (.int .i64 0)
      have hh := Lib.hid (show BR _ b g t s (n + 1) true _ _ ∧ RI s (n + 1) true _ _ fg fb ∧ Fr b g w _ from ⟨h6, hi4, f6⟩)
      clear h5 f5 h6 f6 hi4
      generalize sl s (n + 1) = k at *
      go_wp2
      go_roundw
      case rel =>
        obtain ⟨q1, q2, q3⟩ := hh.out
        exact ⟨n + 1, _, _, by omega, by omega, q1, q2, q3⟩
      case measure =>
        have e : cellInt ((w4.setCell ⟨g, k * 2, none⟩ (.int .i64 0)).setCell ⟨g, k * 2 + 1, none⟩ (.int .i64 0)) ⟨b, 2, none⟩ = n + 1 := by have q := hh.out.1.cells.2.2.1; unfold cellInt; rw [q]; rfl
        rw [hm, e]; omega
    · go_wp2
      go_end0
      have : max now x = n := by omega
      rw [this]
      exact ⟨rfl, ⟨_, _, h, hi'⟩, hf⟩

theorem reach_any {w : World} {b g t s : Nat} {now : Int} {m : Bool} {fg fb : Int → Int} (h : BG w b g t s now m fg fb) (x : Int) (hx : 0 ≤ x) (hx2 : x ≤ 4611686018427387904) :
    Calls Try.prog 77 #[.pointer (some ⟨b, 0, none⟩), .int .i64 x] w fun e w' => e = .returned (.tuple #[]) ∧ BG w' b g t s (max now x) true fg fb ∧ Fr b g w w' := by
  cases m
  · exact reach_none h x hx hx2
  · by_cases hd : (s : Int) ≤ x - now
    · exact reach_far h x hx hx2 hd
    · exact reach_near h x hx hx2 hd
end Go.Proofs.Ytmdfkljmgijdlaa
