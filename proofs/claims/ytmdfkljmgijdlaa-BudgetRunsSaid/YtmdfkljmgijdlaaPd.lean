/- A note. -/
import Derived.Test.YtmdfkljmgijdlaaPc
namespace Go.Proofs.Ytmdfkljmgijdlaa
open Go.RowKit
set_option linter.unusedVariables false

/-- May it be noted? -/
def mayB (x g b : Int) : Prop := 0 ≤ x ∧ x ≤ 4611686018427387904 ∧ 0 ≤ g ∧ g ≤ 2147483647 ∧ 0 ≤ b ∧ b ≤ 2147483647
instance (x g b : Int) : Decidable (mayB x g b) := by unfold mayB; infer_instance

set_option maxRecDepth 100000 in
theorem note_arg (w : World) (b : Nat) (x y z : Int) (hm : ¬ mayB x y z) :
    Calls Try.prog 20 #[.pointer (some ⟨b, 0, none⟩), .int .i64 x, .int .i64 y, .int .i64 z] w fun e w' => e = .returned (.int .i64 1) ∧ w = w' := by
  unfold mayB at hm
  by_cases h1 : x < 0
  · clear hm
    go_enter Try.func20, Try.ntmps20
    go_wp2
    go_ret
    exact ⟨rfl, rfl⟩
  by_cases h2 : 4611686018427387904 < x
  · clear hm
    go_enter Try.func20, Try.ntmps20
    go_wp2
    go_ret
    exact ⟨rfl, rfl⟩
  by_cases h3 : y < 0
  · clear hm
    go_enter Try.func20, Try.ntmps20
    go_wp2
    go_ret
    exact ⟨rfl, rfl⟩
  by_cases h4 : 2147483647 < y
  · clear hm
    go_enter Try.func20, Try.ntmps20
    go_wp2
    go_ret
    exact ⟨rfl, rfl⟩
  by_cases h5 : z < 0
  · clear hm
    go_enter Try.func20, Try.ntmps20
    go_wp2
    go_ret
    exact ⟨rfl, rfl⟩
  have h6 : 2147483647 < z := by omega
  clear hm
  go_enter Try.func20, Try.ntmps20
  go_wp2
  go_ret
  exact ⟨rfl, rfl⟩

set_option maxRecDepth 100000 in
theorem note_past {w : World} {b g t s : Nat} {now : Int} {fg fb : Int → Int} (h : BG w b g t s now true fg fb) (x y z : Int) (hm : mayB x y z) (hp : x ≤ now - s) :
    Calls Try.prog 20 #[.pointer (some ⟨b, 0, none⟩), .int .i64 x, .int .i64 y, .int .i64 z] w fun e w' => e = .returned (.int .i64 261) ∧ ∃ n, w' = w.drewN n := by
  obtain ⟨m1, m2, m3, m4, m5, m6⟩ := hm
  obtain ⟨rg, rb, h, hi⟩ := h
  have s1 := h.s1
  have s2 := h.s2
  have hr := hi.range
  obtain ⟨c0, c1, c2, c3⟩ := h.cells
  have i1 : ¬ (x < 0) := by omega
  have i2 : ¬ (4611686018427387904 < x) := by omega
  have i3 : ¬ (y < 0) := by omega
  have i4 : ¬ (2147483647 < y) := by omega
  have i5 : ¬ (z < 0) := by omega
  have i6 : ¬ (2147483647 < z) := by omega
  clear hi h
  go_enter Try.func20, Try.ntmps20
  go_wp2
  go_quiet (fail)
  go_wp2
  go_ret
  exact ⟨rfl, nq, rfl⟩

set_option maxRecDepth 100000 in
theorem note_ok {w : World} {b g t s : Nat} {now : Int} {m : Bool} {fg fb : Int → Int} (h : BG w b g t s now m fg fb) (x y z : Int) (hm : mayB x y z) (hp : m = false ∨ now - s < x) :
    Calls Try.prog 20 #[.pointer (some ⟨b, 0, none⟩), .int .i64 x, .int .i64 y, .int .i64 z] w fun e w' => e = .returned (.int .i64 0) ∧ BG w' b g t s (max now x) true (addAt fg x y) (addAt fb x z) ∧ Fr b g w w' := by
  obtain ⟨m1, m2, m3, m4, m5, m6⟩ := hm
  have hb := h
  obtain ⟨rg, rb, h, hi⟩ := h
  have s1 := h.s1
  have s2 := h.s2
  have hr := hi.range
  have hn : m = false → now = 0 := fun e => (hi.none e).1
  obtain ⟨c0, c1, c2, c3⟩ := h.cells
  have i1 : ¬ (x < 0) := by omega
  have i2 : ¬ (4611686018427387904 < x) := by omega
  have i3 : ¬ (y < 0) := by omega
  have i4 : ¬ (2147483647 < y) := by omega
  have i5 : ¬ (z < 0) := by omega
  have i6 : ¬ (2147483647 < z) := by omega
  have key : ∀ n, Calls Try.prog 77 #[.pointer (some ⟨b, 0, none⟩), .int .i64 x] (w.drewN n) fun e w' => e = .returned (.tuple #[]) ∧ BG w' b g t s (max now x) true fg fb ∧ Fr b g (w.drewN n) w' :=
    fun n => reach_any ⟨rg, rb, h.drewN n, hi⟩ x m1 m2
  clear hi
  cases m
  · have hn := hn rfl
    clear hp
    go_enter Try.func20, Try.ntmps20
    go_wp2
    go_quiet (fail)
    clear c0 c1 c2 c3
    go_wp2_with fail
    refine (key nq).mono ?_
    rintro e w1 ⟨rfl, ⟨rg1, rb1, h1, hi1⟩, hf1⟩
    have hf1 := (Fr.drewN (Fr.refl b g w) nq).trans hf1
    clear key hb h
    go_wp2_with fail
    refine (slot_any h1 x m1 m2).mono ?_
    rintro e w2 ⟨rfl, n2, rfl⟩
    have h2 := h1.drewN n2
    have hf2 := hf1.drewN n2
    have hi3 := hi1.add s1 m1 (show x ≤ max now x by omega) (show max now x - s < x by omega) y z
    clear h1 hf1 hi1
    generalize w1.drewN n2 = w3 at *
    have hk := sl_lt s1 x
    generalize sl s x = k at *
    have k0 := h2.good hk
    have z0 := frozen_of_block h2.ring (k * 2)
    have h3 := h2.setGood hk (wrap64 (rg1 k + y))
    have hf3 := hf2.setG (k * 2) (.int .i64 (wrap64 (rg1 k + y)))
    have k1 := h3.bad hk
    have z1 := frozen_of_block h3.ring (k * 2 + 1)
    have h4 := h3.setBad hk (wrap64 (rb1 k + z))
    have hf4 := hf3.setG (k * 2 + 1) (.int .i64 (wrap64 (rb1 k + z)))
    have hh := Lib.hid (show BG _ b g t s (max now x) true (addAt fg x y) (addAt fb x z) ∧ Fr b g w _ from ⟨⟨_, _, h4, hi3⟩, hf4⟩)
    clear h2 h3 h4 hf2 hf3 hf4 hi3
    go_wp2_with (first
      | ((with_reducible refine at_op (.store 3 (.tmp 68) (.tmp 66)) rfl ?_); refine wpList_store_cell rfl 3 (.tmp 68) _ rfl ⟨g, k * 2, none⟩ _ (.int .i64 (wrap64 (rg1 k + y))) rfl rfl (by kernel_rfl) rfl rfl k0 z0 ?_)
      | ((with_reducible refine at_op (.store 3 (.tmp 76) (.tmp 74)) rfl ?_); refine wpList_store_cell rfl 3 (.tmp 76) _ rfl ⟨g, k * 2 + 1, none⟩ _ (.int .i64 (wrap64 (rb1 k + z))) rfl rfl (by kernel_rfl) rfl rfl k1 z1 ?_))
    go_ret
    exact ⟨rfl, hh.out⟩
  · have i7 : ¬ (x ≤ now - s) := by rcases hp with hp | hp; · cases hp
                                    omega
    clear hp hn
    go_enter Try.func20, Try.ntmps20
    go_wp2
    go_quiet (fail)
    clear c0 c1 c2 c3
    go_wp2_with fail
    refine (key nq).mono ?_
    rintro e w1 ⟨rfl, ⟨rg1, rb1, h1, hi1⟩, hf1⟩
    have hf1 := (Fr.drewN (Fr.refl b g w) nq).trans hf1
    clear key hb h
    go_wp2_with fail
    refine (slot_any h1 x m1 m2).mono ?_
    rintro e w2 ⟨rfl, n2, rfl⟩
    have h2 := h1.drewN n2
    have hf2 := hf1.drewN n2
    have hi3 := hi1.add s1 m1 (show x ≤ max now x by omega) (show max now x - s < x by omega) y z
    clear h1 hf1 hi1
    generalize w1.drewN n2 = w3 at *
    have hk := sl_lt s1 x
    generalize sl s x = k at *
    have k0 := h2.good hk
    have z0 := frozen_of_block h2.ring (k * 2)
    have h3 := h2.setGood hk (wrap64 (rg1 k + y))
    have hf3 := hf2.setG (k * 2) (.int .i64 (wrap64 (rg1 k + y)))
    have k1 := h3.bad hk
    have z1 := frozen_of_block h3.ring (k * 2 + 1)
    have h4 := h3.setBad hk (wrap64 (rb1 k + z))
    have hf4 := hf3.setG (k * 2 + 1) (.int .i64 (wrap64 (rb1 k + z)))
    have hh := Lib.hid (show BG _ b g t s (max now x) true (addAt fg x y) (addAt fb x z) ∧ Fr b g w _ from ⟨⟨_, _, h4, hi3⟩, hf4⟩)
    clear h2 h3 h4 hf2 hf3 hf4 hi3
    go_wp2_with (first
      | ((with_reducible refine at_op (.store 3 (.tmp 68) (.tmp 66)) rfl ?_); refine wpList_store_cell rfl 3 (.tmp 68) _ rfl ⟨g, k * 2, none⟩ _ (.int .i64 (wrap64 (rg1 k + y))) rfl rfl (by kernel_rfl) rfl rfl k0 z0 ?_)
      | ((with_reducible refine at_op (.store 3 (.tmp 76) (.tmp 74)) rfl ?_); refine wpList_store_cell rfl 3 (.tmp 76) _ rfl ⟨g, k * 2 + 1, none⟩ _ (.int .i64 (wrap64 (rb1 k + z))) rfl rfl (by kernel_rfl) rfl rfl k1 z1 ?_))
    go_ret
    exact ⟨rfl, hh.out⟩
end Go.Proofs.Ytmdfkljmgijdlaa
