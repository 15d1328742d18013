/- kinds: the nothing of a kind; Make, where Check refuses, and of Nil. -/
import Derived.Test.YtfmnbhhpimpjbaaGreatDoorTd
import Derived.Test.YtfmnbhhpimpjbaaGreatDoorTv
namespace Go.Proofs.YtfmnbhhpimpjbaaGreatDoor
open Go.RowKit
set_option linter.unusedVariables false

set_option maxRecDepth 100000 in
set_option maxHeartbeats 8000000 in
theorem none_any (s : Sp) (ia : Option Addr) (ic : Nat) (pa : Option Addr) (pc : Nat) (w : World) :
    Calls Tryz.prog 49 #[.agg (spC s ia ic pa pc)] w fun e w' => e = .returned (noneV s.kind) ∧ Below w.heap.size w w' := by
  obtain ⟨kind, nil, text, number, small, re, im, flag, mask, items, parts⟩ := s
  unfold spC
  by_cases h : kind = 6 ∨ kind = 7 ∨ kind = 8 ∨ kind = 9 ∨ kind = 10 ∨ kind = 14 ∨ kind = 16 ∨ kind = 21 ∨ kind = 22 ∨ kind = 23 ∨ kind = 24
  · rcases h with rfl | rfl | rfl | rfl | rfl | rfl | rfl | rfl | rfl | rfl | rfl
    all_goals
      go_enter Tryz.func49, Tryz.ntmps49
      go_wp2
      go_ret
      exact ⟨rfl, (Below.refl _ _).alloc (Nat.le_refl _) _⟩
  · have HF := Lib.hid (show .iface 133 (.pointer none) = noneV kind by
      unfold noneV
      repeat rw [if_neg (by omega)])
    have i6 : (kind == 6) = false := by simp; omega
    have i7 : (kind == 7) = false := by simp; omega
    have i8 : (kind == 8) = false := by simp; omega
    have i9 : (kind == 9) = false := by simp; omega
    have i10 : (kind == 10) = false := by simp; omega
    have i14 : (kind == 14) = false := by simp; omega
    have i16 : (kind == 16) = false := by simp; omega
    have i21 : (kind == 21) = false := by simp; omega
    have i22 : (kind == 22) = false := by simp; omega
    have i23 : (kind == 23) = false := by simp; omega
    have i24 : (kind == 24) = false := by simp; omega
    clear h
    go_enter Tryz.func49, Tryz.ntmps49
    go_wp2
    go_ret
    exact ⟨by rw [← HF.out]; rfl, (Below.refl _ _).alloc (Nat.le_refl _) _⟩

set_option maxRecDepth 100000 in
/-- Make, where Check refuses. -/
theorem make_bad (s : Sp) (hs : s.Ok) (hc : checkF s ≠ 0) (ia : Option Addr) (ic : Nat) (pa : Option Addr) (pc : Nat) (a : Option Addr) (n cp : Nat) (w : World) (hI : ItemsIn w ia s.items) :
    Calls Tryz.prog 27 #[.agg (spC s ia ic pa pc), .slice a n cp] w fun e w' => e = .returned (.tuple #[.nilIface, .int .i64 (checkF s)]) ∧ Below w.heap.size w w' := by
  have HX := Lib.hid (alloc_at w (.cells (spC s ia ic pa pc) 34))
  have hb0 : Below w.heap.size w (w.alloc (.cells (spC s ia ic pa pc) 34)) := (Below.refl _ _).alloc (Nat.le_refl _) _
  have HC := Lib.hid (check_any s hs ia ic pa pc _ (hI.below hb0))
  have hn : (checkF s != 0) = true := by simpa using hc
  unfold spC at *
  generalize checkF s = c at *
  clear hc hI hb0 hs
  go_enter Tryz.func27, Tryz.ntmps27
  go_wp2_with ((with_reducible refine at_op (.load 34 (.tmp 2)) rfl ?_); refine wpList_load_row rfl 34 (.tmp 2) rfl w.heap.size rfl 34 _ (0, 0) _ HX.out Tryz.underlying34 rfl (by kernel_rfl) ?_)
  refine HC.out.mono ?_
  rintro e w2 ⟨rfl, b2⟩
  have bel2 : Below w.heap.size w w2 := ((Below.refl _ _).alloc (Nat.le_refl _) _).trans (b2.mono (by simp))
  clear HC b2
  go_wp2
  go_ret2
  exact ⟨rfl, bel2⟩

set_option maxRecDepth 100000 in
/-- Make, of another number of parts. -/
theorem make_len (s : Sp) (hs : s.Ok) (hc : checkF s = 0) (ia : Option Addr) (ic : Nat) (pa : Option Addr) (pc : Nat) (a : Option Addr) (n cp : Nat) (hne : n ≠ s.parts.length) (hnm : n ≤ 9223372036854775807) (w : World) (hI : ItemsIn w ia s.items) :
    Calls Tryz.prog 27 #[.agg (spC s ia ic pa pc), .slice a n cp] w fun e w' => e = .returned (.tuple #[.nilIface, .int .i64 41]) ∧ Below w.heap.size w w' := by
  have HX := Lib.hid (alloc_at w (.cells (spC s ia ic pa pc) 34))
  have hb0 : Below w.heap.size w (w.alloc (.cells (spC s ia ic pa pc) 34)) := (Below.refl _ _).alloc (Nat.le_refl _) _
  have HC := Lib.hid (check_any s hs ia ic pa pc _ (hI.below hb0))
  rw [hc] at HC
  have hp := hs.parts
  have hn : ((n : Int) != (s.parts.length : Int)) = true := by simpa using fun e => hne (by omega)
  unfold spC at *
  clear hc hI hb0 hs hne
  go_enter Tryz.func27, Tryz.ntmps27
  go_wp2_with ((with_reducible refine at_op (.load 34 (.tmp 2)) rfl ?_); refine wpList_load_row rfl 34 (.tmp 2) rfl w.heap.size rfl 34 _ (0, 0) _ HX.out Tryz.underlying34 rfl (by kernel_rfl) ?_)
  refine HC.out.mono ?_
  rintro e w2 ⟨rfl, b2⟩
  have bel2 : Below w.heap.size w w2 := ((Below.refl _ _).alloc (Nat.le_refl _) _).trans (b2.mono (by simp))
  have H2 := Lib.hid ((b2.block w.heap.size (by simp)).trans HX.out)
  have hcell := fun i => cell_of_block H2.out i
  clear HC b2
  go_wp2
  go_ret2
  exact ⟨rfl, bel2⟩

set_option maxRecDepth 100000 in
/-- Make, of Nil. -/
theorem make_none (s : Sp) (hs : s.Ok) (hc : checkF s = 0) (hnil : s.nil = true) (ia : Option Addr) (ic : Nat) (pa : Option Addr) (pc : Nat) (a : Option Addr) (n cp : Nat) (he : n = s.parts.length) (w : World) (hI : ItemsIn w ia s.items) :
    Calls Tryz.prog 27 #[.agg (spC s ia ic pa pc), .slice a n cp] w fun e w' => e = .returned (.tuple #[noneV s.kind, .int .i64 0]) ∧ Below w.heap.size w w' := by
  have HX := Lib.hid (alloc_at w (.cells (spC s ia ic pa pc) 34))
  have hb0 : Below w.heap.size w (w.alloc (.cells (spC s ia ic pa pc) 34)) := (Below.refl _ _).alloc (Nat.le_refl _) _
  have HC := Lib.hid (check_any s hs ia ic pa pc _ (hI.below hb0))
  rw [hc] at HC
  have hp := hs.parts
  have HN := Lib.hid (none_any s ia ic pa pc)
  subst he
  have hn : ((s.parts.length : Int) != (s.parts.length : Int)) = false := by simp
  obtain ⟨v, hv⟩ : ∃ v, v = noneV s.kind := ⟨_, rfl⟩
  rw [← hv] at HN ⊢
  unfold spC at *
  rw [hnil] at *
  clear hc hI hb0 hs hnil hv
  go_enter Tryz.func27, Tryz.ntmps27
  go_wp2_with ((with_reducible refine at_op (.load 34 (.tmp 2)) rfl ?_); refine wpList_load_row rfl 34 (.tmp 2) rfl w.heap.size rfl 34 _ (0, 0) _ HX.out Tryz.underlying34 rfl (by kernel_rfl) ?_)
  refine HC.out.mono ?_
  rintro e w2 ⟨rfl, b2⟩
  have bel2 : Below w.heap.size w w2 := ((Below.refl _ _).alloc (Nat.le_refl _) _).trans (b2.mono (by simp))
  have H2 := Lib.hid ((b2.block w.heap.size (by simp)).trans HX.out)
  have hcell := fun i => cell_of_block H2.out i
  clear HC b2 HX
  have HX := H2
  go_wp2_with ((with_reducible refine at_op (.load 34 (.tmp 2)) rfl ?_); refine wpList_load_row rfl 34 (.tmp 2) rfl w.heap.size rfl 34 _ (0, 0) _ HX.out Tryz.underlying34 rfl (by kernel_rfl) ?_)
  refine (HN.out _).mono ?_
  rintro e w3 ⟨rfl, b3⟩
  have bel3 := bel2.trans (b3.mono bel2.size)
  clear HN b3 hcell
  go_wp2
  go_ret2
  exact ⟨rfl, bel3⟩
end Go.Proofs.YtfmnbhhpimpjbaaGreatDoor
