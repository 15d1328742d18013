/- kinds.Make of a spec that may be, and is not a nothing. -/
import Derived.Test.YtfmnbhhpimpjbaaGreatDoorVf
namespace Go.Proofs.YtfmnbhhpimpjbaaGreatDoor
open Go.RowKit
set_option linter.unusedVariables false

/-- What Make answers. -/
def Made (w : World) (s : Sp) (ps : List Value) (e : Ending) (w' : World) : Prop := ∃ x, e = .returned (.tuple #[x, .int .i64 0]) ∧ (∃ T u, x = .iface T u) ∧ ErrIn (Fresh w w') w' x s ps ∧ Below w.heap.size w w'
theorem Fresh.mono {w w1 w' : World} (h : w.heap.size ≤ w1.heap.size) : ∀ b, Fresh w1 w' b → Fresh w w' b := fun b hb => ⟨Nat.le_trans h hb.1, hb.2⟩

set_option maxRecDepth 100000 in
set_option maxHeartbeats 4000000 in
theorem make_leaf (s : Sp) (hs : s.Ok) (hc : checkF s = 0) (hk : leafK s.kind) (hnil : s.nil = false) (ia : Option Addr) (ic : Nat) (pa : Option Addr) (pc : Nat) (hia : NilOk ia ic) (ps : List Value) (a : Option Addr) (c : Nat) (hl : ps.length = s.parts.length)
    (w : World) (hI : ItemsIn w ia s.items) :
    Calls Tryz.prog 27 #[.agg (spC s ia ic pa pc), .slice a ps.length c] w (Made w s ps) := by
  have HX := Lib.hid (alloc_at w (.cells (spC s ia ic pa pc) 34))
  have hb0 : Below w.heap.size w (w.alloc (.cells (spC s ia ic pa pc) 34)) := (Below.refl _ _).alloc (Nat.le_refl _) _
  have HC := Lib.hid (check_any s hs ia ic pa pc _ (hI.below hb0))
  obtain ⟨hp64, ht4, hi64⟩ := checkF_parts hc
  rw [hc] at HC
  have HL := Lib.hid (fun w' (h : ItemsIn w' ia s.items) => leaf_any s hk hnil (by omega) ps ia ic pa pc hia w' h)
  have HI := Lib.hid hI
  have hn : ((s.parts.length : Int) != (s.parts.length : Int)) = false := by simp
  have i13 : (s.kind == 13) = false := by unfold leafK at hk; simp; omega
  have i14 : (s.kind == 14) = false := by unfold leafK at hk; simp; omega
  have i15 : (s.kind == 15) = false := by unfold leafK at hk; simp; omega
  have i17 : (s.kind == 17) = false := by unfold leafK at hk; simp; omega
  have i20 : (s.kind == 20) = false := by unfold leafK at hk; simp; omega
  have i18 : (s.kind == 18) = false := by unfold leafK at hk; simp; omega
  have i25 : (s.kind == 25) = false := by unfold leafK at hk; simp; omega
  have i16 : (s.kind == 16) = false := by unfold leafK at hk; simp; omega
  have i26 : (s.kind == 26) = false := by unfold leafK at hk; simp; omega
  rw [hl]
  unfold spC at *
  rw [hnil] at *
  clear hc hI hs hk hl
  go_enter Tryz.func27, Tryz.ntmps27
  go_wp2_with ((with_reducible refine at_op (.load 34 (.tmp 2)) rfl ?_); refine wpList_load_row rfl 34 (.tmp 2) rfl w.heap.size rfl 34 _ (0, 0) _ HX.out Tryz.underlying34 rfl (by kernel_rfl) ?_)
  refine HC.out.mono ?_
  rintro e w2 ⟨rfl, b2⟩
  have bel2 : Below w.heap.size w w2 := ((Below.refl _ _).alloc (Nat.le_refl _) _).trans (b2.mono (by simp))
  have H2 := Lib.hid ((b2.block w.heap.size (by simp)).trans HX.out)
  have hcell := fun i => cell_of_block H2.out i
  have KL := Lib.hid (HL.out w2 (HI.out.below bel2))
  clear HC b2 HX hb0 HL
  have HX := H2
  go_wp2_with ((with_reducible refine at_op (.load 34 (.tmp 2)) rfl ?_); refine wpList_load_row rfl 34 (.tmp 2) rfl w.heap.size rfl 34 _ (0, 0) _ HX.out Tryz.underlying34 rfl (by kernel_rfl) ?_)
  refine KL.out.mono ?_
  rintro e w3 ⟨x, rfl, hT, he, b3⟩
  have HE := Lib.hid (he.mono (Fresh.mono (w := w) bel2.size))
  have bel3 := bel2.trans (b3.mono bel2.size)
  clear KL b3 hcell he
  go_wp2
  go_ret2
  exact ⟨x, rfl, hT, HE.out, bel3⟩

end Go.Proofs.YtfmnbhhpimpjbaaGreatDoor
