/- kinds.Make of a Join. -/
import Derived.Test.YtfmnbhhpimpjbaaGreatDoorVg
namespace Go.Proofs.YtfmnbhhpimpjbaaGreatDoor
open Go.RowKit
set_option linter.unusedVariables false

set_option maxRecDepth 100000 in
set_option maxHeartbeats 8000000 in
theorem make_join (s : Sp) (hs : s.Ok) (hc : checkF s = 0) (hk : s.kind = 16) (hnil : s.nil = false) (ia : Option Addr) (ic : Nat) (pa : Option Addr) (pc : Nat) (ps : List Value) (hev : ∀ v ∈ ps, EV v) (a : Option Addr) (c : Nat) (ha : NilOk a c) (hl : ps.length = s.parts.length)
    (w : World) (hI : ItemsIn w ia s.items) (hP : ErrsIn w a ps) :
    Calls Tryz.prog 27 #[.agg (spC s ia ic pa pc), .slice a ps.length c] w (Made w s ps) := by
  have HX := Lib.hid (alloc_at w (.cells (spC s ia ic pa pc) 34))
  have hb0 : Below w.heap.size w (w.alloc (.cells (spC s ia ic pa pc) 34)) := (Below.refl _ _).alloc (Nat.le_refl _) _
  have HC := Lib.hid (check_any s hs ia ic pa pc _ (hI.below hb0))
  obtain ⟨hp64, ht4, hi64⟩ := checkF_parts hc
  rw [hc] at HC
  have HP := Lib.hid hP
  have HN := Lib.hid (fun w' h => clone_err a c ps (by omega) ha w' (fun u hu => (hev u hu).one) h)
  have hn : ((s.parts.length : Int) != (s.parts.length : Int)) = false := by simp
  rw [hl] at HN
  rw [hl]
  obtain ⟨kind, nil, text, number, small, re, im, flag, mask, items, parts⟩ := s
  simp only at hnil hk
  subst hnil
  subst hk
  unfold spC at *
  clear hc hI hs hP
  go_enter Tryz.func27, Tryz.ntmps27
  go_wp2_with ((with_reducible refine at_op (.load 34 (.tmp 2)) rfl ?_); refine wpList_load_row rfl 34 (.tmp 2) rfl w.heap.size rfl 34 _ (0, 0) _ HX.out Tryz.underlying34 rfl (by kernel_rfl) ?_)
  refine HC.out.mono ?_
  rintro e w2 ⟨rfl, b2⟩
  have bel2 : Below w.heap.size w w2 := ((Below.refl _ _).alloc (Nat.le_refl _) _).trans (b2.mono (by simp))
  have H2 := Lib.hid ((b2.block w.heap.size (by simp)).trans HX.out)
  have hcell := fun i => cell_of_block H2.out i
  have KN := Lib.hid (HN.out w2 (HP.out.below bel2))
  clear HC b2 HX hb0 HN
  go_wp2_with fail
  refine KN.out.mono ?_
  rintro e w3 ⟨a3, c3, rfl, _, hd, b3⟩
  have bel3 := bel2.trans (b3.mono bel2.size)
  have HD := Lib.hid hd
  have BEL3 := Lib.hid bel3
  have s3 := b3.size
  clear KN b3 hcell hd
  go_wp2
  go_ret2
  refine ⟨_, rfl, ⟨_, _, rfl⟩, .join rfl rfl a3 c3 ⟨by decide, w3.heap.size, rfl, ⟨by have := bel2.size; omega, by simp⟩, by rw [hl]; exact alloc_at _ _⟩ ((HD.out.ev (Ev.of_below ((Below.refl _ _).alloc (Nat.le_refl _) _))).mono fun b hb => ⟨by have := hb.1; have := bel2.size; omega, by have := hb.2; simp; omega⟩), BEL3.out.alloc BEL3.out.size _⟩
end Go.Proofs.YtfmnbhhpimpjbaaGreatDoor
