/- grasp.Must of any: of no error it panics. -/
import Derived.Test.YtfmnbhhpimpjbaaGreatDoorGo
namespace Go.Proofs.YtfmnbhhpimpjbaaGreatDoor
open Go.RowKit
set_option linter.unusedVariables false

set_option maxRecDepth 100000 in
set_option maxHeartbeats 2000000 in
theorem must1_any {w : World} {pb : Nat} {u : FrameMode} {q : Option Value} (hq : ∀ v, q = some v → ∃ T x, v = .iface T x) (hu : MdIn u q) (hp : w.heap[pb]? = some (.cells panZ 44 (0, 0))) :
    CallsD Tryz.prog 66 #[.pointer (some ⟨pb, 0, none⟩)] u w fun e u' w' => MdIn u' none ∧ e = .returned (.tuple #[]) ∧ Below pb w w' ∧ w'.heap[pb]? = some (.cells (panOf q) 44 (0, 0)) := by
  refine callsD_of_wpK Tryz.func66 rfl fun c0 cs hc0 => ?_
  have hneq : ∀ v, (∃ T x, v = .iface T x) → ∀ w, (binOp .neq 20 v .nilIface).run Tryz.prog w = .ok (.bool true) w := by rintro v ⟨T, x, rfl⟩ w; rfl
  have hneq0 : ∀ w, (binOp .neq 20 .nilIface .nilIface).run Tryz.prog w = .ok (.bool false) w := fun w => rfl
  refine wpK_seq ?_
  refine wpK_region (.inr rfl) ?_
  rw [Tryz.ntmps66]
  simp only [Array.size, List.length]
  rcases md_rec hu c0 cs hc0 with ⟨rfl, hr, hcs⟩ | ⟨v, u', rfl, hr, hu'⟩
  · change wpOpsK _ _ _ _ [0, 1] _ _ _
    refine wpOpsK_none rfl (by rfl) (by rfl) hr ?_
    refine wpOpsK_op rfl (by rfl) (fun K hK => ?_)
    go_simp
    refine hK.out _ _ ?_
    clear hK K
    refine wpK_of_wp ?_
    go_wp2
    exact ⟨.tuple #[], results_none' rfl _, u, hcs, hu, rfl, Below.refl _ _, hp⟩
  · obtain ⟨T, x, rfl⟩ := hq v rfl
    have hx := hneq _ ⟨T, x, rfl⟩
    have hc := fun i => cell_of_block hp i
    have k0 : w.cell? ⟨pb, 0, none⟩ = some (.int .i64 0) := hc 0
    have k1 : w.cell? ⟨pb, 1, none⟩ = some (.string ⟨#[]⟩) := hc 1
    have k2 : w.cell? ⟨pb, 2, none⟩ = some (.int .i64 0) := hc 2
    have kf : ∀ i, w.frozen? ⟨pb, i, none⟩ = false := fun i => frozen_of_block hp i
    have HP := Lib.hid hp
    clear hc hp
    change wpOpsK _ _ _ _ [0, 1] _ _ _
    refine wpOpsK_some rfl (by rfl) (by rfl) hr ?_
    refine wpOpsK_op rfl (by rfl) (fun K hK => ?_)
    go_simp
    refine hK.out _ _ ?_
    clear hK K
    refine wpK_of_wp ?_
    go_wp2
    refine ⟨.tuple #[], results_none' rfl _, u', rfl, hu', rfl, ?_, ?_⟩
    · refine Below.setCell (Below.setCell (Below.setCell (Below.refl pb w) ?_ _) ?_ _) ?_ _ <;> exact Nat.le_refl pb
    · rw [heap_setCell_same _ pb 2 _ _ _ (heap_setCell_same _ pb 1 _ _ _ (heap_setCell_same _ pb 0 _ _ _ HP.out))]; rfl
set_option maxRecDepth 100000 in
theorem must_end_any {pb : Nat} {W : World} {u : FrameMode} {q : Option Value} {t : Array Value} {Q : Ending → World → Prop} (hq : ∀ v, q = some v → ∃ T x, v = .iface T x) (hu : MdOut u q) (ht : t.getD 5 undef = .pointer (some ⟨pb, 0, none⟩)) (hp : W.heap[pb]? = some (.cells panZ 44 (0, 0)))
    (hQ : ∀ w', Below pb W w' → Q (.returned (.tuple #[t.getD 4 undef, .agg (panOf q), t.getD 6 undef])) w') : Leaves Tryz.prog Tryz.f41 t Q [{ target := .fn (.func 66) #[.pointer (some ⟨pb, 0, none⟩)], args := #[] }] u W := by
  refine leaves_cons (f := 66) (args := #[.pointer (some ⟨pb, 0, none⟩)]) hu.ne (by rfl) ((must1_any hq hu.inn hp).mono ?_)
  rintro e u' w' ⟨hm, rfl, hb, hp'⟩
  have h2 : settle u' = .returning := settle_md hm
  show Leaves _ _ _ _ [] (settle u') _
  rw [h2]
  exact ⟨_, results_trt rfl t _ pb 44 (panOf q) (0, 0) _ ht hp' Tryz.underlying44 rfl (by cases q <;> kernel_rfl), hQ _ hb⟩
set_option maxRecDepth 100000 in
set_option maxHeartbeats 2000000 in
/-- Must of no error: the panic. -/
theorem must_any_no {D : Nat → Prop} {base bb : Nat} {v : Value} {rows : List BRow} (w : World) (hB : BookIn D w base bb v rows) :
    Calls Tryz.prog 41 #[.pointer (some ⟨bb, 0, none⟩), .int .i64 0] w fun e w' => e = .returned (.tuple #[.nilIface, .agg panRt, .int .i64 0]) ∧ Below w.heap.size w w' := by
  have hmf : ∀ (fn : Fn) (first cap : Array Value) (w : World), (Instr.makeFunc fn first cap).run Tryz.prog w = .ok (.func fn first cap) w := fun _ _ _ _ => rfl
  have hb1 : Below w.heap.size w (w.alloc (.cells panZ 44)) := (Below.refl _ _).alloc (Nat.le_refl _) _
  have HV := Lib.hid (value_any 0 _ (hB.below hb1))
  have hE : atE rows.length 0 = 0 := by unfold atE; rw [if_pos (by omega)]
  have he : errAt rows 0 = .nilIface := by unfold errAt; rw [if_pos (by omega)]
  rw [hE, he] at HV
  have HB1 := Lib.hid hb1
  have HP1 := Lib.hid (alloc_at w (.cells panZ 44))
  clear hB hb1 hE he
  unfold panZ at HV
  go_enter_defers Tryz.func41, Tryz.ntmps41
  go_wp2_with fail
  refine HV.out.mono ?_
  rintro e w2 ⟨rfl, hb2⟩
  have HP2 := Lib.hid ((hb2.block _ (by simp)).trans HP1.out)
  have HB2 := Lib.hid (HB1.out.trans (hb2.mono (by simp)))
  obtain ⟨x, w3, hb, hbel⟩ : ∃ x w', (Instr.typeAssert .nilIface 20 20 false).run Tryz.prog w2 = .halt (.panic (.iface 15 x)) w' ∧ Below w2.heap.size w2 w' := by
    simp [Instr.typeAssert, run_underlying Tryz.underlying20, runtimePanic, goPanic, elemOf, newVar, go_sem]
    exact ⟨_, _, ⟨rfl, rfl⟩, (Below.refl _ _).alloc (Nat.le_refl _) _⟩
  have HP3 := Lib.hid ((hbel.block _ (lt_of_at HP2.out)).trans HP2.out)
  have HB3 := Lib.hid (HB2.out.trans (hbel.mono HB2.out.size))
  clear hb2 HV hbel
  go_wp2
  refine must_end_any (q := some (.iface 15 x)) (by intro v h; cases h; exact ⟨_, _, rfl⟩) (u := .panicking _) ⟨[], rfl, fun y hy => by simp at hy⟩ rfl HP3.out ?_
  intro w' hb
  exact ⟨rfl, HB3.out.trans hb⟩
end Go.Proofs.YtfmnbhhpimpjbaaGreatDoor
