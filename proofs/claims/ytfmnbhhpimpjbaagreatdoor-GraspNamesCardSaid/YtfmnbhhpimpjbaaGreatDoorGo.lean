/- grasp.Must: the deferred call that recovers; Must of an error of a book, and of no error. -/
import Derived.Test.YtfmnbhhpimpjbaaGreatDoorXd
import Derived.Test.YtfmnbhhpimpjbaaGreatDoorGp
import Derived.RegionTactic
namespace Go.Proofs.YtfmnbhhpimpjbaaGreatDoor
open Go.RowKit
set_option linter.unusedVariables false

theorem results_none' {P : Program} {w : World} {fn : Func} (h : fn.results = #[]) (t : Array Value) : (results fn t).run P w = .ok (.tuple #[]) w := by simp [results, h, go_sem]
def panZ : Array Value := #[.int .i64 0, .string ⟨#[]⟩, .int .i64 0]
def panRt : Array Value := #[.int .i64 2, .string ⟨#[]⟩, .int .i64 0]
def panOf : Option Value → Array Value
  | none => panZ
  | some _ => panRt
set_option maxRecDepth 100000 in
set_option maxHeartbeats 2000000 in
theorem must1_graded {w : World} {pb : Nat} {u : FrameMode} {q : Option Value} (hq : ∀ v, q = some v → ∃ T x, v = .iface T x) (hu : MdIn u q) (hp : w.heap[pb]? = some (.cells panZ 44 (0, 0))) :
    CallsD Tryz.prog 65 #[.pointer (some ⟨pb, 0, none⟩)] u w fun e u' w' => MdIn u' none ∧ e = .returned (.tuple #[]) ∧ Below pb w w' ∧ w'.heap[pb]? = some (.cells (panOf q) 44 (0, 0)) := by
  refine callsD_of_wpK Tryz.func65 rfl fun c0 cs hc0 => ?_
  have hneq : ∀ v, (∃ T x, v = .iface T x) → ∀ w, (binOp .neq 20 v .nilIface).run Tryz.prog w = .ok (.bool true) w := by rintro v ⟨T, x, rfl⟩ w; rfl
  have hneq0 : ∀ w, (binOp .neq 20 .nilIface .nilIface).run Tryz.prog w = .ok (.bool false) w := fun w => rfl
  refine wpK_seq ?_
  refine wpK_region (.inr rfl) ?_
  rw [Tryz.ntmps65]
  simp only [Array.size, List.length]
  rcases md_rec hu c0 cs hc0 with ⟨rfl, hr, hcs⟩ | ⟨v, u', rfl, hr, hu'⟩
  · change wpOpsK _ _ _ _ [0, 1] _ _ _
    refine wpOpsK_none rfl (by rfl) (by rfl) hr ?_
    refine wpOpsK_op rfl (by rfl) (fun K hK => ?_)
    go_simp
    refine hK.out _ _ ?_
    clear hK K
    refine wpK_of_wp ?_
    go_wp2
    exact ⟨.tuple #[], results_none' rfl _, u, hcs, hu, rfl, Below.refl _ _, hp⟩
  · obtain ⟨T, x, rfl⟩ := hq v rfl
    have hx := hneq _ ⟨T, x, rfl⟩
    have hc := fun i => cell_of_block hp i
    have k0 : w.cell? ⟨pb, 0, none⟩ = some (.int .i64 0) := hc 0
    have k1 : w.cell? ⟨pb, 1, none⟩ = some (.string ⟨#[]⟩) := hc 1
    have k2 : w.cell? ⟨pb, 2, none⟩ = some (.int .i64 0) := hc 2
    have kf : ∀ i, w.frozen? ⟨pb, i, none⟩ = false := fun i => frozen_of_block hp i
    have HP := Lib.hid hp
    clear hc hp
    change wpOpsK _ _ _ _ [0, 1] _ _ _
    refine wpOpsK_some rfl (by rfl) (by rfl) hr ?_
    refine wpOpsK_op rfl (by rfl) (fun K hK => ?_)
    go_simp
    refine hK.out _ _ ?_
    clear hK K
    refine wpK_of_wp ?_
    go_wp2
    refine ⟨.tuple #[], results_none' rfl _, u', rfl, hu', rfl, ?_, ?_⟩
    · refine Below.setCell (Below.setCell (Below.setCell (Below.refl pb w) ?_ _) ?_ _) ?_ _ <;> exact Nat.le_refl pb
    · rw [heap_setCell_same _ pb 2 _ _ _ (heap_setCell_same _ pb 1 _ _ _ (heap_setCell_same _ pb 0 _ _ _ HP.out))]; rfl
set_option maxRecDepth 100000 in
theorem must_end_graded {pb : Nat} {W : World} {u : FrameMode} {q : Option Value} {t : Array Value} {Q : Ending → World → Prop} (hq : ∀ v, q = some v → ∃ T x, v = .iface T x) (hu : MdOut u q) (ht : t.getD 5 undef = .pointer (some ⟨pb, 0, none⟩)) (hp : W.heap[pb]? = some (.cells panZ 44 (0, 0)))
    (hQ : ∀ w', Below pb W w' → Q (.returned (.tuple #[t.getD 4 undef, .agg (panOf q), t.getD 6 undef])) w') : Leaves Tryz.prog Tryz.f40 t Q [{ target := .fn (.func 65) #[.pointer (some ⟨pb, 0, none⟩)], args := #[] }] u W := by
  refine leaves_cons (f := 65) (args := #[.pointer (some ⟨pb, 0, none⟩)]) hu.ne (by rfl) ((must1_graded hq hu.inn hp).mono ?_)
  rintro e u' w' ⟨hm, rfl, hb, hp'⟩
  have h2 : settle u' = .returning := settle_md hm
  show Leaves _ _ _ _ [] (settle u') _
  rw [h2]
  exact ⟨_, results_trt rfl t _ pb 44 (panOf q) (0, 0) _ ht hp' Tryz.underlying44 rfl (by cases q <;> kernel_rfl), hQ _ hb⟩
set_option maxRecDepth 100000 in
set_option maxHeartbeats 2000000 in
/-- Must of what is one. -/
theorem must_graded_yes {D : Nat → Prop} {base bb : Nat} {v : Value} {rows : List BRow} (h : Int) (w : World) (hB : BookIn D w base bb v rows) (hE : atE rows.length h = 0) (x : Value)
    (hx : ∀ w, (Instr.typeAssert (errAt rows h) 20 95 false).run Tryz.prog w = .ok x w) :
    Calls Tryz.prog 40 #[.pointer (some ⟨bb, 0, none⟩), .int .i64 h] w fun e w' => e = .returned (.tuple #[x, .agg panZ, .int .i64 0]) ∧ Below w.heap.size w w' := by
  have hmf : ∀ (fn : Fn) (first cap : Array Value) (w : World), (Instr.makeFunc fn first cap).run Tryz.prog w = .ok (.func fn first cap) w := fun _ _ _ _ => rfl
  have hb1 : Below w.heap.size w (w.alloc (.cells panZ 44)) := (Below.refl _ _).alloc (Nat.le_refl _) _
  have HV := Lib.hid (value_any h _ (hB.below hb1))
  rw [hE] at HV
  have HB1 := Lib.hid hb1
  have HP1 := Lib.hid (alloc_at w (.cells panZ 44))
  generalize errAt rows h = ex at *
  clear hB hb1 hE
  unfold panZ at HV
  go_enter_defers Tryz.func40, Tryz.ntmps40
  go_wp2_with fail
  refine HV.out.mono ?_
  rintro e w2 ⟨rfl, hb2⟩
  have HP2 := Lib.hid ((hb2.block _ (by simp)).trans HP1.out)
  have HB2 := Lib.hid (HB1.out.trans (hb2.mono (by simp)))
  have hc := fun i => cell_of_block HP2.out i
  have k0 : w2.cell? ⟨w.heap.size, 0, none⟩ = some (.int .i64 0) := hc 0
  have k1 : w2.cell? ⟨w.heap.size, 1, none⟩ = some (.string ⟨#[]⟩) := hc 1
  have k2 : w2.cell? ⟨w.heap.size, 2, none⟩ = some (.int .i64 0) := hc 2
  have kf : ∀ i, w2.frozen? ⟨w.heap.size, i, none⟩ = false := fun i => frozen_of_block HP2.out i
  clear hb2 HV hc
  go_wp2
  go_region
  all_goals go_wp2
  refine must_end_graded (q := none) (by intro v h; cases h) (u := .returning) rfl rfl ?_ ?_
  · refine (heap_setCell_same _ w.heap.size 2 _ _ _ (heap_setCell_same _ w.heap.size 1 _ _ _ (heap_setCell_same _ w.heap.size 0 _ _ _ HP2.out))).trans ?_
    rfl
  · intro w' hb
    refine ⟨rfl, Below.trans (Below.drew ?_) hb⟩
    refine Below.setCell (Below.setCell (Below.setCell HB2.out ?_ _) ?_ _) ?_ _ <;> exact Nat.le_refl w.heap.size
end Go.Proofs.YtfmnbhhpimpjbaaGreatDoor
