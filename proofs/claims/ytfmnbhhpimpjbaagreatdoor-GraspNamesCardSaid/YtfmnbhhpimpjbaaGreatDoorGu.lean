/- GraspNames' walk. -/
import Derived.RangeFuncFrom
import Derived.RangeFuncNested
import Derived.RangeFuncBound
import Derived.RangeFuncCalls
import Derived.RangeFuncLeaves
import Derived.Shelf.Abstract
import Derived.Shelf.RegionOpen
import Derived.OwnWalkIn
import Derived.TacticsInMore
import Derived.LoopNIn
import Derived.LoopIn
import Derived.Test.YtfmnbhhpimpjbaaGreatDoorGt
import Derived.Test.YtfmnbhhpimpjbaaGreatDoorGa
namespace Go.Proofs.YtfmnbhhpimpjbaaGreatDoor
open Go.RowKit Go.Shelf
set_option linter.unusedVariables false
attribute [local go_sem] Oper.semAt_some

theorem wpListIn_store_row {F : Fence} {n : Nat} {P : Program} {ops : Array Oper} {rest : List Oper} {o : Oper} {a : Act} {w : World} {Q : Exit → Act → World → Prop} (hgd : o.guard = none) (ty : TypeId) (x y : Operand) (ho : o.op = .store ty x y)
    (g : Nat) (hx : a.eval x = .pointer (some ⟨g, 0, none⟩)) (cs : Array Value) (hy : a.eval y = .agg cs) (t : TypeId) (cur : Array Value) (hg : w.heap[g]? = some (.cells cur t (0, 0)))
    (hi : (P.info? ty).map (·.size) = some cs.size) (hl : cs.size = cur.size) (h1 : ∀ v ∈ cs.toList, v.oneCell' = true)
    (h : wpListIn F n P ops Q rest (a.put o.dst undef) (w.setRow g cs)) : wpListIn F n P ops Q (o :: rest) a w := by
  refine wpListIn_plain hgd fun K hK => ?_
  unfold Oper.wpIn
  refine ⟨?_, ?_⟩
  · simp [Oper.about, ho]
  · rw [Oper.semAt_plain F _ _ (by rw [ho]; intro c hc'; cases hc')]
    unfold execOp
    simp only [ho, hx, hy, Instr.storeAt, Instr.sureAddr, Sem.run_bind, Sem.run_pure, Result.andThen_ok, run_storeVar_row w g t ty cur cs hg hi hl h1]
    exact hK _ _ h
/-- A guard: the next operation is this one. -/
theorem at_opIn {F : Fence} {n : Nat} {P : Program} {ops : Array Oper} {rest : List Oper} {dst : Option Tmp} {op : Op} {t : TypeId} {pos : String} {after : Array Edge} {gd : Option (Nat × Bool)} {a : Act} {w : World} {Q : Exit → Act → World → Prop} (op' : Op) (_ : op = op')
    (h : wpListIn F n P ops Q (⟨dst, op, t, pos, after, gd⟩ :: rest) a w) : wpListIn F n P ops Q (⟨dst, op, t, pos, after, gd⟩ :: rest) a w := h
theorem wpListIn_store_new {F : Fence} {n : Nat} {P : Program} {ops : Array Oper} {rest : List Oper} {o : Oper} {a : Act} {w : World} {Q : Exit → Act → World → Prop} (hgd : o.guard = none) (ty : TypeId) (x y : Operand) (ho : o.op = .store ty x y)
    (g : Nat) (hb : g = w.heap.size) (t : TypeId) (cur : Array Value) (hx : a.eval x = .pointer (some ⟨g, 0, none⟩)) (cs : Array Value) (hy : a.eval y = .agg cs)
    (hi : (P.info? ty).map (·.size) = some cs.size) (hl : cs.size = cur.size) (h1 : ∀ v ∈ cs.toList, v.oneCell' = true)
    (h : wpListIn F n P ops Q rest (a.put o.dst undef) (w.alloc (.cells cs t))) : wpListIn F n P ops Q (o :: rest) a (w.alloc (.cells cur t)) := by
  refine wpListIn_store_row hgd ty x y ho g hx cs hy t cur (alloc_at' _ _ _ hb) hi hl h1 ?_
  rw [setRow_alloc _ _ _ _ _ hb]; exact h
theorem then_below {w w1 w2 : World} (h : Below w.heap.size w w1) (k : Below w1.heap.size w1 w2) : Below w.heap.size w w2 := h.trans (k.mono h.size)
theorem alloc_below {w w1 : World} (h : Below w.heap.size w w1) (o : Obj) : Below w.heap.size w (w1.alloc o) := h.alloc h.size _

theorem allseq1_stops (n b : Nat) (w : World) (hb : w.cell? ⟨b, 0, none⟩ = some (.slice none 0 0)) : SeqStopsK (α := Empty) Fence.wide n Tryz.prog 37 #[.pointer (some ⟨b, 0, none⟩)] (fun x => x.elim) (fun _ _ => True) (fun xs => xs = []) (fun _ => False) 0 w := by
  intro l J Jx W hW hJ hJx hY h0
  have hb' : W.cell? ⟨b, 0, none⟩ = some (.slice none 0 0) := by rw [hW.cell (block_lt hb)]; exact hb
  refine (callsIn_wide (n := n)).2 ((allseq1_nil _ b W hb').mono ?_)
  rintro e w' ⟨rfl, rfl⟩
  exact ⟨⟨_, rfl⟩, .inl ⟨[], rfl, h0⟩⟩
theorem own_cells {β : Type} (b : Nat) (cs : Array Value) (t : TypeId) (fr : Nat × Nat) : Own (fun (_ : β) (W : World) => W.heap[b]? = some (.cells cs t fr)) := by
  intro s W W' row h hg hr
  rw [hg.block b (Array.getElem?_eq_some_iff.1 h).1 (fun e => by
    obtain ⟨o, h1, h2⟩ := hr b e.symm
    rw [h] at h1; cases h1; cases h2)]
  exact h

set_option maxRecDepth 100000 in
theorem must_err_nil (h : Int) (w : World) : Calls Tryz.prog 13 #[.pointer none, .int .i64 h] w fun e w' => e = .returned (.tuple #[.nilIface, .agg panZ, .int .i64 2]) ∧ Below w.heap.size w w' := by
  have hc := fun i => cell_of_block (alloc_at w (.cells panZ 44)) i
  have HP := Lib.hid (alloc_at w (.cells panZ 44))
  unfold panZ at hc
  have k0 := hc 0
  have k1 := hc 1
  have k2 := hc 2
  clear hc
  go_enter_defers Tryz.func13, Tryz.ntmps13
  go_wp2_with (go_at_call 33; refine (value_nil _ _).mono ?_; rintro e w' ⟨rfl, rfl⟩)
  go_region
  go_wp2
  clear k0 k1 k2
  exact ⟨_, results_trt rfl _ _ w.heap.size 44 panZ (0, 0) _ rfl HP.out Tryz.underlying44 rfl (by kernel_rfl), rfl, ((Below.refl _ _).alloc (Nat.le_refl _) _).drew⟩
set_option maxRecDepth 100000 in
set_option maxHeartbeats 4000000 in
theorem gnames_in (n : Nat) (hn : 3 ≤ n) (w : World) : CallsIn Fence.wide n Tryz.prog 4 #[] w fun e w' => e = .returned (.bool true) ∧ Below w.heap.size w w' := by
  have h1 : 1 ≤ n := by omega
  have hneq : ∀ (f : Fn) (x y : Array Value) (w : World), (binOp .eql 55 (.func f x y) .nilFunc).run Tryz.prog w = .ok (.bool false) w := fun _ _ _ w => by rfl
  have hpn : ∀ w, (binOp .neq 44 (.agg #[.int .i64 0, .string ⟨#[]⟩, .int .i64 0]) (.agg #[.int .i64 0, .string ⟨#[]⟩, .int .i64 0])).run Tryz.prog w = .ok (.bool false) w := fun w => by rfl
  refine callsIn_of_wp_marks Tryz.func4 rfl trivial ?_ rfl
  simp only [Tryz.ntmps4, List.size_toArray, List.length_nil, Nat.reduceSub, Array.replicate_succ, Array.replicate_zero, List.push_toArray, List.append_toArray, List.nil_append, List.cons_append]
  gi_wp2_with fail
  refine ⟨trivial, ?_⟩
  gi_at_call 11
  refine (callsIn_wide.2 (find_err_nil _ _)).mono ?_
  rintro e w' ⟨rfl, rfl⟩
  gi_wp2_with fail
  refine ⟨trivial, ?_⟩
  gi_at_call 12
  refine (callsIn_wide.2 (count_err_nil _ _)).mono ?_
  rintro e w' ⟨rfl, rfl⟩
  gi_wp2_with fail
  refine ⟨trivial, ?_⟩
  gi_at_call 13
  refine (callsIn_wide.2 (must_err_nil _ _)).mono ?_
  rintro e w3 ⟨rfl, b3⟩
  unfold panZ
  gi_wp2_with ((with_reducible refine at_opIn (.store 44 (.tmp 7) (.tmp 31)) rfl ?_); refine wpListIn_store_new rfl 44 (.tmp 7) (.tmp 31) rfl w3.heap.size rfl _ _ rfl _ rfl (by kernel_rfl) rfl (by simp [Value.oneCell']) ?_)
  refine ⟨trivial, ?_⟩
  gi_at_call 14
  refine (callsIn_wide.2 (which_err_nil _ _)).mono ?_
  rintro e w' ⟨rfl, rfl⟩
  gi_wp2_with fail
  refine ⟨trivial, ?_⟩
  gi_at_call 15
  refine (callsIn_wide.2 (pick_err_nil _)).mono ?_
  rintro e w' ⟨rfl, rfl⟩
  gi_wp2_with fail
  refine ⟨trivial, ?_⟩
  gi_at_call 16
  refine (callsIn_wide.2 (over_err_nil _ _ _)).mono ?_
  rintro e w' ⟨rfl, rfl⟩
  gi_wp2_with fail
  refine ⟨trivial, ?_⟩
  gi_at_call 19
  refine (callsIn_wide.2 (nodes_nil _ _)).mono ?_
  rintro e w' ⟨rfl, rfl⟩
  gi_wp2_with fail
  refine ⟨trivial, ?_⟩
  gi_at_call 20
  refine (callsIn_wide.2 (allseq_err_nil _ _)).mono ?_
  rintro e w' ⟨rfl, rfl⟩
  gi_wp2_with fail
  obtain ⟨W0, hW0⟩ : ∃ W0, W0 = (w3.alloc (.cells #[.int .i64 0, .string ⟨#[]⟩, .int .i64 0] 44)).alloc (.cells #[.slice none 0 0] 76) := ⟨_, rfl⟩
  have hsz : W0.heap.size = w3.heap.size + 2 := by rw [hW0]; simp
  have q1 := then_below ((Below.refl _ _).alloc (Nat.le_refl _) _) b3
  have hB0 : Below w.heap.size w W0 := by rw [hW0]; exact alloc_below (alloc_below q1 _) _
  have p3 : Below (w.heap.size + 1) (w.alloc (.cells #[.bool false] 4)) w3 := by simpa using b3
  have h5 : W0.heap[w.heap.size]? = some (.cells #[.bool false] 4 (0, 0)) := by
    rw [hW0, alloc_old _ _ _ (by have := p3.size; simp at *; omega), alloc_old _ _ _ (by have := p3.size; simp at *; omega), p3.block _ (by omega)]; exact alloc_at _ _
  have h6 : W0.heap[w3.heap.size]? = some (.cells panZ 44 (0, 0)) := by rw [hW0, alloc_old _ _ _ (by simp)]; exact alloc_at _ _
  have hb : W0.cell? ⟨w3.heap.size + 1, 0, none⟩ = some (.slice none 0 0) := by rw [hW0, cell_of_block (alloc_at' _ _ _ (by simp))]; rfl
  have hw9 : w.heap.size < w3.heap.size := by have := p3.size; simp at *; omega
  rw [← hW0]
  clear b3 q1 p3
  refine wpIn_rangeFunc_ownF rfl h1 (gf := 37) (lb := #[.pointer (some ⟨w3.heap.size + 1, 0, none⟩)]) rfl trivial (enters_of Tryz.func37 (by kernel_rfl) rfl)
    (allseq1_stops (n - 1) _ W0 hb) (fun _ _ => trivial) (fun _ _ _ _ _ _ _ _ => trivial) (Below.refl _ _) (fun x => x.elim)
    (fun _ W => (W.heap[w.heap.size]? = some (.cells #[.bool false] 4 (0, 0)) ∧ W.heap[w3.heap.size]? = some (.cells panZ 44 (0, 0))) ∧ Below w.heap.size w W)
    (fun _ _ _ => False)
    (OwnFrom.and (Own.from (fun s A B row hs hg hr => ⟨own_cells _ _ _ _ s A B row hs.1 hg hr, own_cells _ _ _ _ s A B row hs.2 hg hr⟩) _) (ownFrom_below (Nat.le_refl _) (by omega)))
    (fun _ _ _ _ _ hs _ _ => hs)
    ⟨⟨h5, h6⟩, hB0⟩
    (fun x => x.elim) ?assign ?body ?done ?stop
  case assign => intro l x; exact x.elim
  case body => intro l pre x; exact x.elim
  case stop =>
    rintro D c pre W _ _ h _
    exact h.elim
  case done =>
    rintro D ys W hD rfl ⟨⟨q5, q6⟩, hB⟩ hK
    clear h5 h6 hb hB0 hW0
    have k6 : W.cell? ⟨w3.heap.size, 0, none⟩ = some (.int .i64 0) := by rw [cell_of_block q6]; rfl
    have k61 : W.cell? ⟨w3.heap.size, 1, none⟩ = some (.string ⟨#[]⟩) := by rw [cell_of_block q6]; rfl
    have k62 : W.cell? ⟨w3.heap.size, 2, none⟩ = some (.int .i64 0) := by rw [cell_of_block q6]; rfl
    have HBW := Lib.hid hB
    have HQ5 := Lib.hid q5
    have HKD := Lib.hid hK
    clear hB q5 q6 hK
    gi_wp2_with fail
    refine ⟨trivial, ?_⟩
    gi_at_call 5
    refine (callsIn_wide.2 (wk_new W W (Below.refl _ _))).mono ?_
    rintro e w4 ⟨bb, rfl, hk4, hb4⟩
    have HK4 := Lib.hid hk4
    have C1 := Lib.hid (show Calls Tryz.prog 21 #[.pointer (some ⟨bb, 0, none⟩), .int .i64 0] w4 fun e w' => e = .returned (.tuple #[.nilIface, .int .i64 0, .int .i64 100]) ∧ Below w4.heap.size w4 w' by
      obtain ⟨D, v, hB, hD, _⟩ := HK4.out
      exact find_any0 w4 hB hD)
    clear hk4 hb4 k6 k61 k62
    gi_wp2_with fail
    refine ⟨trivial, ?_⟩
    gi_at_call 21
    refine (callsIn_wide.2 C1.out).mono ?_
    rintro e w5 ⟨rfl, hb5⟩
    have HK5 := Lib.hid (HK4.out.below hb5)
    have C2 := Lib.hid (show Calls Tryz.prog 22 #[.pointer (some ⟨bb, 0, none⟩), .int .i64 0] w5 fun e w' => e = .returned (.tuple #[.int .i64 0, .int .i64 0]) ∧ Below w5.heap.size w5 w' by
      obtain ⟨D, v, hB, hD, _⟩ := HK5.out
      exact count_any0 w5 hB hD)
    clear hb5 C1 HK4
    gi_wp2_with fail
    refine ⟨trivial, ?_⟩
    gi_at_call 22
    refine (callsIn_wide.2 C2.out).mono ?_
    rintro e w6 ⟨rfl, hb6⟩
    have HK6 := Lib.hid (HK5.out.below hb6)
    clear hb6 C2 HK5
    gi_wp2_with fail
    refine ⟨trivial, ?_⟩
    gi_at_call 23
    refine (callsIn_wide.2 (works_walk w6)).mono ?_
    rintro e w7 ⟨rfl, hb7⟩
    have HK7 := Lib.hid (HK6.out.below hb7)
    have q5 := (HK7.out.bel.block _ (lt_of_at HQ5.out)).trans HQ5.out
    have hK := (HK7.out.bel.block _ (lt_of_at HKD.out)).trans HKD.out
    have hB := HBW.out.trans (HK7.out.bel.mono HBW.out.size)
    have k5 : w7.cell? ⟨w.heap.size, 0, none⟩ = some (.bool false) := by rw [cell_of_block q5]; rfl
    have kf : w7.frozen? ⟨w.heap.size, 0, none⟩ = false := frozen_of_block q5 0
    clear hb7 HK6 HBW HQ5 HKD HK7
    gi_wp2_with fail
    have hKx : (w7.setCell ⟨w.heap.size, 0, none⟩ (.bool true)).heap[D]? = some (.deferred (some [])) := (Below.heap_setCell _ _ _ _ (by show D ≠ w.heap.size; omega)).trans hK
    have h9 : (w7.setCell ⟨w.heap.size, 0, none⟩ (.bool true)).heap[w.heap.size]? = some (.cells #[.bool true] 4 (0, 0)) := heap_setCell_same _ _ _ _ _ _ q5
    have hB9 : Below w.heap.size w (w7.setCell ⟨w.heap.size, 0, none⟩ (.bool true)) := hB.setCell (p := ⟨w.heap.size, 0, none⟩) (Nat.le_refl _) _
    refine ⟨by simp, .inl ⟨_, _, rfl, run_takeDeferred hKx, ?_⟩⟩
    have h10 : ((w7.setCell ⟨w.heap.size, 0, none⟩ (.bool true)).putObj D (.deferred none)).heap[w.heap.size]? = some (.cells #[.bool true] 4 (0, 0)) := (World.putObj_heap_other (by omega)).trans h9
    have hB10 : Below w.heap.size w ((w7.setCell ⟨w.heap.size, 0, none⟩ (.bool true)).putObj D (.deferred none)) := hB9.trans (belowK_b (w := W0) (by omega : w.heap.size ≤ W0.heap.size) _ D _ _ hD hKx rfl rfl)
    exact ⟨_, results_cell_one rfl _ _ ⟨w.heap.size, 0, none⟩ (.bool true) _ rfl Tryz.underlying4 rfl (by rw [cell_of_block h10]; rfl), rfl, hB10⟩
theorem gnames_walk (w : World) : Calls Tryz.prog 4 #[] w fun e w' => e = .returned (.bool true) ∧ Below w.heap.size w w' := (callsIn_wide (n := 3)).1 (gnames_in 3 (Nat.le_refl _) w)
end Go.Proofs.YtfmnbhhpimpjbaaGreatDoor
