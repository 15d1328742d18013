/- BookNames' walk. -/
import Derived.RangeFuncFrom
import Derived.RangeFuncNested
import Derived.RangeFuncBound
import Derived.RangeFuncCalls
import Derived.RangeFuncLeaves
import Derived.Shelf.Abstract
import Derived.Shelf.RegionOpen
import Derived.OwnWalkIn
import Derived.TacticsInMore
import Derived.LoopNIn
import Derived.LoopIn
import Derived.Test.YtjjadikeobageaaGreatDoorBb
namespace Go.Proofs.YtjjadikeobageaaGreatDoor
open Go.RowKit Go.Shelf
set_option linter.unusedVariables false
attribute [local go_sem] Oper.semAt_some

theorem wpListIn_store_row {F : Fence} {n : Nat} {P : Program} {ops : Array Oper} {rest : List Oper} {o : Oper} {a : Act} {w : World} {Q : Exit → Act → World → Prop} (hgd : o.guard = none) (ty : TypeId) (x y : Operand) (ho : o.op = .store ty x y)
    (g : Nat) (hx : a.eval x = .pointer (some ⟨g, 0, none⟩)) (cs : Array Value) (hy : a.eval y = .agg cs) (t : TypeId) (cur : Array Value) (hg : w.heap[g]? = some (.cells cur t (0, 0)))
    (hi : (P.info? ty).map (·.size) = some cs.size) (hl : cs.size = cur.size) (h1 : ∀ v ∈ cs.toList, v.oneCell' = true)
    (h : wpListIn F n P ops Q rest (a.put o.dst undef) (w.setRow g cs)) : wpListIn F n P ops Q (o :: rest) a w := by
  refine wpListIn_plain hgd fun K hK => ?_
  unfold Oper.wpIn
  refine ⟨?_, ?_⟩
  · simp [Oper.about, ho]
  · rw [Oper.semAt_plain F _ _ (by rw [ho]; intro c hc'; cases hc')]
    unfold execOp
    simp only [ho, hx, hy, Instr.storeAt, Instr.sureAddr, Sem.run_bind, Sem.run_pure, Result.andThen_ok, run_storeVar_row w g t ty cur cs hg hi hl h1]
    exact hK _ _ h
/-- A guard: the next operation is this one. -/
theorem at_opIn {F : Fence} {n : Nat} {P : Program} {ops : Array Oper} {rest : List Oper} {dst : Option Tmp} {op : Op} {t : TypeId} {pos : String} {after : Array Edge} {gd : Option (Nat × Bool)} {a : Act} {w : World} {Q : Exit → Act → World → Prop} (op' : Op) (_ : op = op')
    (h : wpListIn F n P ops Q (⟨dst, op, t, pos, after, gd⟩ :: rest) a w) : wpListIn F n P ops Q (⟨dst, op, t, pos, after, gd⟩ :: rest) a w := h
theorem wpListIn_store_new {F : Fence} {n : Nat} {P : Program} {ops : Array Oper} {rest : List Oper} {o : Oper} {a : Act} {w : World} {Q : Exit → Act → World → Prop} (hgd : o.guard = none) (ty : TypeId) (x y : Operand) (ho : o.op = .store ty x y)
    (g : Nat) (hb : g = w.heap.size) (t : TypeId) (cur : Array Value) (hx : a.eval x = .pointer (some ⟨g, 0, none⟩)) (cs : Array Value) (hy : a.eval y = .agg cs)
    (hi : (P.info? ty).map (·.size) = some cs.size) (hl : cs.size = cur.size) (h1 : ∀ v ∈ cs.toList, v.oneCell' = true)
    (h : wpListIn F n P ops Q rest (a.put o.dst undef) (w.alloc (.cells cs t))) : wpListIn F n P ops Q (o :: rest) a (w.alloc (.cells cur t)) := by
  refine wpListIn_store_row hgd ty x y ho g hx cs hy t cur (alloc_at' _ _ _ hb) hi hl h1 ?_
  rw [setRow_alloc _ _ _ _ _ hb]; exact h
theorem then_below {w w1 w2 : World} (h : Below w.heap.size w w1) (k : Below w1.heap.size w1 w2) : Below w.heap.size w w2 := h.trans (k.mono h.size)
theorem alloc_below {w w1 : World} (h : Below w.heap.size w w1) (o : Obj) : Below w.heap.size w (w1.alloc o) := h.alloc h.size _

theorem each1_stops (n b : Nat) (w : World) (hb : w.cell? ⟨b, 0, none⟩ = some (.slice none 0 0)) : SeqStopsK (α := Empty) Fence.wide n Tryz.prog 24 #[.pointer (some ⟨b, 0, none⟩)] (fun x => x.elim) (fun _ _ => True) (fun xs => xs = []) (fun _ => False) 0 w := by
  intro l J Jx W hW hJ hJx hY h0
  have hb' : W.cell? ⟨b, 0, none⟩ = some (.slice none 0 0) := by rw [hW.cell (block_lt hb)]; exact hb
  refine (callsIn_wide (n := n)).2 ((each1_nil _ b W hb').mono ?_)
  rintro e w' ⟨rfl, rfl⟩
  exact ⟨⟨_, rfl⟩, .inl ⟨[], rfl, h0⟩⟩
theorem own_cells {β : Type} (b : Nat) (cs : Array Value) (t : TypeId) (fr : Nat × Nat) : Own (fun (_ : β) (W : World) => W.heap[b]? = some (.cells cs t fr)) := by
  intro s W W' row h hg hr
  rw [hg.block b (Array.getElem?_eq_some_iff.1 h).1 (fun e => by
    obtain ⟨o, h1, h2⟩ := hr b e.symm
    rw [h] at h1; cases h1; cases h2)]
  exact h

set_option maxRecDepth 100000 in
set_option maxHeartbeats 4000000 in
theorem bnames_in (n : Nat) (hn : 3 ≤ n) (w : World) : CallsIn Fence.wide n Tryz.prog 3 #[] w fun e w' => e = .returned (.bool true) ∧ Below w.heap.size w w' := by
  have h1 : 1 ≤ n := by omega
  have hneq : ∀ (f : Fn) (x y : Array Value) (w : World), (binOp .neq 50 (.func f x y) .nilFunc).run Tryz.prog w = .ok (.bool true) w := fun _ _ _ w => by rfl
  have hpn : ∀ w, (binOp .neq 46 (.agg #[.int .i64 0, .string ⟨#[]⟩, .int .i64 0]) (.agg #[.int .i64 0, .string ⟨#[]⟩, .int .i64 0])).run Tryz.prog w = .ok (.bool false) w := fun w => by rfl
  refine callsIn_of_wp_marks Tryz.func3 rfl trivial ?_ rfl
  simp only [Tryz.ntmps3, List.size_toArray, List.length_nil, Nat.reduceSub, Array.replicate_succ, Array.replicate_zero, List.push_toArray, List.append_toArray, List.nil_append, List.cons_append]
  gi_wp2_with fail
  refine ⟨trivial, ?_⟩
  gi_at_call 4
  refine (callsIn_wide.2 (make_nil _ _)).mono ?_
  rintro e w1 ⟨rfl, b1⟩
  gi_wp2_with fail
  refine ⟨trivial, ?_⟩
  gi_at_call 5
  refine (callsIn_wide.2 (error_nil _ _)).mono ?_
  rintro e w2 ⟨rfl, b2⟩
  gi_wp2_with fail
  refine ⟨trivial, ?_⟩
  gi_at_call 6
  refine (callsIn_wide.2 (spec_nil _ _)).mono ?_
  rintro e w3 ⟨rfl, b3⟩
  gi_wp2_with ((with_reducible refine at_opIn (.store 33 (.tmp 6) (.tmp 36)) rfl ?_); refine wpListIn_store_new rfl 33 (.tmp 6) (.tmp 36) rfl w3.heap.size rfl _ _ rfl spZ rfl (by kernel_rfl) rfl (by simp [spZ, Value.oneCell']) ?_)
  refine ⟨trivial, ?_⟩
  gi_at_call 7
  refine (callsIn_wide.2 (kind_nil _ _)).mono ?_
  rintro e w4 ⟨rfl, b4⟩
  gi_wp2_with fail
  refine ⟨trivial, ?_⟩
  gi_at_call 8
  refine (callsIn_wide.2 (parts_nil _ _)).mono ?_
  rintro e w5 ⟨rfl, b5⟩
  gi_wp2_with fail
  refine ⟨trivial, ?_⟩
  gi_at_call 9
  refine (callsIn_wide.2 (size_nil _ _)).mono ?_
  rintro e w6 ⟨rfl, b6⟩
  gi_wp2_with fail
  refine ⟨trivial, ?_⟩
  gi_at_call 10
  refine (callsIn_wide.2 (depth_nil _ _)).mono ?_
  rintro e w7 ⟨rfl, b7⟩
  gi_wp2_with fail
  refine ⟨trivial, ?_⟩
  gi_at_call 11
  refine (callsIn_wide.2 (length_nil _ _)).mono ?_
  rintro e w8 ⟨rfl, b8⟩
  gi_wp2_with fail
  refine ⟨trivial, ?_⟩
  gi_at_call 12
  refine (callsIn_wide.2 (text_nil _ _)).mono ?_
  rintro e w9 ⟨rfl, b9⟩
  gi_wp2_with ((with_reducible refine at_opIn (.store 46 (.tmp 19) (.tmp 67)) rfl ?_); refine wpListIn_store_new rfl 46 (.tmp 19) (.tmp 67) rfl w9.heap.size rfl _ _ rfl panZ rfl (by kernel_rfl) rfl (by simp [panZ, Value.oneCell']) ?_)
  refine ⟨trivial, ?_⟩
  gi_at_call 13
  refine (callsIn_wide.2 (each_nil _)).mono ?_
  rintro e w' ⟨rfl, rfl⟩
  gi_wp2_with fail
  obtain ⟨W0, hW0⟩ : ∃ W0, W0 = (w9.alloc (.cells panZ 46)).alloc (.cells #[.slice none 0 0] 65) := ⟨_, rfl⟩
  have hsz : W0.heap.size = w9.heap.size + 2 := by rw [hW0]; simp
  have q1 := then_below ((Below.refl _ _).alloc (Nat.le_refl _) _) b1
  have q3 := then_below (then_below q1 b2) b3
  have q9 := then_below (then_below (then_below (then_below (then_below (then_below (alloc_below q3 _) b4) b5) b6) b7) b8) b9
  have hB0 : Below w.heap.size w W0 := by rw [hW0]; exact alloc_below (alloc_below q9 _) _
  have z1 := b1.size
  have p9 : Below (w.heap.size + 1) (w.alloc (.cells #[.bool false] 4)) w9 := by
    have r1 : Below (w.heap.size + 1) (w.alloc (.cells #[.bool false] 4)) w1 := by simpa using b1
    have r3 := (r1.trans (b2.mono (by have := r1.size; simp at *; omega))).trans (b3.mono (by have := r1.size; have := b2.size; simp at *; omega))
    have r4 := (r3.alloc (by have := r3.size; simp at *; omega) (.cells spZ 33)).trans (b4.mono (by have := r3.size; simp at *; omega))
    have r5 := r4.trans (b5.mono (by have := r4.size; simp at *; omega))
    have r6 := r5.trans (b6.mono (by have := r5.size; simp at *; omega))
    have r7 := r6.trans (b7.mono (by have := r6.size; simp at *; omega))
    have r8 := r7.trans (b8.mono (by have := r7.size; simp at *; omega))
    exact r8.trans (b9.mono (by have := r8.size; simp at *; omega))
  have h5 : W0.heap[w.heap.size]? = some (.cells #[.bool false] 4 (0, 0)) := by
    rw [hW0, alloc_old _ _ _ (by have := p9.size; simp at *; omega), alloc_old _ _ _ (by have := p9.size; simp at *; omega), p9.block _ (by omega)]; exact alloc_at _ _
  have h6 : W0.heap[w9.heap.size]? = some (.cells panZ 46 (0, 0)) := by rw [hW0, alloc_old _ _ _ (by simp)]; exact alloc_at _ _
  have hb : W0.cell? ⟨w9.heap.size + 1, 0, none⟩ = some (.slice none 0 0) := by rw [hW0, cell_of_block (alloc_at' _ _ _ (by simp))]; rfl
  have hw9 : w.heap.size < w9.heap.size := by have := p9.size; simp at *; omega
  rw [← hW0]
  clear b1 b2 b3 b4 b5 b6 b7 b8 b9 q1 q3 q9 p9 z1
  refine wpIn_rangeFunc_ownF rfl h1 (gf := 24) (lb := #[.pointer (some ⟨w9.heap.size + 1, 0, none⟩)]) rfl trivial (enters_of Tryz.func24 (by kernel_rfl) rfl)
    (each1_stops (n - 1) _ W0 hb) (fun _ _ => trivial) (fun _ _ _ _ _ _ _ _ => trivial) (Below.refl _ _) (fun x => x.elim)
    (fun _ W => (W.heap[w.heap.size]? = some (.cells #[.bool false] 4 (0, 0)) ∧ W.heap[w9.heap.size]? = some (.cells panZ 46 (0, 0))) ∧ Below w.heap.size w W)
    (fun _ _ _ => False)
    (OwnFrom.and (Own.from (fun s A B row hs hg hr => ⟨own_cells _ _ _ _ s A B row hs.1 hg hr, own_cells _ _ _ _ s A B row hs.2 hg hr⟩) _) (ownFrom_below (Nat.le_refl _) (by omega)))
    (fun _ _ _ _ _ hs _ _ => hs)
    ⟨⟨h5, h6⟩, hB0⟩
    (fun x => x.elim) ?assign ?body ?done ?stop
  case assign => intro l x; exact x.elim
  case body => intro l pre x; exact x.elim
  case stop =>
    rintro D c pre W _ _ h _
    exact h.elim
  case done =>
    rintro D ys W hD rfl ⟨⟨q5, q6⟩, hB⟩ hK
    clear h5 h6 hb hB0 hW0
    have k5 : W.cell? ⟨w.heap.size, 0, none⟩ = some (.bool false) := by rw [cell_of_block q5]; rfl
    have kf : W.frozen? ⟨w.heap.size, 0, none⟩ = false := frozen_of_block q5 0
    have k6 : W.cell? ⟨w9.heap.size, 0, none⟩ = some (.int .i64 0) := by rw [cell_of_block q6]; rfl
    have k61 : W.cell? ⟨w9.heap.size, 1, none⟩ = some (.string ⟨#[]⟩) := by rw [cell_of_block q6]; rfl
    have k62 : W.cell? ⟨w9.heap.size, 2, none⟩ = some (.int .i64 0) := by rw [cell_of_block q6]; rfl
    gi_wp2_with (first | (refine ⟨trivial, ?_⟩; gi_at_call 14; refine (callsIn_wide.2 (len_nil _)).mono ?_; rintro e w' ⟨rfl, rfl⟩) | (refine ⟨trivial, ?_⟩; gi_at_call 15; refine (callsIn_wide.2 (copy_nil _)).mono ?_; rintro e w' ⟨rfl, rfl⟩))
    have hKx : (W.setCell ⟨w.heap.size, 0, none⟩ (.bool true)).heap[D]? = some (.deferred (some [])) := (Below.heap_setCell _ _ _ _ (by show D ≠ w.heap.size; omega)).trans hK
    have h9 : (W.setCell ⟨w.heap.size, 0, none⟩ (.bool true)).heap[w.heap.size]? = some (.cells #[.bool true] 4 (0, 0)) := heap_setCell_same _ _ _ _ _ _ q5
    have hB9 : Below w.heap.size w (W.setCell ⟨w.heap.size, 0, none⟩ (.bool true)) := hB.setCell (p := ⟨w.heap.size, 0, none⟩) (Nat.le_refl _) _
    refine ⟨by simp, .inl ⟨_, _, rfl, run_takeDeferred hKx, ?_⟩⟩
    have h10 : ((W.setCell ⟨w.heap.size, 0, none⟩ (.bool true)).putObj D (.deferred none)).heap[w.heap.size]? = some (.cells #[.bool true] 4 (0, 0)) := (World.putObj_heap_other (by omega)).trans h9
    have hB10 : Below w.heap.size w ((W.setCell ⟨w.heap.size, 0, none⟩ (.bool true)).putObj D (.deferred none)) := hB9.trans (belowK_b (w := W0) (by omega : w.heap.size ≤ W0.heap.size) _ D _ _ hD hKx rfl rfl)
    exact ⟨_, results_cell_one rfl _ _ ⟨w.heap.size, 0, none⟩ (.bool true) _ rfl Tryz.underlying4 rfl (by rw [cell_of_block h10]; rfl), rfl, hB10⟩
theorem bnames_walk (w : World) : Calls Tryz.prog 3 #[] w fun e w' => e = .returned (.bool true) ∧ Below w.heap.size w w' := (callsIn_wide (n := 3)).1 (bnames_in 3 (Nat.le_refl _) w)
end Go.Proofs.YtjjadikeobageaaGreatDoor
