/- catch.Closing of nothing: a range over a function whose list is nil. -/
import Derived.RangeFuncFrom
import Derived.RangeFuncNested
import Derived.RangeFuncBound
import Derived.RangeFuncCalls
import Derived.RangeFuncLeaves
import Derived.Shelf.Abstract
import Derived.Shelf.RegionOpen
import Derived.OwnWalkIn
import Derived.TacticsInMore
import Derived.LoopNIn
import Derived.LoopIn
import Derived.Laws.EntriesVeiled
import Derived.Test.YtokfnlfadofmnaaDoorDb
namespace Go.Proofs.YtokfnlfadofmnaaDoor
open Go.RowKit Go.Shelf
set_option linter.unusedVariables false
attribute [local go_sem] Oper.semAt_some

set_option maxRecDepth 100000 in
theorem try_nil (p1 p2 : Value) (w : World) : Calls Tryd.prog 15 #[.nilFunc, p1, p2] w fun e w' => e = .returned (.tuple #[]) ∧ w' = w.alloc (.cells #[.nilFunc] 46) := by
  have hnil : ∀ w, (binOp .eql 46 .nilFunc .nilFunc).run Tryd.prog w = .ok (.bool true) w := fun w => by rfl
  go_enter Tryd.func15, Tryd.ntmps15
  go_wp2
  refine bodyPost_ret (results_none rfl _ _ _) rfl ?_
  exact ⟨rfl, rfl⟩
theorem backward_nil (w : World) : Calls Tryd.prog 18 #[.slice none 0 0] w fun e w' => e = .returned (.func (.func 25) #[] #[.pointer (some ⟨w.heap.size, 0, none⟩)]) ∧ w' = w.alloc (.cells #[.slice none 0 0] 45) := by
  have hmf : ∀ (fn : Fn) (first cap : Array Value) (w : World), (Instr.makeFunc fn first cap).run Tryd.prog w = .ok (.func fn first cap) w := fun _ _ _ _ => rfl
  go_enter Tryd.func18, Tryd.ntmps18
  go_wp2
  go_ret
  exact ⟨rfl, rfl⟩
/-- The iterator over a nil list: it calls nothing. -/
theorem iter_nil (y : Value) (b : Nat) (w : World) (hb : w.cell? ⟨b, 0, none⟩ = some (.slice none 0 0)) : Calls Tryd.prog 25 #[y, .pointer (some ⟨b, 0, none⟩)] w fun e w' => e = .returned (.tuple #[]) ∧ w' = w := by
  go_enter Tryd.func25, Tryd.ntmps25
  go_wp2
  go_loop [3] (fun i => i = .int .i64 (-1)) (fun _ => 0)
  case atStart => rfl
  case round =>
    obtain rfl := hrel
    go_wp2

    go_end0
    exact ⟨rfl, rfl⟩
theorem iter_stops (n b : Nat) (w : World) (hb : w.cell? ⟨b, 0, none⟩ = some (.slice none 0 0)) : SeqStopsK (α := Empty) Fence.wide n Tryd.prog 25 #[.pointer (some ⟨b, 0, none⟩)] (fun x => x.elim) (fun _ _ => True) (fun xs => xs = []) (fun _ => False) 0 w := by
  intro l J Jx W hW hJ hJx hY h0
  have hb' : W.cell? ⟨b, 0, none⟩ = some (.slice none 0 0) := by rw [hW.cell (block_lt hb)]; exact hb
  refine (callsIn_wide (n := n)).2 ((iter_nil _ b W hb').mono ?_)
  rintro e w' ⟨rfl, rfl⟩
  exact ⟨⟨_, rfl⟩, .inl ⟨[], rfl, h0⟩⟩

theorem results_tmp_row {P : Program} {fn : Func} {p u : Tmp} {ty : TypeId} (h : fn.results = #[.tmp u, .cell p ty]) (tmps : Array Value) (w : World) (g : Nat) (t : TypeId) (cs : Array Value) (fr : Nat × Nat) (d : TypeDesc)
    (hp : tmps.getD p undef = .pointer (some ⟨g, 0, none⟩)) (hg : w.heap[g]? = some (.cells cs t fr))
    (hu : P.underlying ty = some d) (hd : (match d with | .struct _ | .array _ _ => true | _ => false) = true) (hi : (P.info? ty).map (·.size) = some cs.size) :
    (results fn tmps).run P w = .ok (.tuple #[tmps.getD u undef, .agg cs]) w := by
  have hp' : tmps[p]?.getD undef = .pointer (some ⟨g, 0, none⟩) := by simpa using hp
  simp only [results, h]
  simp [Result.andThen, hp', asAddr, run_loadVar_row w g t ty cs fr d hg hu hd hi]
theorem own_cells {β : Type} (b : Nat) (cs : Array Value) (t : TypeId) (fr : Nat × Nat) : Own (fun (_ : β) (W : World) => W.heap[b]? = some (.cells cs t fr)) := by
  intro s W W' row h hg hr
  rw [hg.block b (Array.getElem?_eq_some_iff.1 h).1 (fun e => by
    obtain ⟨o, h1, h2⟩ := hr b e.symm
    rw [h] at h1; cases h1; cases h2)]
  exact h
set_option maxRecDepth 100000 in
set_option maxHeartbeats 2000000 in
theorem closing_in (n : Nat) (hn : 3 ≤ n) (w : World) : CallsIn Fence.wide n Tryd.prog 10 #[.nilFunc, .slice none 0 0] w fun e w' => e = .returned (.tuple #[.int .i64 0, .agg (pc Pan.none)]) ∧ Below w.heap.size w w' := by
  have h1 : 1 ≤ n := by omega
  have hmf : ∀ (fn : Fn) (first cap : Array Value) (w : World), (Instr.makeFunc fn first cap).run Tryd.prog w = .ok (.func fn first cap) w := fun _ _ _ _ => rfl
  refine callsIn_of_wp_marks Tryd.func10 rfl trivial ?_ rfl
  simp only [Tryd.ntmps10, List.size_toArray, List.length_cons, List.length_nil, Nat.reduceAdd, Nat.reduceSub, Array.replicate_succ, Array.replicate_zero, List.push_toArray, List.append_toArray, List.nil_append, List.cons_append]
  gi_wp2_with (first | (refine ⟨trivial, ?_⟩; gi_at_call 15; refine (callsIn_wide.2 (try_nil _ _ _)).mono ?_; rintro e w' ⟨rfl, rfl⟩) | (refine ⟨trivial, ?_⟩; gi_at_call 18; refine (callsIn_wide.2 (backward_nil _)).mono ?_; rintro e w' ⟨rfl, rfl⟩))
  obtain ⟨W0, hW0⟩ : ∃ W0, W0 = ((((((w.alloc (.cells (pc Pan.none) 29)).alloc (.cells #[.int .i64 0] 33)).alloc (.cells (pc Pan.none) 29)).alloc (.cells #[.func (.func 15) #[] #[.pointer (some ⟨w.heap.size + 1, 0, none⟩), .pointer (some ⟨w.heap.size + 1 + 1, 0, none⟩)]] 68)).alloc (.cells #[.nilFunc] 46)).alloc (.cells #[.slice none 0 0] 45)) := ⟨_, rfl⟩
  have hsz : W0.heap.size = w.heap.size + 6 := by rw [hW0]; simp
  have hB0 : Below w.heap.size w W0 := by rw [hW0]; exact ((((((Below.refl _ _).alloc (Nat.le_refl _) _).alloc (by simp) _).alloc (by simp <;> omega) _).alloc (by simp <;> omega) _).alloc (by simp <;> omega) _).alloc (by simp <;> omega) _
  have h5 : W0.heap[w.heap.size]? = some (.cells (pc Pan.none) 29 (0, 0)) := by rw [hW0]; repeat (first | exact alloc_at _ _ | refine (alloc_old _ _ _ (by simp <;> omega)).trans ?_)
  have h6 : W0.heap[w.heap.size + 1]? = some (.cells #[.int .i64 0] 33 (0, 0)) := by rw [hW0]; repeat (first | exact alloc_at' _ _ _ (by simp) | refine (alloc_old _ _ _ (by simp <;> omega)).trans ?_)
  have h7 : W0.heap[w.heap.size + 1 + 1]? = some (.cells (pc Pan.none) 29 (0, 0)) := by rw [hW0]; repeat (first | exact alloc_at' _ _ _ (by simp) | refine (alloc_old _ _ _ (by simp <;> omega)).trans ?_)
  have hb : W0.cell? ⟨w.heap.size + 1 + 1 + 1 + 1 + 1, 0, none⟩ = some (.slice none 0 0) := by rw [hW0, cell_of_block (alloc_at' _ _ _ (by simp))]; rfl
  unfold pc at hW0
  dsimp only [Pan.none] at hW0
  rw [← hW0]
  refine wpIn_rangeFunc_ownF rfl h1 (gf := 25) (lb := #[.pointer (some ⟨w.heap.size + 1 + 1 + 1 + 1 + 1, 0, none⟩)]) rfl trivial (enters_of Tryd.func25 (by kernel_rfl) rfl)
    (iter_stops (n - 1) _ W0 hb) (fun _ _ => trivial) (fun _ _ _ _ _ _ _ _ => trivial) (Below.refl _ _) (fun x => x.elim)
    (fun _ W => (W.heap[w.heap.size]? = some (.cells (pc Pan.none) 29 (0, 0)) ∧ W.heap[w.heap.size + 1]? = some (.cells #[.int .i64 0] 33 (0, 0)) ∧ W.heap[w.heap.size + 1 + 1]? = some (.cells (pc Pan.none) 29 (0, 0))) ∧ Below w.heap.size w W)
    (fun _ _ _ => False)
    (OwnFrom.and (Own.from (fun s A B row hs hg hr => ⟨own_cells _ _ _ _ s A B row hs.1 hg hr, own_cells _ _ _ _ s A B row hs.2.1 hg hr, own_cells _ _ _ _ s A B row hs.2.2 hg hr⟩) _) (ownFrom_below (Nat.le_refl _) (by omega)))
    (fun _ _ _ _ _ hs _ _ => hs)
    ⟨⟨h5, h6, h7⟩, hB0⟩
    (fun x => x.elim) ?assign ?body ?done ?stop
  case assign => intro l x; exact x.elim
  case body => intro l pre x; exact x.elim
  case stop =>
    rintro D c pre W _ _ h _
    exact h.elim
  case done =>
    rintro D ys W hD rfl ⟨⟨q5, q6, q7⟩, hB⟩ hK
    clear h5 h6 h7 hb hB0 hW0
    have k5 : W.cell? ⟨w.heap.size, 0, none⟩ = some (.int .i64 0) := by rw [cell_of_block q5]; rfl
    have k51 : W.cell? ⟨w.heap.size, 1, none⟩ = some (.string ⟨#[]⟩) := by rw [cell_of_block q5]; rfl
    have k52 : W.cell? ⟨w.heap.size, 2, none⟩ = some (.int .i64 0) := by rw [cell_of_block q5]; rfl
    have k6 : W.cell? ⟨w.heap.size + 1, 0, none⟩ = some (.int .i64 0) := by rw [cell_of_block q6]; rfl
    have k7 : W.cell? ⟨w.heap.size + 1 + 1, 0, none⟩ = some (.int .i64 0) := by rw [cell_of_block q7]; rfl
    have k71 : W.cell? ⟨w.heap.size + 1 + 1, 1, none⟩ = some (.string ⟨#[]⟩) := by rw [cell_of_block q7]; rfl
    have k72 : W.cell? ⟨w.heap.size + 1 + 1, 2, none⟩ = some (.int .i64 0) := by rw [cell_of_block q7]; rfl
    have kf : ∀ i, W.frozen? ⟨w.heap.size, i, none⟩ = false := fun i => frozen_of_block q5 i
    gi_wp2
    gi_region
    all_goals gi_wp2
    have hK3 : (setP w.heap.size Pan.none W).drew.heap[D]? = some (.deferred (some [])) := (setP_other (by omega)).trans hK
    have h3 : (setP w.heap.size Pan.none W).drew.heap[w.heap.size]? = some (.cells (pc Pan.none) 29 (0, 0)) := setP_at q5 rfl
    have hB3 : Below w.heap.size w (setP w.heap.size Pan.none W).drew := below_dN (n := 1) (setP_below hB (Nat.le_refl _))
    refine ⟨by simp, .inl ⟨_, _, rfl, run_takeDeferred hK3, ?_⟩⟩
    have h6 : ((setP w.heap.size Pan.none W).drew.putObj D (.deferred none)).heap[w.heap.size]? = some (.cells (pc Pan.none) 29 (0, 0)) := (World.putObj_heap_other (by omega)).trans h3
    have hB6 : Below w.heap.size w ((setP w.heap.size Pan.none W).drew.putObj D (.deferred none)) := hB3.trans (belowK_b (w := W0) (by omega : w.heap.size ≤ W0.heap.size) _ D _ _ hD hK3 rfl rfl)
    exact ⟨_, results_tmp_row rfl _ _ w.heap.size 29 (pc Pan.none) (0, 0) _ rfl h6 Tryd.underlying29 rfl (by kernel_rfl), rfl, hB6⟩
theorem closing_nil (w : World) : Calls Tryd.prog 10 #[.nilFunc, .slice none 0 0] w fun e w' => e = .returned (.tuple #[.int .i64 0, .agg (pc Pan.none)]) ∧ Below w.heap.size w w' := (callsIn_wide (n := 3)).1 (closing_in 3 (Nat.le_refl _) w)
end Go.Proofs.YtokfnlfadofmnaaDoor
