/- book: Spec, Text and Each of a book that is not there. -/
import Derived.Test.YtjjadikeobageaaGreatDoorBa
import Derived.Deep.MidRow
import Derived.Laws.ResultCell
import Derived.Laws.CopyOwn
namespace Go.Proofs.YtjjadikeobageaaGreatDoor
open Go.RowKit
set_option linter.unusedVariables false
theorem spZ_range (w : World) : (w.alloc (.cells rowZ 61)).rangeAt w.heap.size 1 spZ.toList := World.rangeAt_of_block (alloc_at w (.cells rowZ 61)) 1 11
set_option maxRecDepth 100000 in
theorem twin_zero (w : World) : Calls Tryz.prog 18 #[.agg spZ] w fun e w' => e = .returned (.agg spZ) ∧ Below w.heap.size w w' := by
  have H1 := Lib.hid (show (((w.alloc (.cells spZ 33)).alloc (.cells spZ 33)).drew).heap[w.heap.size]? = some (.cells spZ 33 (0, 0)) from (alloc_old _ _ _ (by simp)).trans (alloc_at _ _))
  have H2 := Lib.hid (show (((w.alloc (.cells spZ 33)).alloc (.cells spZ 33)).drew).heap[w.heap.size + 1]? = some (.cells spZ 33 (0, 0)) from alloc_at' _ _ _ (by simp))
  unfold spZ
  go_enter Tryz.func18, Tryz.ntmps18
  go_wp2
  go_region_with (first | (go_at_call 30; refine (clone_str_nil _).mono ?_; rintro e w' ⟨rfl, rfl⟩) | (go_at_call 22; refine (clone_int_nil _).mono ?_; rintro e w' ⟨rfl, rfl⟩))
  all_goals
    go_wp2_with (first
      | ((with_reducible refine at_op (.load 33 (.tmp 1)) rfl ?_); refine wpList_load_row rfl 33 (.tmp 1) rfl w.heap.size rfl 33 spZ (0, 0) _ H1.out Tryz.underlying33 rfl (by kernel_rfl) ?_)
      | ((with_reducible refine at_op (.store 33 (.tmp 2) (.tmp 11)) rfl ?_); refine wpList_store_row rfl 33 (.tmp 2) (.tmp 11) rfl (w.heap.size + 1) rfl spZ rfl 33 _ H2.out (by kernel_rfl) rfl (by simp [spZ, Value.oneCell']) ?_))
    refine bodyPost_ret (results_cell_row rfl _ _ (w.heap.size + 1) 33 spZ (0, 0) _ rfl (setRow_heap _ _ _ _ _ _ H2.out) Tryz.underlying33 rfl (by kernel_rfl)) rfl ⟨rfl, ?_⟩
    exact below_setRow (((Below.refl _ _).alloc (Nat.le_refl _) _).alloc (by simp) _).drew (by omega) _

theorem results_row_tmp {P : Program} {fn : Func} {p u : Tmp} {ty : TypeId} (h : fn.results = #[.cell p ty, .tmp u]) (tmps : Array Value) (w : World) (g : Nat) (t : TypeId) (cs : Array Value) (fr : Nat × Nat) (d : TypeDesc)
    (hp : tmps.getD p undef = .pointer (some ⟨g, 0, none⟩)) (hg : w.heap[g]? = some (.cells cs t fr))
    (hu : P.underlying ty = some d) (hd : (match d with | .struct _ | .array _ _ => true | _ => false) = true) (hi : (P.info? ty).map (·.size) = some cs.size) :
    (results fn tmps).run P w = .ok (.tuple #[.agg cs, tmps.getD u undef]) w := by
  rw [results_cell_tmp h, hp]
  simp [asAddr, run_loadVar_row w g t ty cs fr d hg hu hd hi, Result.andThen]
theorem results_trt {P : Program} {fn : Func} {q p u : Tmp} {ty : TypeId} (h : fn.results = #[.tmp q, .cell p ty, .tmp u]) (tmps : Array Value) (w : World) (g : Nat) (t : TypeId) (cs : Array Value) (fr : Nat × Nat) (d : TypeDesc)
    (hp : tmps.getD p undef = .pointer (some ⟨g, 0, none⟩)) (hg : w.heap[g]? = some (.cells cs t fr))
    (hu : P.underlying ty = some d) (hd : (match d with | .struct _ | .array _ _ => true | _ => false) = true) (hi : (P.info? ty).map (·.size) = some cs.size) :
    (results fn tmps).run P w = .ok (.tuple #[tmps.getD q undef, .agg cs, tmps.getD u undef]) w := by
  have hp' : tmps[p]?.getD undef = .pointer (some ⟨g, 0, none⟩) := by simpa using hp
  simp only [results, h]
  simp [Result.andThen, hp', asAddr, run_loadVar_row w g t ty cs fr d hg hu hd hi]
theorem results_cell_one {P : Program} {fn : Func} {p : Tmp} {ty : TypeId} (h : fn.results = #[.cell p ty]) (tmps : Array Value) (w : World) (a : Addr) (v : Value) (d : TypeDesc)
    (hp : tmps.getD p undef = .pointer (some a)) (hu : P.underlying ty = some d) (hd : (match d with | .struct _ | .array _ _ => true | _ => false) = false) (hc : w.cell? a = some v) :
    (results fn tmps).run P w = .ok v w := by
  have hp' : tmps[p]?.getD undef = .pointer (some a) := by simpa using hp
  have hagg : (isAgg ty).run P w = .ok false w := by
    unfold isAgg
    rw [Sem.run_bind, run_underlying hu w]
    cases d <;> simp_all
  simp [results, h, hp', asAddr, loadVar, Sem.run_bind, hagg, run_load, hc]

set_option maxRecDepth 100000 in
theorem spec_nil (h : Int) (w : World) : Calls Tryz.prog 6 #[.pointer none, .int .i64 h] w fun e w' => e = .returned (.tuple #[.agg spZ, .int .i64 2]) ∧ Below w.heap.size w w' := by
  have HM := Lib.hid (made_nil h (w.alloc (.cells spZ 33)))
  have HT := Lib.hid (twin_zero ((w.alloc (.cells spZ 33)).alloc (.cells rowZ 61)))
  have HL := Lib.hid (show ((w.alloc (.cells spZ 33)).alloc (.cells rowZ 61)).rangeAt (w.heap.size + 1) 1 spZ.toList by
    have := spZ_range (w.alloc (.cells spZ 33))
    rw [World.size_alloc] at this
    exact this)
  go_enter Tryz.func6, Tryz.ntmps6
  go_wp2_with fail
  refine HM.out.mono ?_
  rintro e w' ⟨rfl, rfl⟩
  go_wp2_with ((with_reducible refine at_op (.load 33 (.tmp 16)) rfl ?_); refine wpList_load_mid rfl 33 (.tmp 16) rfl (w.heap.size + 1) 1 rfl spZ.toList _ HL.out Tryz.underlying33 rfl (by kernel_rfl) ?_)
  refine HT.out.mono ?_
  rintro e w3 ⟨rfl, b3⟩
  have HB := Lib.hid (show Below w.heap.size w w3 from (((Below.refl _ _).alloc (Nat.le_refl _) _).alloc (by simp) _).trans (b3.mono (by simp <;> omega)))
  have H4 := Lib.hid (show w3.heap[w.heap.size]? = some (.cells spZ 33 (0, 0)) from (b3.block _ (by simp <;> omega)).trans ((alloc_old _ _ _ (by simp)).trans (alloc_at _ _)))
  clear b3 HM HT HL
  go_wp2_with ((with_reducible refine at_op (.store 33 (.tmp 4) (.tmp 18)) rfl ?_); refine wpList_store_row rfl 33 (.tmp 4) (.tmp 18) rfl w.heap.size rfl spZ rfl 33 _ H4.out (by kernel_rfl) rfl (by simp [spZ, Value.oneCell']) ?_)
  exact bodyPost_ret (results_row_tmp rfl _ _ w.heap.size 33 spZ (0, 0) _ rfl (setRow_heap _ _ _ _ _ _ H4.out) Tryz.underlying33 rfl (by kernel_rfl)) rfl ⟨rfl, below_setRow HB.out (Nat.le_refl _) _⟩

def panZ : Array Value := #[.int .i64 0, .string ⟨#[]⟩, .int .i64 0]
set_option maxRecDepth 100000 in
theorem text_nil (h : Int) (w : World) : Calls Tryz.prog 12 #[.pointer none, .int .i64 h] w fun e w' => e = .returned (.tuple #[.string ⟨#[]⟩, .agg panZ, .int .i64 2]) ∧ Below w.heap.size w w' := by
  have HA := Lib.hid (at_nil h (w.alloc (.cells panZ 46)))
  have h0 : ((w.alloc (.cells panZ 46)).alloc (.cells rowZ 61)).cell? ⟨w.heap.size + 1, 0, none⟩ = some .nilIface := by
    have := rowZ_at (w.alloc (.cells panZ 46)) 0
    rw [World.size_alloc] at this
    exact this
  have H4 := Lib.hid (show ((w.alloc (.cells panZ 46)).alloc (.cells rowZ 61)).heap[w.heap.size]? = some (.cells panZ 46 (0, 0)) from (alloc_old _ _ _ (by simp)).trans (alloc_at _ _))
  have HB := Lib.hid (show Below w.heap.size w ((w.alloc (.cells panZ 46)).alloc (.cells rowZ 61)) from (((Below.refl _ _).alloc (Nat.le_refl _) _).alloc (by simp) _))
  go_enter Tryz.func12, Tryz.ntmps12
  go_wp2_with fail
  refine HA.out.mono ?_
  rintro e w' ⟨rfl, rfl⟩
  go_wp2_with ((with_reducible refine at_op (.store 46 (.tmp 5) (.tmp 22)) rfl ?_); refine wpList_store_row rfl 46 (.tmp 5) (.tmp 22) rfl w.heap.size rfl panZ rfl 46 _ H4.out (by kernel_rfl) rfl (by simp [panZ, Value.oneCell']) ?_)
  exact bodyPost_ret (results_trt rfl _ _ w.heap.size 46 panZ (0, 0) _ rfl (setRow_heap _ _ _ _ _ _ H4.out) Tryz.underlying46 rfl (by kernel_rfl)) rfl ⟨rfl, below_setRow HB.out (Nat.le_refl _) _⟩

set_option maxRecDepth 100000 in
theorem each_nil (w : World) : Calls Tryz.prog 13 #[.pointer none] w fun e w' => e = .returned (.func (.func 24) #[] #[.pointer (some ⟨w.heap.size, 0, none⟩)]) ∧ w' = w.alloc (.cells #[.slice none 0 0] 65) := by
  have hmf : ∀ (fn : Fn) (first cap : Array Value) (w : World), (Instr.makeFunc fn first cap).run Tryz.prog w = .ok (.func fn first cap) w := fun _ _ _ _ => rfl
  go_enter Tryz.func13, Tryz.ntmps13
  go_wp2
  go_ret
  exact ⟨rfl, rfl⟩
set_option maxRecDepth 100000 in
theorem each1_nil (y : Value) (b : Nat) (w : World) (hb : w.cell? ⟨b, 0, none⟩ = some (.slice none 0 0)) : Calls Tryz.prog 24 #[y, .pointer (some ⟨b, 0, none⟩)] w fun e w' => e = .returned (.tuple #[]) ∧ w' = w := by
  go_enter Tryz.func24, Tryz.ntmps24
  go_wp2
  go_loop [7] (fun i => i = .int .i64 0) (fun _ => 0)
  case atStart => rfl
  case round =>
    obtain rfl := hrel
    go_wp2
    go_end0
    exact ⟨rfl, rfl⟩
end Go.Proofs.YtjjadikeobageaaGreatDoor
