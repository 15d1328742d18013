/- What CatchNone's walk needs: the made rows, the fill, the four runs. -/
import Derived.Test.YtokfnlfadofmnaaDoorDc
namespace Go.Proofs.YtokfnlfadofmnaaDoor
open Go.RowKit
set_option linter.unusedVariables false

theorem run_nilbook_lit (w : World) : Calls Tryd.prog 7 #[.pointer none, .slice none 0 0] w fun e w' => e = .returned (.tuple #[.agg #[.int .u8 0, .int .i16 0, .int .i64 0, .int .i64 0, .string ⟨#[]⟩, .int .i64 0, .slice none 0 0, .int .i64 0], .int .i64 2]) ∧ Below w.heap.size w w' := run_nilbook w

def z65 : Array Value := madeCells #[.slice none 0 0] 65
def z64 : Array Value := madeCells #[.slice none 0 0] 64
def zL : Array Value := madeCells #[.int .u8 0, .int .i16 0, .int .i64 0, .int .i64 0] 40004
theorem info24 : ∃ i : TypeInfo, Tryd.prog.info? 24 = some i ∧ i.zero = some (.slice none 0 0) ∧ i.size = 1 ∧ i.bytes = 24 := info_parts (by kernel_rfl)
theorem rep_get (z : Value) (n i : Nat) (h : i < n) : (madeCells #[z] n)[i]? = some z := by
  rw [← Array.getElem?_toList, toList_madeCells_one]
  simp [h]
theorem make_65 (w : World) : (Instr.makeSlice 36 (.int .i64 65) (.int .i64 65)).run Tryd.prog w = .ok (.slice (some ⟨w.heap.size, 0, none⟩) 65 65) (w.alloc (.cells z65 24)) := by
  obtain ⟨i0, hi, hz0, hz1, hz2⟩ := info24
  have h := run_makeSlice w 36 24 i0 _ Tryd.underlying36 hi hz0 .i64 .i64 65 65 (by decide) (by decide) (by rw [hz1]; decide) (by rw [hz2]; decide) (by decide)
  rw [h, hz1]; rfl
theorem make_64 (w : World) : (Instr.makeSlice 36 (.int .i64 64) (.int .i64 64)).run Tryd.prog w = .ok (.slice (some ⟨w.heap.size, 0, none⟩) 64 64) (w.alloc (.cells z64 24)) := by
  obtain ⟨i0, hi, hz0, hz1, hz2⟩ := info24
  have h := run_makeSlice w 36 24 i0 _ Tryd.underlying36 hi hz0 .i64 .i64 64 64 (by decide) (by decide) (by rw [hz1]; decide) (by rw [hz2]; decide) (by decide)
  rw [h, hz1]; rfl
theorem make_L (w : World) : (Instr.makeSlice 24 (.int .i64 10001) (.int .i64 10001)).run Tryd.prog w = .ok (.slice (some ⟨w.heap.size, 0, none⟩) 10001 10001) (w.alloc (.cells zL 27)) := by
  obtain ⟨i0, hi, hz0, hz1, hz2⟩ := info27
  have h := run_makeSlice w 24 27 i0 _ Tryd.underlying24 hi hz0 .i64 .i64 10001 10001 (by decide) (by decide) (by rw [hz1]; decide) (by rw [hz2]; decide) (by decide)
  rw [h, hz1]; rfl
theorem fv_rep (w : World) (n : Nat) (z : Array Value) (hn : n ≤ 100) (hz : ∀ i, i < n → z[i]? = some (.slice none 0 0)) : FV (w.alloc (.cells z 24)) w.heap.size n (List.replicate n []) := by
  refine ⟨z, alloc_at _ _, by simp, by simp only [maxLen]; omega, fun i hi => ?_⟩
  have hi' : i < n := by simpa using hi
  refine ⟨_, hz i hi', ?_⟩
  have e : (List.replicate n ([] : List Stp)).getD i [] = [] := by simp [List.getD, hi']
  rw [e]; exact ⟨rfl, .inl ⟨rfl, rfl⟩⟩
theorem check_65 (bb : Addr) (w : World) : Calls Tryd.prog 12 #[.pointer (some bb), .slice (some ⟨w.heap.size, 0, none⟩) 65 65] (w.alloc (.cells z65 24)) fun e w' => e = .returned (.tuple #[.int .i64 0, .int .i64 0, .int .i64 1]) ∧ w.alloc (.cells z65 24) = w' :=
  check_bad (F := List.replicate 65 []) (fv_rep w 65 z65 (by decide) (fun i hi => rep_get _ _ _ hi)) (by decide) (by decide) (by decide +kernel) (.inl (by decide))
theorem check_64 (bb : Addr) (w : World) : Calls Tryd.prog 12 #[.pointer (some bb), .slice (some ⟨w.heap.size, 0, none⟩) 64 64] (w.alloc (.cells z64 24)) fun e w' => e = .returned (.tuple #[.int .i64 0, .int .i64 0, .int .i64 0]) ∧ Below (w.alloc (.cells z64 24)).heap.size (w.alloc (.cells z64 24)) w' :=
  check_ok (F := List.replicate 64 []) (fv_rep w 64 z64 (by decide) (fun i hi => rep_get _ _ _ hi)) (by decide) (by decide) (by decide +kernel) (by decide +kernel)

def fillL (k : Nat) : List Stp := List.replicate k ⟨4, 0, 0⟩ ++ List.replicate (10001 - k) ⟨0, 0, 0⟩
theorem sc_rep_get (s : Stp) : ∀ (n i : Nat), i < n * 4 → (sc (List.replicate n s))[i]? = (sc1 s)[i % 4]?
  | 0, i, h => by omega
  | n + 1, i, h => by
    have e : sc (List.replicate (n + 1) s) = sc1 s ++ sc (List.replicate n s) := by simp [sc, List.replicate_succ]
    rw [e]
    by_cases hi : i < 4
    · rw [List.getElem?_append_left (by simp [sc1]; omega), Nat.mod_eq_of_lt hi]
    · rw [List.getElem?_append_right (by simp [sc1]; omega)]
      have e2 : (sc1 s).length = 4 := rfl
      rw [e2, sc_rep_get s n (i - 4) (by omega)]
      have e3 : (i - 4) % 4 = i % 4 := by omega
      rw [e3]
theorem zL_list : zL.toList = sc (fillL 0) := by
  have e : fillL 0 = List.replicate 10001 ⟨0, 0, 0⟩ := by unfold fillL; rw [List.replicate_zero, List.nil_append]
  rw [e]
  apply List.ext_getElem?
  intro i
  have hl : (sc (List.replicate 10001 (⟨0, 0, 0⟩ : Stp))).length = 10001 * 4 := by rw [sc_len, List.length_replicate]
  by_cases hi : i < 40004
  · rw [sc_rep_get _ _ _ (by omega), Array.getElem?_toList, zL, madeCells, Array.getElem?_map, Array.getElem?_range, if_pos hi]
    have h4 : i % 4 < 4 := Nat.mod_lt _ (by decide)
    show some ((#[Value.int .u8 0, .int .i16 0, .int .i64 0, .int .i64 0] : Array Value)[i % 4]!) = _
    rcases (show i % 4 = 0 ∨ i % 4 = 1 ∨ i % 4 = 2 ∨ i % 4 = 3 by omega) with h | h | h | h <;> rw [h] <;> rfl
  · rw [List.getElem?_eq_none (by rw [Array.length_toList]; show (madeCells _ _).size ≤ i; rw [size_madeCells]; omega), List.getElem?_eq_none (by rw [hl]; omega)]

theorem fill_len (k : Nat) (h : k ≤ 10001) : (fillL k).length = 10001 := by simp [fillL]; omega
theorem fill_cell {W : World} {b k : Nat} {cur : Array Value} (h : W.heap[b]? = some (.cells cur 27 (0, 0))) (hl : cur.toList = sc (fillL k)) (hk : k < 10001) : W.cell? ⟨b, k * 4, none⟩ = some (.int .u8 0) := by
  have e := sc_get (fillL k) k 0 (by rw [fill_len k (by omega)]; exact hk) (by decide)
  rw [cell_of_block h, ← Array.getElem?_toList, hl]
  rw [Nat.add_zero] at e
  have e2 : (fillL k).getD k default = ⟨0, 0, 0⟩ := by
    unfold fillL
    rw [List.getD, List.getElem?_append_right (by simp), List.length_replicate, Nat.sub_self, List.getElem?_replicate, if_pos (by omega)]; rfl
  rw [e, e2]; rfl

theorem fill_set {W : World} {b k : Nat} {cur : Array Value} (h : W.heap[b]? = some (.cells cur 27 (0, 0))) (hl : cur.toList = sc (fillL k)) (hk : k < 10001) : ∃ cur', (W.setCell ⟨b, k * 4, none⟩ (.int .u8 4)).heap[b]? = some (.cells cur' 27) ∧ cur'.toList = sc (fillL (k + 1)) := by
  refine ⟨_, heap_setCell_same _ _ _ _ _ _ h, ?_⟩
  have e1 : fillL k = List.replicate k ⟨4, 0, 0⟩ ++ (⟨0, 0, 0⟩ :: List.replicate (10000 - k) ⟨0, 0, 0⟩) := by
    unfold fillL; rw [show 10001 - k = (10000 - k) + 1 by omega, List.replicate_succ]
  have e2 : fillL (k + 1) = List.replicate k ⟨4, 0, 0⟩ ++ (⟨4, 0, 0⟩ :: List.replicate (10000 - k) ⟨0, 0, 0⟩) := by
    unfold fillL; rw [show 10001 - (k + 1) = 10000 - k by omega, List.replicate_succ', List.append_assoc]; rfl
  have e3 : ∀ (a c : List Stp) (s : Stp), sc (a ++ s :: c) = sc a ++ (sc1 s ++ sc c) := by intro a c s; simp [sc]
  have e4 : (sc (List.replicate k (⟨4, 0, 0⟩ : Stp))).length = k * 4 := by rw [sc_len, List.length_replicate]
  rw [Array.toList_setIfInBounds, hl, e1, e2, e3, e3, List.set_append_right _ _ (by rw [e4]; exact Nat.le_refl _), e4, Nat.sub_self]
  rfl
def FillAt (W : World) (b : Nat) : Prop := ∃ cur, W.heap[b]? = some (.cells cur 27 (0, 0)) ∧ cur.toList = sc (List.replicate 10001 ⟨4, 0, 0⟩)
theorem FillAt.below {W W' : World} {b B : Nat} (h : FillAt W b) (hb : Below B W W') (hB : b < B) : FillAt W' b := by
  obtain ⟨cur, h1, h2⟩ := h
  exact ⟨cur, by rw [hb.block _ hB]; exact h1, h2⟩
theorem FillAt.lt {W : World} {b : Nat} (h : FillAt W b) : b < W.heap.size := by
  obtain ⟨cur, h1, h2⟩ := h
  exact (Array.getElem?_eq_some_iff.1 h1).1
theorem sc_app (a b : List Stp) : sc (a ++ b) = sc a ++ sc b := by unfold sc; exact List.flatMap_append
theorem sc_take (n : Nat) (s : Stp) (m : Nat) (h : m ≤ n) : (sc (List.replicate n s)).take (m * 4) = sc (List.replicate m s) := by
  have e : List.replicate n s = List.replicate m s ++ List.replicate (n - m) s := by rw [List.replicate_append_replicate]; congr 1; omega
  have e4 : (sc (List.replicate m s)).length = m * 4 := by rw [sc_len, List.length_replicate]
  rw [e, sc_app, ← e4, List.take_left]
theorem FillAt.own {W : World} {b : Nat} (h : FillAt W b) (m : Nat) (hm : m ≤ 10001) : W.ownsRow 0 27 4 (.slice (some ⟨b, 0, none⟩) m 10001) m (sc (List.replicate m ⟨4, 0, 0⟩)) := by
  obtain ⟨cur, h1, h2⟩ := h
  have hs : cur.size = 10001 * 4 := by rw [← Array.length_toList, h2, sc_len, List.length_replicate]
  exact ⟨by rw [sc_len, List.length_replicate], .inr ⟨b, 10001, cur, rfl, Nat.zero_le _, h1, hm, by simp only [maxLen]; omega, hs, by rw [h2]; exact sc_take _ _ _ hm⟩⟩
theorem fv_tell {W : World} {b : Nat} (h : FillAt W b) (m : Nat) (hm : m ≤ 10001) : FV (W.alloc (.cells #[.slice (some ⟨b, 0, none⟩) m 10001] 24)) W.heap.size 1 (tellN m) := by
  refine ⟨_, alloc_at _ _, Nat.le_refl _, by decide, fun i hi => ?_⟩
  have hi' : i < 1 := hi
  obtain rfl : i = 0 := by omega
  refine ⟨_, rfl, ?_⟩
  rw [tell_len]
  exact (h.below ((Below.refl W.heap.size _).alloc (Nat.le_refl _) _) h.lt).own m hm
theorem check_L (bb : Addr) {W : World} {b : Nat} (h : FillAt W b) : Calls Tryd.prog 12 #[.pointer (some bb), .slice (some ⟨W.heap.size, 0, none⟩) 1 1] (W.alloc (.cells #[.slice (some ⟨b, 0, none⟩) 10001 10001] 24)) fun e w' => e = .returned (.tuple #[.int .i64 0, .int .i64 0, .int .i64 1]) ∧ W.alloc (.cells #[.slice (some ⟨b, 0, none⟩) 10001 10001] 24) = w' :=
  check_bad (F := tellN 10001) (fv_tell h 10001 (by omega)) (by show 0 < 1; decide) (by show 1 ≤ 1000; decide) (by show totL _ 1 ≤ _; rw [tell_tot]; omega) (.inr ⟨by show 1 ≤ 64; decide, by show _ < totL _ 1; rw [tell_tot]; omega⟩)
theorem run_L (bb : Addr) {W : World} {b : Nat} (h : FillAt W b) (htab : Lib.TabIs Tryd.prog W "internal/strconv.uint64pow10" .u64 Lib.pow10Tab) (hw0 : 0 < W.heap.size) :
    Calls Tryd.prog 7 #[.pointer (some bb), .slice (some ⟨W.heap.size, 0, none⟩) 1 1] (W.alloc (.cells #[.slice (some ⟨b, 0, none⟩) 10000 10001] 24)) fun e w' => ∃ oa cp, e = .returned (.tuple #[.agg #[.int .u8 1, .int .i16 0, .int .i64 0, .int .i64 0, .string ⟨#[]⟩, .int .i64 0, .slice oa 10000 cp, .int .i64 10000], .int .i64 0]) ∧ Below W.heap.size W w' := by
  obtain ⟨o, hx, ho⟩ := tell_m0
  have hbA : Below W.heap.size W (W.alloc (.cells #[.slice (some ⟨b, 0, none⟩) 10000 10001] 24)) := (Below.refl W.heap.size _).alloc (Nat.le_refl _) _
  refine (run_ok (F := tellN 10000) (fv_tell h 10000 (by omega)) (by show 0 < 1; decide) (by show 1 ≤ 64; decide) (by show totL _ 1 ≤ _; rw [tell_tot]; omega) (tell_ok _) hx (by decide) (tab_keep htab (hbA.block 0 hw0)) (by simp)).mono ?_
  rintro e w' ⟨ov, rfl, hown, hb⟩
  obtain ⟨va, vc, hv⟩ := own_form hown
  have hl : (⟨Res.new, none, none, ⟨10000, false, o⟩⟩ : Fin).m.out.length = 10000 := ho
  rw [hl] at hv
  subst hv
  exact ⟨va, vc, rfl, hbA.trans (hb.mono (by simp))⟩
theorem run_one (bb : Addr) (s : Stp) (x : Fin) (n : Nat) {W : World} (hok : progOk [[s]] = true) (hx : runL [[s]] itoaB n 1 0 0 Res.new none [] m0 = some x) (hn : n ≤ 10000000) (htab : Lib.TabIs Tryd.prog W "internal/strconv.uint64pow10" .u64 Lib.pow10Tab) (hw0 : 0 < W.heap.size) :
    Calls Tryd.prog 7 #[.pointer (some bb), .slice (some ⟨W.heap.size + 1, 0, none⟩) 1 1] ((W.alloc (.cells #[.int .u8 s.op, .int .i16 s.n, .int .i64 s.f, .int .i64 0] 27)).alloc (.cells #[.slice (some ⟨W.heap.size, 0, none⟩) 1 1] 24)) fun e w' => ∃ oa cp, e = .returned (.tuple #[.agg (outC x (.slice oa x.m.out.length cp)), .int .i64 0]) ∧ Below W.heap.size W w' := by
  have hbA : Below W.heap.size W ((W.alloc (.cells #[.int .u8 s.op, .int .i16 s.n, .int .i64 s.f, .int .i64 0] 27)).alloc (.cells #[.slice (some ⟨W.heap.size, 0, none⟩) 1 1] 24)) := ((Below.refl W.heap.size _).alloc (Nat.le_refl _) _).alloc (by simp) _
  have hF : FV ((W.alloc (.cells #[.int .u8 s.op, .int .i16 s.n, .int .i64 s.f, .int .i64 0] 27)).alloc (.cells #[.slice (some ⟨W.heap.size, 0, none⟩) 1 1] 24)) (W.heap.size + 1) 1 [[s]] := by
    refine ⟨_, alloc_at' _ _ _ (by simp), Nat.le_refl _, by decide, fun i hi => ?_⟩
    have hi' : i < 1 := hi
    obtain rfl : i = 0 := by omega
    refine ⟨_, rfl, row_lit (b := W.heap.size) (l := [s]) ((alloc_old _ _ _ (by simp)).trans (alloc_at _ _)) rfl (by show 1 ≤ _; decide)⟩
  refine (run_ok (F := [[s]]) hF (by show 0 < 1; decide) (by show 1 ≤ 64; decide) (by show 0 + 1 ≤ 10000; decide) hok hx hn (tab_keep htab (hbA.block 0 hw0)) (by simp)).mono ?_
  rintro e w' ⟨ov, rfl, hown, hb⟩
  obtain ⟨va, vc, rfl⟩ := own_form hown
  exact ⟨va, vc, rfl, hbA.trans (hb.mono (by simp; omega))⟩
theorem run_jump (bb : Addr) {W : World} {b : Nat} (hb : b = W.heap.size) (htab : Lib.TabIs Tryd.prog W "internal/strconv.uint64pow10" .u64 Lib.pow10Tab) (hw0 : 0 < W.heap.size) :
    Calls Tryd.prog 7 #[.pointer (some bb), .slice (some ⟨b + 1, 0, none⟩) 1 1] ((W.alloc (.cells #[.int .u8 16, .int .i16 0, .int .i64 0, .int .i64 0] 27)).alloc (.cells #[.slice (some ⟨b, 0, none⟩) 1 1] 24)) fun e w' => ∃ oa cp, e = .returned (.tuple #[.agg #[.int .u8 3, .int .i16 0, .int .i64 0, .int .i64 0, .string ⟨#[]⟩, .int .i64 0, .slice oa 0 cp, .int .i64 10000], .int .i64 0]) ∧ Below W.heap.size W w' :=
  by subst hb; exact run_one bb ⟨16, 0, 0⟩ _ 10010 (by decide) jump_m0 (by decide) htab hw0
theorem run_call (bb : Addr) {W : World} {b : Nat} (hb : b = W.heap.size) (htab : Lib.TabIs Tryd.prog W "internal/strconv.uint64pow10" .u64 Lib.pow10Tab) (hw0 : 0 < W.heap.size) :
    Calls Tryd.prog 7 #[.pointer (some bb), .slice (some ⟨b + 1, 0, none⟩) 1 1] ((W.alloc (.cells #[.int .u8 5, .int .i16 0, .int .i64 0, .int .i64 0] 27)).alloc (.cells #[.slice (some ⟨b, 0, none⟩) 1 1] 24)) fun e w' => ∃ oa cp, e = .returned (.tuple #[.agg #[.int .u8 2, .int .i16 0, .int .i64 0, .int .i64 2, .string ⟨#[]⟩, .int .i64 0, .slice oa 0 cp, .int .i64 64], .int .i64 0]) ∧ Below W.heap.size W w' :=
  by subst hb; exact run_one bb ⟨5, 0, 0⟩ _ 400 (by decide) call_m0 (by decide) htab hw0
theorem run_def (bb : Addr) {W : World} {b : Nat} (hb : b = W.heap.size) (htab : Lib.TabIs Tryd.prog W "internal/strconv.uint64pow10" .u64 Lib.pow10Tab) (hw0 : 0 < W.heap.size) :
    Calls Tryd.prog 7 #[.pointer (some bb), .slice (some ⟨b + 1, 0, none⟩) 1 1] ((W.alloc (.cells #[.int .u8 6, .int .i16 0, .int .i64 0, .int .i64 0] 27)).alloc (.cells #[.slice (some ⟨b, 0, none⟩) 1 1] 24)) fun e w' => ∃ oa cp, e = .returned (.tuple #[.agg #[.int .u8 3, .int .i16 0, .int .i64 0, .int .i64 0, .string ⟨#[]⟩, .int .i64 0, .slice oa 0 cp, .int .i64 10000], .int .i64 0]) ∧ Below W.heap.size W w' :=
  by subst hb; exact run_one bb ⟨6, 0, 0⟩ _ 50000 (by decide) def_m0 (by decide) htab hw0
theorem row_keep {W w' : World} {b : Nat} {o p : Obj} (h : W.heap[b]? = some p) (hb : Below W.heap.size W w') : (w'.alloc o).heap[b]? = some p := by
  have hl := (Array.getElem?_eq_some_iff.1 h).1
  rw [alloc_old _ _ _ (Nat.lt_of_lt_of_le hl hb.size), hb.block _ hl]; exact h
theorem row_keep0 {W w' : World} {b : Nat} {p : Obj} (h : W.heap[b]? = some p) (hb : Below W.heap.size W w') : w'.heap[b]? = some p ∧ ¬ b = w'.heap.size ∧ b < w'.heap.size := by
  have hl := (Array.getElem?_eq_some_iff.1 h).1
  exact ⟨by rw [hb.block _ hl]; exact h, Nat.ne_of_lt (Nat.lt_of_lt_of_le hl hb.size), Nat.lt_of_lt_of_le hl hb.size⟩
theorem closing_lit (w : World) : Calls Tryd.prog 10 #[.nilFunc, .slice none 0 0] w fun e w' => e = .returned (.tuple #[.int .i64 0, .agg #[.int .i64 0, .string ⟨#[]⟩, .int .i64 0]]) ∧ Below w.heap.size w w' := closing_nil w

end Go.Proofs.YtokfnlfadofmnaaDoor
