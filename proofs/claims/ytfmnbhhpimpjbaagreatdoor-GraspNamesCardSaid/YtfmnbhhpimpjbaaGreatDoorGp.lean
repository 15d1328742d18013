/- grasp: Find of a Code; of any, of no error. -/
import Derived.Test.YtfmnbhhpimpjbaaGreatDoorGn
namespace Go.Proofs.YtfmnbhhpimpjbaaGreatDoor
open Go.RowKit
set_option linter.unusedVariables false

set_option maxRecDepth 100000 in
theorem find_Code_none {D : Nat → Prop} {base bb : Nat} {v : Value} {rows : List BRow} (h : Int) (w : World) (hB : BookIn D w base bb v rows) (hD : ∀ b, D b → b < w.heap.size) (hlen : (nodesF rows h).length ≤ 1000000)
    (hone : ∀ x ∈ (nodesF rows h).map (errAt rows), ∀ u, selCode x = some u → ∃ n, u = .int .i16 n) (hE : atE rows.length h = 0) (hF : foundF selCode rows h = []) :
    Calls Tryz.prog 39 #[.pointer (some ⟨bb, 0, none⟩), .int .i64 h] w fun e w' => e = .returned (.tuple #[.int .i16 0, .int .i64 0, .int .i64 100]) ∧ Below w.heap.size w w' := by
  have HA := Lib.hid (all_Code h w hB hD hlen hone)
  rw [hF, hE] at HA
  clear hB hD hlen hone hE hF
  go_enter Tryz.func39, Tryz.ntmps39
  go_wp2_with fail
  refine HA.out.mono ?_
  rintro e w2 ⟨v', rfl, ho, hb⟩
  obtain ⟨a, c, rfl⟩ := own_slice_form ho
  have HB := Lib.hid hb
  clear ho hb HA
  go_wp2
  exact bodyPost_ret (results_tmp3 rfl _ _ _) rfl ⟨rfl, HB.out⟩
set_option maxRecDepth 100000 in
theorem find_Code_some {D : Nat → Prop} {base bb : Nat} {v : Value} {rows : List BRow} (h : Int) (w : World) (hB : BookIn D w base bb v rows) (hD : ∀ b, D b → b < w.heap.size) (hlen : (nodesF rows h).length ≤ 1000000)
    (hone : ∀ x ∈ (nodesF rows h).map (errAt rows), ∀ u, selCode x = some u → ∃ n, u = .int .i16 n) (hE : atE rows.length h = 0) (i n : Int) (F : List (Int × Value)) (hF : foundF selCode rows h = (i, .int .i16 n) :: F) :
    Calls Tryz.prog 39 #[.pointer (some ⟨bb, 0, none⟩), .int .i64 h] w fun e w' => e = .returned (.tuple #[.int .i16 n, .int .i64 i, .int .i64 0]) ∧ Below w.heap.size w w' := by
  have HA := Lib.hid (all_Code h w hB hD hlen hone)
  rw [hF, hE] at HA
  clear hB hD hlen hone hE hF
  go_enter Tryz.func39, Tryz.ntmps39
  go_wp2_with fail
  refine HA.out.mono ?_
  rintro e w2 ⟨v', rfl, ho, hb⟩
  obtain ⟨a, c, rfl⟩ := own_slice_form ho
  obtain ⟨g, rfl⟩ : ∃ g, a = some ⟨g, 0, none⟩ := by
    rcases ho.2 with ⟨h1, h2⟩ | ⟨g, cap, cur, h1, _⟩
    · cases h2
    · cases h1; exact ⟨_, rfl⟩
  have c0 : w2.cell? ⟨g, 0, none⟩ = some (.int .i64 i) := World.ownsRow.cells (g := g) ho rfl 0 _ rfl
  have c1 : w2.cell? ⟨g, 1, none⟩ = some (.int .i16 n) := World.ownsRow.cells (g := g) ho rfl 1 _ rfl
  have j1 : ((((i, Value.int .i16 n) :: F).length : Nat) : Int) = (F.length : Int) + 1 := by simp
  obtain ⟨m, hm⟩ : ∃ m, m = ((i, Value.int .i16 n) :: F).length := ⟨_, rfl⟩
  rw [← hm]
  have j2 : (0 : Int) < (m : Int) := by rw [hm]; simp
  have j3 : 0 < m := by omega
  have j4 : ((m : Int) == 0) = false := by simp; omega
  have HB := Lib.hid hb
  clear ho hb HA j1 hm
  go_wp2_with fail
  go_quiet (fail)
  go_wp2
  exact bodyPost_ret (results_tmp3 rfl _ _ _) rfl ⟨rfl, below_dN HB.out⟩
set_option maxRecDepth 100000 in
theorem all_any0 {D : Nat → Prop} {base bb : Nat} {v : Value} {rows : List BRow} (w : World) (hB : BookIn D w base bb v rows) (hD : ∀ b, D b → b < w.heap.size) :
    Calls Tryz.prog 38 #[.pointer (some ⟨bb, 0, none⟩), .int .i64 0] w fun e w' => e = .returned (.tuple #[.slice none 0 0, .int .i64 0]) ∧ Below w.heap.size w w' := by
  have hn : nodesF rows 0 = [] := by unfold nodesF; rw [if_neg (by omega)]
  have hE : atE rows.length 0 = 0 := by unfold atE; rw [if_pos (by omega)]
  have HN := Lib.hid (nodes_any 0 w hB hD (by rw [hn]; simp))
  rw [hn, hE] at HN
  clear hB hD hn hE
  go_enter Tryz.func38, Tryz.ntmps38
  go_wp2_with fail
  refine HN.out.mono ?_
  rintro e w2 ⟨pa, pc, rfl, _, hb2⟩
  have HB2 := Lib.hid hb2
  clear hb2 HN
  go_wp2_with fail
  go_loopw [8, 26] (fun u i x => i = .int .i64 0 ∧ u = .slice none 0 0 ∧ x = w2) (fun _ _ _ => 0)
  case atStart => exact ⟨rfl, rfl, rfl⟩
  case round =>
    obtain ⟨rfl, rfl, rfl⟩ := hrel
    go_wp2
    go_ret2
    exact ⟨rfl, HB2.out⟩
set_option maxRecDepth 100000 in
theorem find_any0 {D : Nat → Prop} {base bb : Nat} {v : Value} {rows : List BRow} (w : World) (hB : BookIn D w base bb v rows) (hD : ∀ b, D b → b < w.heap.size) :
    Calls Tryz.prog 21 #[.pointer (some ⟨bb, 0, none⟩), .int .i64 0] w fun e w' => e = .returned (.tuple #[.nilIface, .int .i64 0, .int .i64 100]) ∧ Below w.heap.size w w' := by
  have HA := Lib.hid (all_any0 w hB hD)
  clear hB hD
  go_enter Tryz.func21, Tryz.ntmps21
  go_wp2_with fail
  refine HA.out.mono ?_
  rintro e w2 ⟨rfl, hb⟩
  have HB := Lib.hid hb
  clear hb HA
  go_wp2
  exact bodyPost_ret (results_tmp3 rfl _ _ _) rfl ⟨rfl, HB.out⟩
set_option maxRecDepth 100000 in
theorem count_any0 {D : Nat → Prop} {base bb : Nat} {v : Value} {rows : List BRow} (w : World) (hB : BookIn D w base bb v rows) (hD : ∀ b, D b → b < w.heap.size) :
    Calls Tryz.prog 22 #[.pointer (some ⟨bb, 0, none⟩), .int .i64 0] w fun e w' => e = .returned (.tuple #[.int .i64 0, .int .i64 0]) ∧ Below w.heap.size w w' := by
  have HA := Lib.hid (all_any0 w hB hD)
  clear hB hD
  go_enter Tryz.func22, Tryz.ntmps22
  go_wp2_with fail
  refine HA.out.mono ?_
  rintro e w2 ⟨rfl, hb⟩
  have HB := Lib.hid hb
  clear hb HA
  go_wp2
  go_ret2
  exact ⟨rfl, HB.out⟩
set_option maxRecDepth 100000 in
theorem value_any {D : Nat → Prop} {base bb : Nat} {v : Value} {rows : List BRow} (h : Int) (w : World) (hB : BookIn D w base bb v rows) :
    Calls Tryz.prog 33 #[.pointer (some ⟨bb, 0, none⟩), .int .i64 h] w fun e w' => e = .returned (.tuple #[errAt rows h, .int .i64 (atE rows.length h)]) ∧ Below w.heap.size w w' := by
  have HE := Lib.hid (error_any h w hB)
  clear hB
  go_enter Tryz.func33, Tryz.ntmps33
  go_wp2_with fail
  refine HE.out.mono ?_
  rintro e w2 ⟨rfl, hb⟩
  have HB := Lib.hid hb
  clear hb HE
  go_wp2
  go_ret2
  exact ⟨rfl, HB.out⟩
end Go.Proofs.YtfmnbhhpimpjbaaGreatDoor
