/- grasp: Nodes; what is found is told as a list. -/
import Derived.Test.YtfmnbhhpimpjbaaGreatDoorGl
namespace Go.Proofs.YtfmnbhhpimpjbaaGreatDoor
open Go.RowKit
set_option linter.unusedVariables false

theorem run_typeAssert_no {P : Program} {w : World} {T A xT : TypeId} {x z : Value} {u : TypeDesc} (hu : P.underlying A = some u) (hni : ∀ want : Array (String × TypeId), u ≠ TypeDesc.interface want) (hne : (T == A) = false) (hz : (P.info? A).map (·.zero) = some (some z)) :
    (Instr.typeAssert (.iface T x) xT A true).run P w = .ok (.tuple #[z, .bool false]) w := by
  obtain ⟨j, hj, hz'⟩ := Option.map_eq_some_iff.1 hz
  have hne' : T ≠ A := by simpa using hne
  cases u <;> first | (exact absurd rfl (hni _)) | simp [Instr.typeAssert, run_underlying hu, zeroValue, typeInfo, hj, hz', hne']
/-- All within an error; of what names none nothing. -/
def nodesF (rows : List BRow) (h : Int) : List Int := if 1 ≤ h ∧ h ≤ rows.length then withinF rows rows.length h else []
def NodesPost (L : List Int) (E : Int) (w : World) (e : Ending) (w' : World) : Prop := ∃ a c, e = .returned (.tuple #[.slice a L.length c, .int .i64 E]) ∧ PartsD (Fresh w w') w' a L ∧ Below w.heap.size w w'
set_option maxRecDepth 100000 in
theorem nodes_any {D : Nat → Prop} {base bb : Nat} {v : Value} {rows : List BRow} (h : Int) (w : World) (hB : BookIn D w base bb v rows) (hD : ∀ b, D b → b < w.heap.size) (hlen : (nodesF rows h).length ≤ 1000000) :
    Calls Tryz.prog 19 #[.pointer (some ⟨bb, 0, none⟩), .int .i64 h] w (NodesPost (nodesF rows h) (atE rows.length h) w) := by
  have HE := Lib.hid (error_any h w hB)
  have hlow := LowBook.of hB hD
  by_cases hin : 1 ≤ h ∧ h ≤ rows.length
  · have hE : atE rows.length h = 0 := by unfold atE; rw [if_pos (by omega)]
    have hN : nodesF rows h = withinF rows rows.length h := by unfold nodesF; rw [if_pos hin]
    rw [hE] at HE ⊢
    rw [hN] at hlen ⊢
    have h0 : (h == 0) = false := by simp; omega
    have HW := Lib.hid (fun w2 (hb2 : Below w.heap.size w w2) => within_any hlow rows.length h hin.2 (.slice none 0 0) [] w2 (hB.below hb2) hb2.size ⟨rfl, .inl ⟨rfl, rfl⟩⟩ (by simpa using hlen))
    clear hB hD hlow hlen hin hE hN
    go_enter Tryz.func19, Tryz.ntmps19
    go_wp2_with fail
    refine HE.out.mono ?_
    rintro e w2 ⟨rfl, hb2⟩
    have HW2 := Lib.hid (HW.out w2 hb2)
    have HB2 := Lib.hid hb2
    have hs2 := hb2.size
    clear HW HE hb2
    go_wp2_with fail
    refine HW2.out.mono ?_
    rintro e w3 ⟨l3, rfl, ho, hex, hpl⟩
    unfold OwnI at ho
    simp only [List.nil_append] at ho
    obtain ⟨a', c', rfl, hn', hd⟩ := own_cells1 ho
    have HD := Lib.hid hd
    have HX := Lib.hid (HB2.out.trans ((hex.to_below (fun b _ q => by cases q)).mono hs2))
    have HOB := Lib.hid (fun g hg => (hpl g hg).resolve_left (fun q => by cases q))
    clear ho hd hpl hex HW2 hn'
    go_wp2
    go_ret2
    refine ⟨a', c', rfl, fun h => ?_, HX.out⟩
    obtain ⟨g, cs, ha, hge, hh, hc⟩ := HD.out h
    refine ⟨g, 0, cs, _, _, ha, ⟨by omega, lt_of_at hh⟩, by decide, hh, fun j hj => ?_⟩
    rw [hc j hj, List.getElem?_map, List.getElem?_eq_getElem hj, List.getD_eq_getElem?_getD, List.getElem?_eq_getElem hj]
    rfl
  · have hN : nodesF rows h = [] := by unfold nodesF; rw [if_neg hin]
    rw [hN]
    by_cases h0 : h = 0
    · have hE : atE rows.length h = 0 := by unfold atE; rw [if_pos (by omega)]
      rw [hE] at HE ⊢
      have h0' : (h == 0) = true := by simpa using h0
      clear hB hD hlow hlen hin hE hN h0
      go_enter Tryz.func19, Tryz.ntmps19
      go_wp2_with fail
      refine HE.out.mono ?_
      rintro e w2 ⟨rfl, hb2⟩
      have HB2 := Lib.hid hb2
      clear HE hb2
      go_wp2
      go_ret2
      exact ⟨none, 0, rfl, fun h => by simp at h, HB2.out⟩
    · have hE : atE rows.length h = 50 := by unfold atE; rw [if_neg (by omega)]
      rw [hE] at HE ⊢
      clear hB hD hlow hlen hin hE hN h0
      go_enter Tryz.func19, Tryz.ntmps19
      go_wp2_with fail
      refine HE.out.mono ?_
      rintro e w2 ⟨rfl, hb2⟩
      have HB2 := Lib.hid hb2
      clear HE hb2
      go_wp2
      go_ret2
      exact ⟨none, 0, rfl, fun h => by simp at h, HB2.out⟩

/-- Those of some values that are chosen, with their places. -/
def foundTo (sel : Value → Option Value) (vs : List Value) : Nat → List (Int × Value)
  | 0 => []
  | k + 1 => foundTo sel vs k ++ (match sel (vs.getD k .nilIface) with | some u => [((k : Int), u)] | none => [])
theorem foundTo_len (sel : Value → Option Value) (vs : List Value) (k : Nat) : (foundTo sel vs k).length ≤ k := by
  induction k with
  | zero => simp [foundTo]
  | succ k ih =>
    simp only [foundTo, List.length_append]
    split <;> simp <;> omega
def flatC (l : List (Int × Value)) : List Value := l.flatMap fun p => [.int .i64 p.1, p.2]
theorem flatC_snoc (l : List (Int × Value)) (i : Int) (u : Value) : flatC (l ++ [(i, u)]) = flatC l ++ [.int .i64 i, u] := by simp [flatC]
/-- What is found of all within an error. -/
def foundF (sel : Value → Option Value) (rows : List BRow) (h : Int) : List (Int × Value) := foundTo sel ((nodesF rows h).map (errAt rows)) (nodesF rows h).length
def AllPost (T : TypeId) (F : List (Int × Value)) (E : Int) (w : World) (e : Ending) (w' : World) : Prop :=
  ∃ v', e = .returned (.tuple #[v', .int .i64 E]) ∧ w'.ownsRow w.heap.size T 2 v' F.length (flatC F) ∧ Below w.heap.size w w'
end Go.Proofs.YtfmnbhhpimpjbaaGreatDoor
