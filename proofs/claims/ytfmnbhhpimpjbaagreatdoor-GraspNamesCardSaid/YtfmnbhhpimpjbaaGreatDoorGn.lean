/- grasp: all, Find of one type. -/
import Derived.Test.YtfmnbhhpimpjbaaGreatDoorGm
import Derived.Test.YtfmnbhhpimpjbaaGreatDoorVka
import Derived.Deep.QuietTactic
import Derived.BigQuiet
namespace Go.Proofs.YtfmnbhhpimpjbaaGreatDoor
open Go.RowKit
set_option linter.unusedVariables false

def selCode (v : Value) : Option Value := match v with
  | .iface T u => if T = 91 then some u else none
  | _ => none
def OneCell (v : Value) : Prop := v.cells = #[v] ∧ v.oneCell' = true
theorem info_fCode : (Tryz.prog.info? 154).map (fun i => (i.zero, i.size, i.bytes)) = some (some (.agg #[.int .i64 0, .int .i16 0]), 2, 16) := by kernel_rfl
set_option maxRecDepth 100000 in
theorem assert_Code (v : Value) (hv : EV v) (w : World) : (Instr.typeAssert v 20 91 true).run Tryz.prog w = .ok (.tuple #[(selCode v).getD (.int .i16 0), .bool (selCode v).isSome]) w := by
  rcases hv with rfl | ⟨T, u, rfl⟩
  · rfl
  · by_cases h : T = 91
    · subst h; rfl
    · have hs : selCode (.iface T u) = none := by unfold selCode; simp [h]
      rw [hs]
      exact run_typeAssert_no Tryz.underlying91 (by intro _ h; cases h) (by simpa using h) (by kernel_rfl)
set_option maxRecDepth 100000 in
set_option maxHeartbeats 4000000 in
theorem all_Code {D : Nat → Prop} {base bb : Nat} {v : Value} {rows : List BRow} (h : Int) (w : World) (hB : BookIn D w base bb v rows) (hD : ∀ b, D b → b < w.heap.size) (hlen : (nodesF rows h).length ≤ 1000000)
    (hone : ∀ x ∈ (nodesF rows h).map (errAt rows), ∀ u, selCode x = some u → ∃ n, u = .int .i16 n) :
    Calls Tryz.prog 64 #[.pointer (some ⟨bb, 0, none⟩), .int .i64 h] w (AllPost 154 (foundF selCode rows h) (atE rows.length h) w) := by
  have HN := Lib.hid (nodes_any h w hB hD hlen)
  have HEV := Lib.hid (fun x => errAt_ev hB x)
  have HB := Lib.hid hB
  have HONE := Lib.hid hone
  have hlow := Lib.hid (LowBook.of hB hD)
  obtain ⟨ii, hi0, hi1, hi2, hi3⟩ := info_parts info_fCode
  clear hB hone
  by_cases hE : atE rows.length h = 0
  · rw [hE] at HN ⊢
    unfold foundF
    obtain ⟨L, hL⟩ : ∃ L, L = nodesF rows h := ⟨_, rfl⟩
    rw [← hL] at HN HONE hlen ⊢
    clear hL hE
    go_enter Tryz.func64, Tryz.ntmps64
    go_wp2_with fail
    refine HN.out.mono ?_
    rintro e w2 ⟨pa, pc, rfl, hpd, hb2⟩
    have HPD := Lib.hid hpd
    have HB2 := Lib.hid hb2
    have hs2 := hb2.size
    clear hpd hb2 HN
    go_wp2_with fail
    go_loopw [8, 26] (fun u i x => ∃ k : Nat, i = .int .i64 k ∧ k ≤ L.length ∧ x.ownsRow w2.heap.size 154 2 u (foundTo selCode (L.map (errAt rows)) k).length (flatC (foundTo selCode (L.map (errAt rows)) k)) ∧ Below w2.heap.size w2 x) (fun _ i _ => L.length - (intOf i).toNat)
    case atStart => exact ⟨0, rfl, by omega, ⟨rfl, .inl ⟨rfl, rfl⟩⟩, Below.refl _ _⟩
    case round =>
      obtain ⟨k, rfl, hk, hown, hb⟩ := hrel
      have HO := Lib.hid hown
      have HBR := Lib.hid hb
      have hsr := hb.size
      clear hown hb
      by_cases hlt : k < L.length
      · obtain ⟨b, i, cs, t, fr, rfl, hDb, ht, hbb, hcs⟩ := HPD.out (by omega)
        have ck := (cell_of_block ((HBR.out.block _ (lt_of_at hbb)).trans hbb) (i + k)).trans (hcs k hlt)
        obtain ⟨y, hy⟩ : ∃ y, y = L.getD k 0 := ⟨_, rfl⟩
        rw [← hy] at ck
        have hym : y ∈ L := by rw [hy, List.getD_eq_getElem?_getD, List.getElem?_eq_getElem hlt]; exact List.getElem_mem hlt
        have HM := Lib.hid (show errAt rows y ∈ L.map (errAt rows) from List.mem_map_of_mem hym)
        have HS := Lib.hid (show foundTo selCode (L.map (errAt rows)) (k + 1) = foundTo selCode (L.map (errAt rows)) k ++ (match selCode (errAt rows y) with | some u => [((k : Int), u)] | none => []) by
          show foundTo selCode (L.map (errAt rows)) k ++ _ = _
          rw [List.getD_eq_getElem?_getD, List.getElem?_map, List.getElem?_eq_getElem hlt, hy, List.getD_eq_getElem?_getD, List.getElem?_eq_getElem hlt]
          rfl)
        have HC := Lib.hid (error_any y wr ((HB.out.below HB2.out).below HBR.out))
        have hle := foundTo_len selCode (L.map (errAt rows)) k
        have HAS := Lib.hid (assert_Code (errAt rows y) (HEV.out y))
        obtain ⟨ex, hex⟩ : ∃ ex, ex = errAt rows y := ⟨_, rfl⟩
        rw [← hex] at HM HS HC HAS
        have i1 : (k : Int) < (L.length : Int) := by omega
        have hHE := Lib.hid hex
        clear hcs hbb hy hym hex
        obtain ⟨F, hF⟩ : ∃ F, F = foundTo selCode (L.map (errAt rows)) k := ⟨_, rfl⟩
        rw [← hF] at HS HO hle
        clear hF
        cases hsel : selCode ex with
        | none =>
          have ha := HAS.out
          rw [hsel] at ha HS
          simp only [Option.getD_none, Option.isSome_none] at ha
          have HS2 := Lib.hid (HS.out.trans (List.append_nil _))
          clear HS hsel HAS
          go_wp2_with fail
          refine HC.out.mono ?_
          rintro e w3 ⟨rfl, hb3⟩
          have HB3 := Lib.hid (HBR.out.trans (hb3.mono hsr))
          have HO3 := Lib.hid (ownsRow_below HO.out hb3 (Nat.le_refl _))
          clear hb3 HC
          go_wp2
          go_roundw
          case rel => exact ⟨k + 1, by go_num, by omega, by rw [HS2.out]; exact HO3.out, HB3.out⟩
          case measure => simp [intOf]; omega
        | some u =>
          have ha := HAS.out
          rw [hsel] at ha HS
          simp only [Option.getD_some, Option.isSome_some] at ha
          obtain ⟨n, rfl⟩ := HONE.out ex HM.out u hsel
          clear hsel HAS
          go_wp2_with fail
          refine HC.out.mono ?_
          rintro e w3 ⟨rfl, hb3⟩
          have HB3 := Lib.hid (HBR.out.trans (hb3.mono hsr))
          have ho3 := ownsRow_below HO.out hb3 (Nat.le_refl _)
          have hs3 := hb3.size
          clear hb3 HC
          go_wp2_with (at_builtin; refine wpList_append_place _ rfl (.tmp 43) (.tmp 47) 150 rfl w2.heap.size 154 ii (.agg #[.int .i64 0, .int .i16 0]) 2 16 Tryz.underlying150 hi0 hi1 hi2 hi3 rfl (by decide) _ _ _ rfl (ho3.alloc _) ⟨w3.heap.size, 0, none⟩ 1 1 [.int .i64 k, .int .i16 n] rfl rfl (by intro m z hz; rcases m with _ | _ | m <;> simp at hz <;> subst hz <;> exact cell_of_block (alloc_at _ _) _) (by intro z hz; simp at hz; rcases hz with rfl | rfl <;> rfl) (by simp only [maxLen]; omega) (by omega) (by simp; omega) (by decide) ?_)
          intro v4 w4 hown4 hg4 _
          have HO4 := Lib.hid hown4
          have HB4 := Lib.hid ((HB3.out.alloc HB3.out.size _).grown hg4 (by simp; omega) (fun g hg => (own_at ho3 hg).1))
          clear hown4 hg4 ho3
          go_wp2_with fail
          exact ⟨⟨k + 1, by go_num, by omega, by rw [HS.out, flatC_snoc, List.length_append]; exact HO4.out, HB4.out⟩, by simp [intOf]; omega⟩
      · obtain rfl : k = L.length := by omega
        have HO5 := Lib.hid (ownsRow_mono HO.out hs2)
        have HB5 := Lib.hid (HB2.out.trans (HBR.out.mono hs2))
        clear HO
        go_wp2
        go_ret2
        exact ⟨_, rfl, HO5.out, HB5.out⟩
  · have hE2 : (atE rows.length h != 0) = true := by simpa using hE
    have hF : foundF selCode rows h = [] := by
      have hn : nodesF rows h = [] := by unfold nodesF; rw [if_neg (fun q => hE (by unfold atE; rw [if_pos (by omega)]))]
      unfold foundF; rw [hn]; rfl
    rw [hF]
    obtain ⟨E, hEE⟩ : ∃ E, E = atE rows.length h := ⟨_, rfl⟩
    rw [← hEE] at HN hE2 ⊢
    clear hE hEE hF
    go_enter Tryz.func64, Tryz.ntmps64
    go_wp2_with fail
    refine HN.out.mono ?_
    rintro e w2 ⟨pa, pc, rfl, hpd, hb2⟩
    have HB2 := Lib.hid hb2
    clear hpd hb2 HN
    go_wp2_with fail
    go_ret2
    exact ⟨_, rfl, ⟨rfl, .inl ⟨rfl, rfl⟩⟩, HB2.out⟩
end Go.Proofs.YtfmnbhhpimpjbaaGreatDoor
