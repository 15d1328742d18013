/- BookLimits: texts as long as may be. -/
import Derived.Test.YtfmnbhhpimpjbaaGreatDoorLe
namespace Go.Proofs.YtfmnbhhpimpjbaaGreatDoor
open Go.RowKit
set_option linter.unusedVariables false

theorem note_err {D : Nat → Prop} {x : World} {rows : List BRow} {i : Nat} {r : BRow} {t : ByteArray} (h : RowOk D x rows i r) (hs : r.sp = spL 2 t 0 [] []) : r.err = .iface 176 (.string t) := by
  have q := h.err
  rw [hs] at q
  cases q with
  | nil hn _ => cases hn
  | leaf hn hk h => exact h
  | box hn hk hb a c h hi => cases hk
  | mark hn hk _ => cases hk
  | tags hn hk _ _ => cases hk
  | plain hn hk _ => cases hk
  | quiet hn hk _ => cases hk
  | echo hn hk _ => cases hk
  | guise hn hk _ => cases hk
  | lazy hn hk _ _ _ => cases hk
  | line hn hk _ _ => cases hk
  | bag hn hk _ _ _ _ => cases hk
  | hold hn hk _ => cases hk
  | wrap hn hk _ => cases hk
  | over hn hk _ => cases hk
  | join hn hk _ _ _ _ => cases hk
  | timed hn hk _ => cases hk
  | placed hn hk _ => cases hk
  | veil hn hk _ => cases hk
  | slow hn hk _ _ _ _ _ => cases hk
  | full hn hk _ => cases hk
  | opaq hn hk _ _ _ _ => cases hk
theorem join_err {D : Nat → Prop} {x : World} {rows : List BRow} {i : Nat} {r : BRow} {l : List Int} (h : RowOk D x rows i r) (hs : r.sp = spL 16 e0 0 [] l) :
    ∃ jb a c, r.err = .iface 129 (.pointer (some ⟨jb, 0, none⟩)) ∧ x.heap[jb]? = some (.cells #[.slice a l.length c] 132 (0, 0)) ∧ ErrsD D x a (l.map (errAt rows)) := by
  have q := h.err
  rw [hs] at q
  cases q with
  | nil hn _ => cases hn
  | leaf hn hk h => exfalso; revert hk; simp [spL]
  | box hn hk hb a c h hi => cases hk
  | mark hn hk _ => cases hk
  | tags hn hk _ _ => cases hk
  | plain hn hk _ => cases hk
  | quiet hn hk _ => cases hk
  | echo hn hk _ => cases hk
  | guise hn hk _ => cases hk
  | lazy hn hk _ _ _ => cases hk
  | line hn hk _ _ => cases hk
  | bag hn hk _ _ _ _ => cases hk
  | hold hn hk _ => cases hk
  | wrap hn hk _ => cases hk
  | over hn hk _ => cases hk
  | join hn hk a c h hp =>
    obtain ⟨_, jb, hv, _, hj⟩ := h
    exact ⟨jb, a, c, hv, by rw [List.length_map] at hj; exact hj, hp⟩
  | timed hn hk _ => cases hk
  | placed hn hk _ => cases hk
  | veil hn hk _ => cases hk
  | slow hn hk _ _ _ _ _ => cases hk
  | full hn hk _ => cases hk
  | opaq hn hk _ _ _ _ => cases hk
/-- Text of a Join of Notes. -/
theorem text_join {w0 : World} {bb : Nat} {rows : List BRow} (x : World) (hk : Wk w0 bb rows x) (h : Int) (hh : 1 ≤ h ∧ h ≤ rows.length) (l : List Int) (hs : (rowAt rows h).sp = spL 16 e0 0 [] l) (h0 : 0 < l.length) (h64 : l.length ≤ 64) (F : Int → ByteArray)
    (hF : ∀ p ∈ l, errAt rows p = .iface 176 (.string (F p))) (hsum : (Lib.join ((l.map F).map (·.data.toList)) (ByteArray.mk #[10]).data.toList).length ≤ 140737488355328) :
    Calls Tryz.prog 29 #[.pointer (some ⟨bb, 0, none⟩), .int .i64 h] x fun e y => e = .returned (.tuple #[.string (joinB (l.map F)), .agg panZ', .int .i64 0]) ∧ Below x.heap.size x y := by
  obtain ⟨D, v, hB, hD, hb⟩ := hk
  obtain ⟨jb, a, c, he, hj, hp⟩ := join_err (hB.ok _ _ (rowAt_in rows h hh.1 hh.2)) hs
  refine text_ok h x hB (by unfold atE; rw [if_pos (by omega)]) _ _ (by rw [← rowAt_err]; exact he) _ (fun y hy => told_join jb y _ (fun z hz => ?_))
  have hxz : Below x.heap.size x z := hy.trans (hz.mono hy.size)
  have hjz := (hxz.block _ (lt_of_at hj)).trans hj
  obtain ⟨b, i, cs, t, fr, ha, _, _, hbb, hcs⟩ := hp (by simpa using h0)
  have hbz := (hxz.block _ (lt_of_at hbb)).trans hbb
  have hl : (l.map F).length = l.length := List.length_map _
  have := join_error jb a c (l.map F) z (by rw [hl]; exact hjz) ⟨b, i, cs, t, fr, ha, hbz, fun j hj => by
    rw [hl] at hj
    rw [hcs j (by simpa using hj)]
    simp only [List.getD_eq_getElem?_getD, List.getElem?_map, List.getElem?_eq_getElem hj, Option.map_some, Option.getD_some]
    rw [hF _ (List.getElem_mem hj)]⟩ (by omega) (by omega) hsum
  exact this
theorem data_len (S : ByteArray) : S.data.toList.length = S.size := by show S.data.toList.length = S.data.size; simp
/-- How long it is. -/
theorem join_len (n : Nat) (S S' : ByteArray) : (Lib.join ((List.replicate n S ++ [S']).map (·.data.toList)) (ByteArray.mk #[10]).data.toList).length = n * (S.size + 1) + S'.size := by
  induction n with
  | zero =>
    show (Lib.join [S'.data.toList] _).length = _
    rw [Lib.join_one, data_len]; omega
  | succ n ih =>
    rw [List.replicate_succ, List.cons_append, List.map_cons, Lib.join_cons]
    have e : (Lib.join ((List.replicate n S ++ [S']).map (·.data.toList)) (ByteArray.mk #[10]).data.toList).length + 1 = (Lib.joinTail (ByteArray.mk #[10]).data.toList ((List.replicate n S ++ [S']).map (·.data.toList))).length := by
      cases n with
      | zero =>
        show (Lib.join [S'.data.toList] _).length + 1 = ([10] ++ S'.data.toList ++ []).length
        rw [Lib.join_one]; simp
      | succ n =>
        rw [List.replicate_succ, List.cons_append, List.map_cons, Lib.join_cons]
        simp only [Lib.joinTail, List.map_cons, List.flatten_cons, List.length_append]
        simp; omega
    rw [List.length_append, ← e, ih]
    rw [data_len, Nat.add_mul]; omega
end Go.Proofs.YtfmnbhhpimpjbaaGreatDoor
