/- kinds: the text of a Join of Notes. -/
import Derived.Test.YtfmnbhhpimpjbaaGreatDoorLd
namespace Go.Proofs.YtfmnbhhpimpjbaaGreatDoor
open Go.RowKit
set_option linter.unusedVariables false

theorem note_error (s : ByteArray) (w : World) : Calls Tryz.prog 247 #[.string s] w fun e w' => e = .returned (.string s) ∧ w = w' := by
  go_enter Tryz.func247, Tryz.ntmps247
  go_wp2
  go_ret
  exact ⟨rfl, rfl⟩
def joinB (L : List ByteArray) : ByteArray := ⟨(Lib.join (L.map (·.data.toList)) (ByteArray.mk #[10]).data.toList).toArray⟩
theorem getD_take_snoc (L : List ByteArray) (k : Nat) (h : k < L.length) : L.take (k + 1) = L.take k ++ [L.getD k ⟨#[]⟩] := by
  rw [List.take_add_one, List.getD_eq_getElem?_getD, List.getElem?_eq_getElem h]; rfl
set_option maxRecDepth 100000 in
set_option maxHeartbeats 4000000 in
theorem join_error (jb : Nat) (a : Option Addr) (c : Nat) (L : List ByteArray) (w : World) (hj : w.heap[jb]? = some (.cells #[.slice a L.length c] 132 (0, 0)))
    (hv : ∃ b i cs t fr, a = some ⟨b, i, none⟩ ∧ w.heap[b]? = some (.cells cs t fr) ∧ ∀ j, j < L.length → cs[i + j]? = some (.iface 176 (.string (L.getD j ⟨#[]⟩)))) (h0 : 0 < L.length) (hlen : L.length ≤ 64) (hsum : (Lib.join (L.map (·.data.toList)) (ByteArray.mk #[10]).data.toList).length ≤ 140737488355328) :
    Calls Tryz.prog 203 #[.pointer (some ⟨jb, 0, none⟩)] w fun e z => e = .returned (.string (joinB L)) ∧ Below w.heap.size w z := by
  have hneq : ∀ (u : Value) (w : World), (binOp .neq 39 (.iface 176 u) .nilIface).run Tryz.prog w = .ok (.bool true) w := fun _ w => by rfl
  have hm : ∀ (n : Nat) (s : ByteArray) (w : World), (method (n + 1) 176 (.string s) "Error").run Tryz.prog w = .ok (247, .string s) w := fun _ _ _ => by kernel_rfl
  obtain ⟨is, hs0, hs1, hs2, hs3⟩ := info_parts info_str
  obtain ⟨b, i, cs, t, fr, rfl, hb, hcs⟩ := hv
  have c0 : w.cell? ⟨jb, 0, none⟩ = some (.slice (some ⟨b, i, none⟩) L.length c) := cell_of_block hj 0
  have HBk := Lib.hid hb
  have HCS := Lib.hid hcs
  have HSUM := Lib.hid hsum
  clear hj hb hcs hsum
  go_enter Tryz.func203, Tryz.ntmps203
  go_wp2_with fail
  go_loopw [3, 11] (fun u i x => ∃ k : Nat, i = .int .i64 k ∧ k ≤ L.length ∧ x.ownsRow w.heap.size 9 1 u (L.take k).length ((L.take k).map .string) ∧ Below w.heap.size w x) (fun _ i _ => L.length - (intOf i).toNat)
  case atStart => exact ⟨0, rfl, by omega, ⟨rfl, .inl ⟨rfl, rfl⟩⟩, Below.refl _ _⟩
  case round =>
    obtain ⟨k, rfl, hk, hown, hbel⟩ := hrel
    have hsz := hbel.size
    have HBEL := Lib.hid hbel
    clear hbel c0
    by_cases hlt : k < L.length
    · have ck := (cell_of_block ((HBEL.out.block _ (lt_of_at HBk.out)).trans HBk.out) (i + k)).trans (HCS.out k hlt)
      have HTK := Lib.hid (getD_take_snoc L k hlt)
      obtain ⟨s, hs⟩ : ∃ s, s = L.getD k ⟨#[]⟩ := ⟨_, rfl⟩
      rw [← hs] at ck HTK
      have i1 : (k : Int) < (L.length : Int) := by omega
      have hl2 : (L.take k).length ≤ 64 := by rw [List.length_take]; omega
      clear hs
      go_wp2_with (first | (go_at_call 247; refine (note_error _ _).mono ?_; rintro e w' ⟨rfl, rfl⟩) | (at_builtin; refine wpList_append_own _ rfl (.tmp 17) (.tmp 20) 32 rfl w.heap.size 9 is (.string ⟨#[]⟩) 1 16 Tryz.underlying32 hs0 hs1 hs2 hs3 rfl (by decide) _ _ _ rfl (hown.alloc _) ⟨wr.heap.size, 0, none⟩ 1 1 [.string s] rfl rfl (by intro m z hz; rcases m with _ | m <;> simp at hz; subst hz; exact cell_of_block (alloc_at _ _) 0) (by intro z hz; simp at hz; subst hz; rfl) (by simp only [maxLen]; omega) (by omega) (by simp; omega) ?_; intro v4 w4 hown4 hg4 _; have HO4 := Lib.hid hown4; have HB4 := Lib.hid ((HBEL.out.alloc hsz _).grown hg4 (by simp; omega) (fun g hg => (own_at hown hg).1)); clear hown4 hg4 hown))
      exact ⟨⟨k + 1, by go_num, by omega, by rw [HTK.out, List.length_append, List.map_append]; exact HO4.out, HB4.out⟩, by simp [intOf]; omega⟩
    · obtain rfl : k = L.length := by omega
      rw [List.take_length] at hown
      obtain ⟨a', c', hv, hn', hd⟩ := own_cells1 hown
      subst hv
      obtain ⟨g, cs', ha, hge, hh, hc⟩ := hd h0
      subst ha
      have hcap : L.length ≤ c' := by
        rcases hown.2 with ⟨q, _⟩ | ⟨g', cap, cur, q, _, _, hn, _⟩
        · cases q
        · cases q; exact hn
      have HJ := Lib.hid (Tryz.strings_Join g 0 c' L ⟨#[10]⟩ wr (fun j x hx => by
        have hj := (List.getElem?_eq_some_iff.1 hx).1
        rw [cell_of_block hh, hc j hj, List.getElem?_map, hx]; rfl) (lt_of_at hh) (by omega) hcap HSUM.out)
      clear hown hd hn' hh hc
      go_wp2_with fail
      refine HJ.out.mono ?_
      rintro e w5 ⟨rfl, hb5⟩
      have HB5 := Lib.hid (HBEL.out.trans (hb5.mono hsz))
      clear hb5 HJ
      go_wp2
      go_ret
      exact ⟨rfl, HB5.out⟩
set_option maxRecDepth 100000 in
set_option maxHeartbeats 2000000 in
/-- Text, where the error's is told without a panic. -/
theorem text_ok {D : Nat → Prop} {base bb : Nat} {v : Value} {rows : List BRow} (h : Int) (w : World) (hB : BookIn D w base bb v rows) (hE : atE rows.length h = 0) (T : TypeId) (u : Value) (he : errAt rows h = .iface T u) (s : ByteArray)
    (hT : ∀ y, Below w.heap.size w y → Calls Tryz.prog 61 #[.iface T u] y fun e z => e = .returned (.tuple #[.string s, .agg panZ']) ∧ Below y.heap.size y z) :
    Calls Tryz.prog 29 #[.pointer (some ⟨bb, 0, none⟩), .int .i64 h] w fun e y => e = .returned (.tuple #[.string s, .agg panZ', .int .i64 0]) ∧ Below w.heap.size w y := by
  have hneq : ∀ (w : World), (binOp .eql 39 (.iface T u) .nilIface).run Tryz.prog w = .ok (.bool false) w := fun w => by rfl
  have hb1 : Below w.heap.size w (w.alloc (.cells panZ' 44)) := (Below.refl _ _).alloc (Nat.le_refl _) _
  have HA := Lib.hid (at_any h _ (hB.below hb1))
  rw [hE] at HA
  have HER := Lib.hid ((rowAt_err rows h).trans he)
  have HP1 := Lib.hid (alloc_at w (.cells panZ' 44))
  have HB1 := Lib.hid hb1
  have HT := Lib.hid hT
  clear hB hE he hb1 hT
  unfold panZ' at HA HP1 HB1 HT
  go_enter Tryz.func29, Tryz.ntmps29
  go_wp2_with fail
  refine HA.out.mono ?_
  rintro e w2 ⟨g, o, rfl, hc, hb, _⟩
  have c0 : w2.cell? ⟨g, o, none⟩ = some (.iface T u) := (hc 0 (by omega)).trans (by rw [← HER.out]; rfl)
  have HP2 := Lib.hid ((hb.block _ (lt_of_at HP1.out)).trans HP1.out)
  have HB2 := Lib.hid (HB1.out.trans (hb.mono HB1.out.size))
  have HTT := Lib.hid (HT.out w2 HB2.out)
  clear hc hb HA HT
  go_wp2_with fail
  refine HTT.out.mono ?_
  rintro e w3 ⟨rfl, hb3⟩
  have HP3 := Lib.hid ((hb3.block _ (lt_of_at HP2.out)).trans HP2.out)
  have HB3 := Lib.hid (HB2.out.trans (hb3.mono HB2.out.size))
  clear hb3 HTT c0
  go_wp2_with ((with_reducible refine at_op (.store 44 (.tmp 10) (.tmp 31)) rfl ?_); refine wpList_store_new rfl 44 (.tmp 10) (.tmp 31) rfl w3.heap.size rfl _ _ rfl _ rfl (by kernel_rfl) rfl (by simp [Value.oneCell']) ?_)
  have hb4 : Below w3.heap.size w3 (w3.alloc (.cells #[.int .i64 0, .string ⟨#[]⟩, .int .i64 0] 44)) := (Below.refl _ _).alloc (Nat.le_refl _) _
  have HP4 := Lib.hid ((hb4.block _ (lt_of_at HP3.out)).trans HP3.out)
  have HB4 := Lib.hid (HB3.out.trans (hb4.mono HB3.out.size))
  have n0 := cell_of_block (alloc_at w3 (.cells #[.int .i64 0, .string ⟨#[]⟩, .int .i64 0] 44)) 0
  have n1 := cell_of_block (alloc_at w3 (.cells #[.int .i64 0, .string ⟨#[]⟩, .int .i64 0] 44)) 1
  have n2 := cell_of_block (alloc_at w3 (.cells #[.int .i64 0, .string ⟨#[]⟩, .int .i64 0] 44)) 2
  have q0 := cell_of_block HP4.out 0
  have q1 := cell_of_block HP4.out 1
  have q2 := cell_of_block HP4.out 2
  have qf := fun i => frozen_of_block HP4.out i
  clear hb4
  go_region
  go_wp2
  refine bodyPost_ret (results_trt rfl _ _ w.heap.size 44 panZ' (0, 0) _ rfl ?_ Tryz.underlying44 rfl (by kernel_rfl)) rfl ⟨rfl, ?_⟩
  · refine (heap_setCell_same _ w.heap.size 2 _ _ _ (heap_setCell_same _ w.heap.size 1 _ _ _ (heap_setCell_same _ w.heap.size 0 _ _ _ HP4.out))).trans ?_
    rfl
  · refine Below.drew ?_
    refine Below.setCell (Below.setCell (Below.setCell HB4.out ?_ _) ?_ _) ?_ _ <;> exact Nat.le_refl w.heap.size
end Go.Proofs.YtfmnbhhpimpjbaaGreatDoor
