/- BookLimits: texts as long as may be: the walk. -/
import Derived.Test.YtfmnbhhpimpjbaaGreatDoorLf
namespace Go.Proofs.YtfmnbhhpimpjbaaGreatDoor
open Go.RowKit
set_option linter.unusedVariables false

theorem wk_join_o (W : World) (T : Txt) {G : Nat → Prop} {w0 : World} {bb : Nat} {rows : List BRow} (l : List Int) (hl : l.length ≤ 64) (p : Option Addr) (pc : Nat) (hpc : NilOk p pc) (x : World) (hW : Below W.heap.size W x) (hk : WkO G w0 bb rows x) (hG : ∀ g, G g → g < x.heap.size) (hP : PartsIn x p l) (hh : ∀ h ∈ l, 0 ≤ h ∧ h ≤ rows.length) (hE : mkE T rows (spL 16 e0 0 [] l) = 0) :
    Calls Tryz.prog 6 #[.pointer (some ⟨bb, 0, none⟩), .agg (spC (spL 16 e0 0 [] l) none 0 p pc)] x (MadeO T G w0 bb rows (spL 16 e0 0 [] l) x) :=
  wk_make_o W T _ (join_ok l hl) (kind_join W T _ (join_ok l hl) (join_chk l hl) rfl rfl) none 0 p pc (fun _ => rfl) hpc x hW hk hG (fun h => by simp [spL] at h) hP hh (join_chk l hl) hE
theorem wk_note_o (W : World) (T : Txt) {G : Nat → Prop} {w0 : World} {bb : Nat} {rows : List BRow} (t : ByteArray) (ht : t.size ≤ 4096) (x : World) (hW : Below W.heap.size W x) (hk : WkO G w0 bb rows x) (hG : ∀ g, G g → g < x.heap.size) (hl : rows.length < 65536) :
    Calls Tryz.prog 6 #[.pointer (some ⟨bb, 0, none⟩), .agg (spC (spL 2 t 0 [] []) none 0 none 0)] x (MadeO T G w0 bb rows (spL 2 t 0 [] []) x) := by
  obtain ⟨a, b, c, d⟩ := note_nums T rows t
  exact wk_make_o W T _ (note_ok t ht) (kind_leaf W T _ (note_ok t ht) (note_chk t ht) (.inr (.inl rfl)) (.inr (.inl rfl)) rfl (fun h => by cases h)) none 0 none 0 (fun _ => rfl) (fun _ => rfl) x hW hk hG (fun h => by simp [spL] at h) (fun h => by simp [spL] at h) (fun h hh => by simp [spL] at hh) (note_chk t ht) (mkE_ok T rows _ (by omega) (by omega) (by omega) (by omega) hl)
theorem hold_chk (t : ByteArray) (l : List Int) (ht : t.size ≤ 4096) (hl : l.length ≤ 1) (k : Int) (hk : k = 13 ∨ k = 14) : checkF (spL k t 0 [] l) = 0 := by
  rcases hk with rfl | rfl
  · exact chkL 13 t 0 [] l (by simp [ownF, spL]) ht (by decide) (by intro x hx; cases hx) (by simp [bareF, fieldsF, hasL, spL]) (by show (l.length : Int) ≤ 1; omega)
  · exact chkL 14 t 0 [] l (by simp [ownF, spL]) ht (by decide) (by intro x hx; cases hx) (by simp [bareF, fieldsF, hasL, spL]) (by show (l.length : Int) ≤ 1; omega)
theorem hold_ok (t : ByteArray) (l : List Int) (ht : t.size ≤ 4096) (hl : l.length ≤ 1) (k : Int) (hk : k = 13 ∨ k = 14) : (spL k t 0 [] l).Ok :=
  spL_ok k t 0 [] l (by omega) (by decide) ht (by decide) (by intro x hx; cases hx) (by omega)
theorem hold_kind (W : World) (T : Txt) (t : ByteArray) (l : List Int) (ht : t.size ≤ 4096) (hl : l.length ≤ 1) (k : Int) (hk : k = 13 ∨ k = 14) : KindOk W T (spL k t 0 [] l) :=
  kind_around W T _ (hold_ok t l ht hl k hk) (hold_chk t l ht hl k hk) (by unfold aroundK spL; dsimp only; omega) rfl
def holdsIt : ByteArray := ⟨#[104, 111, 108, 100, 115, 32, 105, 116]⟩
/-- A number of a row that a call laid is changed. -/
theorem parts_set {x : World} {g : Nat} {cs : Array Value} {n : Nat} {a b : Int} (hg : x.heap[g]? = some (.cells cs 3 (0, 0))) (hc : ∀ j, j < n + 1 → cs[0 + j]? = (List.replicate (n + 1) (Value.int .i64 a))[j]?) (hs : n < cs.size) :
    PartsIn (x.setCell ⟨g, n, none⟩ (.int .i64 b)) (some ⟨g, 0, none⟩) (List.replicate n a ++ [b]) := fun _ => by
  refine ⟨_, rfl, fun i hi => ?_⟩
  have hi' : i < n + 1 := by simpa using hi
  rw [show ((⟨g, 0, none⟩ : Addr).add i) = ⟨g, 0 + i, none⟩ from Go.WideShapes.add_plain _ _ _, Nat.zero_add, cell_of_block (heap_setCell_same _ g n _ _ _ hg), Array.getElem?_setIfInBounds]
  by_cases e : n = i
  · subst e; rw [if_pos rfl, if_pos hs]; simp
  · rw [if_neg e]
    have := hc i hi'
    rw [Nat.zero_add, List.getElem?_replicate, if_pos hi'] at this
    rw [this, List.getD_eq_getElem?_getD, List.getElem?_append_left (by simp; omega), List.getElem?_replicate, if_pos (by omega)]; rfl
theorem mapF (N : Int) (S S' : ByteArray) : (List.replicate 15 N ++ [N + 1]).map (fun p => if p = N then S else S') = List.replicate 15 S ++ [S'] := by
  rw [List.map_append, List.map_replicate, if_pos rfl, List.map_cons, if_neg (by omega)]; rfl
theorem joinB_size (n : Nat) (S S' : ByteArray) : (joinB (List.replicate n S ++ [S'])).size = n * (S.size + 1) + S'.size := by
  rw [← join_len n S S']
  show (Lib.join _ _).toArray.size = _
  rw [List.size_toArray]
theorem own_full {w : World} {B n : Nat} {v : Value} {a : Int} (h : w.ownsRow B 3 1 v (n + 1) (List.replicate (n + 1) (.int .i64 a))) :
    ∃ g cap cs, v = .slice (some ⟨g, 0, none⟩) (n + 1) cap ∧ B ≤ g ∧ w.heap[g]? = some (.cells cs 3 (0, 0)) ∧ n < cs.size ∧ ∀ j, j < n + 1 → cs[0 + j]? = (List.replicate (n + 1) (Value.int .i64 a))[j]? := by
  obtain ⟨p, c, hv, _, hd⟩ := own_cells1 h
  obtain ⟨g, cs, ha, hge, hh, hc⟩ := hd (by omega)
  subst ha
  refine ⟨g, c, cs, hv, hge, hh, ?_, hc⟩
  have := hc n (by omega)
  rw [Nat.zero_add, List.getElem?_replicate, if_pos (by omega)] at this
  exact (Array.getElem?_eq_some_iff.1 this).1
/-- A Wrap around the longest. -/
theorem wrap_no (T : Txt) {w0 : World} {bb : Nat} {R : List BRow} {M dp : Int} (hA : At R M 17 dp 65536 65521) (hdp : dp ≤ 2) (hM : M ≠ 0) (y : World) (hy : Wk w0 bb R y) :
    Calls Tryz.prog 6 #[.pointer (some ⟨bb, 0, none⟩), .agg (spC (spL 14 e0 0 [] [M]) none 0 (some ⟨y.heap.size, 0, none⟩) 1)] (y.alloc (.cells #[.int .i64 M] 3)) fun e z => e = .returned (.tuple #[.int .i64 0, .int .i64 53]) ∧ Below (y.alloc (.cells #[.int .i64 M] 3)).heap.size (y.alloc (.cells #[.int .i64 M] 3)) z := by
  have e1 : sizeF R (spL 14 e0 0 [] [M]) = 18 := by rw [sizeF_eq]; simp [spL, hA.size]
  have e2 := depthF_le R (spL 14 e0 0 [] [M]) 2 (by intro z hz; simp [spL] at hz; subst hz; rw [hA.depth]; exact hdp) (by decide)
  have e3 : longT T R (spL 14 e0 0 [] [M]) = 65538 := by
    rw [longT_eq, show ((spL 14 e0 0 [] [M]).parts.filter fun h => decide (h ≠ 0)) = [M] by simp [spL, hM]]
    simp [spL, longK, e0_size, hA.long, clampF]; omega
  exact wk_make_no w0 T (spL 14 e0 0 [] [M]) (hold_ok e0 _ (by decide) (by simp) 14 (.inr rfl)) (hold_kind w0 T e0 _ (by decide) (by simp) 14 (.inr rfl)) none 0 (some ⟨y.heap.size, 0, none⟩) 1 (fun _ => rfl) (fun h => by cases h) _ (hy.bel.alloc hy.bel.size _) (hy.below ((Below.refl _ _).alloc (Nat.le_refl _) _)) (fun h => by simp [spL] at h) (parts_alloc y 3 [M]) (by intro z hz; simp [spL] at hz; subst hz; exact ⟨hA.lo, hA.hi⟩) (hold_chk e0 _ (by decide) (by simp) 14 (.inr rfl)) 53
    (mkE_text T _ _ (by omega) (by omega) (.inl (by omega))) (by decide)
/-- A Hold around the longest. -/
theorem hold_yes (T : Txt) {w0 : World} {bb : Nat} {R : List BRow} {M dp : Int} (hA : At R M 17 dp 65536 65521) (hdp : dp ≤ 2) (hl : R.length < 65536) (y : World) (hy : Wk w0 bb R y) :
    Calls Tryz.prog 6 #[.pointer (some ⟨bb, 0, none⟩), .agg (spC (spL 13 holdsIt 0 [] [M]) none 0 (some ⟨y.heap.size, 0, none⟩) 1)] (y.alloc (.cells #[.int .i64 M] 3)) (MadeAt T w0 bb R (spL 13 holdsIt 0 [] [M]) (y.alloc (.cells #[.int .i64 M] 3))) := by
  have h8 : holdsIt.size = 8 := rfl
  have e1 : sizeF R (spL 13 holdsIt 0 [] [M]) = 18 := by rw [sizeF_eq]; simp [spL, hA.size]
  have e2 := depthF_le R (spL 13 holdsIt 0 [] [M]) 2 (by intro z hz; simp [spL] at hz; subst hz; rw [hA.depth]; exact hdp) (by decide)
  have e3 : longT T R (spL 13 holdsIt 0 [] [M]) = 8 := by rw [longT_eq]; simp [spL, longK, h8]
  have e4 : wordsF R (spL 13 holdsIt 0 [] [M]) = 65529 := by rw [wordsF_eq]; simp [spL, hA.words, h8]
  exact wk_make_at w0 T (spL 13 holdsIt 0 [] [M]) (hold_ok holdsIt _ (by decide) (by simp) 13 (.inl rfl)) (hold_kind w0 T holdsIt _ (by decide) (by simp) 13 (.inl rfl)) none 0 (some ⟨y.heap.size, 0, none⟩) 1 (fun _ => rfl) (fun h => by cases h) _ (hy.bel.alloc hy.bel.size _) (hy.below ((Below.refl _ _).alloc (Nat.le_refl _) _)) (fun h => by simp [spL] at h) (parts_alloc y 3 [M]) (by intro z hz; simp [spL] at hz; subst hz; exact ⟨hA.lo, hA.hi⟩) (hold_chk holdsIt _ (by decide) (by simp) 13 (.inl rfl))
    (mkE_ok T _ _ (by omega) (by omega) (by omega) (by omega) hl)
def LongPost (w0 : World) (bb : Nat) (e : Ending) (y : World) : Prop := e = .returned (.bool true) ∧ ∃ rows', Wk w0 bb rows' y
set_option maxRecDepth 100000 in
set_option maxHeartbeats 8000000 in
theorem long_walk {w0 : World} {bb : Nat} {rows : List BRow} (x : World) (hk : Wk w0 bb rows x) (hl : rows.length ≤ 60000) :
    Calls Tryz.prog 9 #[.pointer (some ⟨bb, 0, none⟩)] x (LongPost w0 bb) := by
  obtain ⟨iu, hu0, hu1, hu2, hu3⟩ := info_parts info_u8
  obtain ⟨ii, hi0, hi1, hi2, hi3⟩ := info_parts info_int'
  have HK := Lib.hid hk
  clear hk
  go_enter Tryz.func9, Tryz.ntmps9
  go_wp2_with ((with_reducible refine at_op (.makeSlice 72 _ _) rfl ?_); refine wpList_make_full _ rfl _ _ 72 rfl x.heap.size 5 iu (.int .u8 0) 1 Tryz.underlying72 hu0 hu1 hu2 .i64 .i64 _ _ 4096 rfl rfl rfl rfl (by rw [hu3]; omega) (by simp only [maxLen]; omega) (Nat.le_refl _) ?_; intro w1 hown1 hg1; have hcv := conv_word hown1; have HB1 := Lib.hid (make_below (Nat.le_refl _) hg1); clear hown1 hg1)
  have hSz := word_size 4096
  clear hcv
  generalize word 4096 = S at hSz ⊢
  have HSZ := Lib.hid hSz
  have HK1 := Lib.hid (HK.out.below HB1.out)
  have HLL := Lib.hid hl
  have C1 := Lib.hid (wk_note w0 Tz S (by omega) w1 HK1.out.bel HK1.out (by omega))
  unfold spC at C1
  dsimp only [spL] at C1
  clear hSz HK HB1 hl
  refine C1.out.mono ?_
  rintro e w2 ⟨r1, rfl, hk2, hr1, hn1, _, hsz2⟩
  obtain ⟨N, hN⟩ : ∃ N : Int, N = (rows.length : Int) + 1 := ⟨_, rfl⟩
  have hA := note_at Tz S hr1 hn1
  rw [← hN] at hA ⊢
  rw [HSZ.out] at hA
  have HA := Lib.hid hA
  have HN := Lib.hid hN
  have hl1 : ((rows ++ [r1]).length : Int) = N := by rw [hN]; simp
  have HL1 := Lib.hid hl1
  have HK2 := Lib.hid hk2
  have HE1 := Lib.hid (show errAt (rows ++ [r1]) N = .iface 176 (.string S) by
    obtain ⟨D, hD⟩ := hk2.row
    rw [← rowAt_err, rowAt_last rows r1 N hN]
    exact note_err (hD rows.length r1 (by simp)) hr1)
  clear hA hN hl1 hk2 hr1 hn1 hsz2 C1 HK1
  go_wp2_with fail
  go_loopw [6, 7] (fun u i y => ∃ k : Nat, i = .int .i64 k ∧ k ≤ 16 ∧ y.ownsRow w2.heap.size 3 1 u k (List.replicate k (.int .i64 N)) ∧ Below w2.heap.size w2 y) (fun _ i _ => 16 - (intOf i).toNat)
  case atStart => exact ⟨0, rfl, by omega, ⟨rfl, .inl ⟨rfl, rfl⟩⟩, Below.refl _ _⟩
  case round =>
    obtain ⟨k, rfl, hk, hown, hb⟩ := hrel
    have hsz := hb.size
    have HBB := Lib.hid hb
    clear hb
    by_cases hlt : k < 16
    · have i1 : (k : Int) < 16 := by omega
      have HRS := Lib.hid (show List.replicate (k + 1) (Value.int .i64 N) = List.replicate k (Value.int .i64 N) ++ [Value.int .i64 N] from List.replicate_succ')
      go_wp2_with (at_builtin; refine wpList_append_own _ rfl (.tmp 34) (.tmp 36) 27 rfl w2.heap.size 3 ii (.int .i64 0) 1 8 Tryz.underlying27 hi0 hi1 hi2 hi3 rfl (by decide) _ _ _ rfl (hown.alloc _) ⟨wr.heap.size, 0, none⟩ 1 1 [.int .i64 N] rfl rfl (by intro m z hz; rcases m with _ | m <;> simp at hz; subst hz; exact cell_of_block (alloc_at _ _) 0) (by intro z hz; simp at hz; subst hz; rfl) (by simp only [maxLen]; omega) (by omega) (by simp; omega) ?_)
      intro v4 w4 hown4 hg4 _
      have HO4 := Lib.hid hown4
      have HB4 := Lib.hid ((HBB.out.alloc hsz _).grown hg4 (by simp; omega) (fun g hg => (own_at hown hg).1))
      clear hown4 hg4 hown
      go_wp2_with fail
      exact ⟨⟨k + 1, by go_num, by omega, by rw [HRS.out]; exact HO4.out, HB4.out⟩, by simp [intOf]; omega⟩
    · obtain rfl : k = 16 := by omega
      obtain ⟨g, cap, cs, hv, hge, hh, hcs, hc⟩ := own_full (n := 15) hown
      subst hv
      have HH := Lib.hid hh
      have HCS := Lib.hid hcs
      have HC := Lib.hid hc
      have HO := Lib.hid (HK2.out.off HBB.out (fun b => b = g) (fun b hb => by rw [hb]; exact hge))
      have HGE := Lib.hid (show w0.heap.size ≤ g from Nat.le_trans HK2.out.bel.size hge)
      have C2 := Lib.hid (wk_join_no w0 Tz (List.replicate 16 N) (by simp) (some ⟨g, 0, none⟩) cap (fun h => by cases h) wr HO.out.wk.bel HO.out.wk (fun _ => ⟨_, rfl, fun i hi => by
          have hi' : i < 16 := by simpa using hi
          rw [show ((⟨g, 0, none⟩ : Addr).add i) = ⟨g, 0 + i, none⟩ from Go.WideShapes.add_plain _ _ _, cell_of_block hh, hc i hi', List.getElem?_replicate, if_pos hi', List.getD_eq_getElem?_getD, List.getElem?_replicate, if_pos hi']; rfl⟩)
        (fun h hh => by rw [List.eq_of_mem_replicate hh]; exact ⟨HA.out.lo, HA.out.hi⟩) 53
        (mkE_text Tz _ _ (by have J := (join_nums Tz (rows ++ [r1]) N 16 [] 1 1 4096 4096 HA.out (by have := HA.out.lo; have := HN.out; omega) (by decide)); rw [List.append_nil] at J; rw [J.1]; simp)
          (by have := join_depth (rows ++ [r1]) (List.replicate 16 N) 1 (fun z hz => by rw [List.eq_of_mem_replicate hz]; exact Int.le_of_eq HA.out.depth) (by decide); omega)
          (.inl (by have J := (join_nums Tz (rows ++ [r1]) N 16 [] 1 1 4096 4096 HA.out (by have := HA.out.lo; have := HN.out; omega) (by decide)); rw [List.append_nil] at J; rw [J.2.2]; simp; omega))) (by decide))
      unfold spC at C2
      dsimp only [spL] at C2
      rw [List.length_replicate] at C2
      clear hown hh hcs hc hge hk hlt HK2
      go_wp2_with fail
      refine C2.out.mono ?_
      rintro e w3 ⟨rfl, hb3⟩
      have HH3 := Lib.hid ((hb3.block _ (lt_of_at HH.out)).trans HH.out)
      have HO3 := Lib.hid (HO.out.below hb3)
      have hg3 : g < w3.heap.size := lt_of_at HH3.out
      clear hb3 C2 HO HH HBB
      obtain ⟨S', hS'⟩ : ∃ S', S' = S.extract 0 4081 := ⟨_, rfl⟩
      have hSz' : S'.size = 4081 := by rw [hS', ByteArray.size_extract, HSZ.out]; rfl
      have HSZ' := Lib.hid hSz'
      have hss : 4081 ≤ S.size := by rw [HSZ.out]; decide
      have C3 := Lib.hid (wk_note_o w0 Tz (G := fun b => b = g) S' (by omega) w3 HO3.out.wk.bel HO3.out (fun b hb => by rw [hb]; exact hg3) (by have := HLL.out; simp; omega))
      unfold spC at C3
      dsimp only [spL] at C3
      rw [hS'] at C3
      clear hSz'
      go_wp2_with fail
      refine C3.out.mono ?_
      rintro e w4 ⟨r2, he, hk4, hr2, hn2, hkeep4, _⟩
      rw [HL1.out] at he
      subst he
      rw [← hS'] at hr2 ⊢
      have hA2 := note_at Tz S' hr2 hn2
      rw [HL1.out, HSZ'.out] at hA2
      have HA1' := Lib.hid (HA.out.snoc r2)
      have HE2 := Lib.hid (show errAt ((rows ++ [r1]) ++ [r2]) (N + 1) = .iface 176 (.string S') by
        obtain ⟨D, hD⟩ := hk4.wk.row
        rw [← rowAt_err, rowAt_last (rows ++ [r1]) r2 (N + 1) (by rw [HL1.out])]
        exact note_err (hD (rows ++ [r1]).length r2 (by simp)) hr2)
      have HE1' := Lib.hid (show errAt ((rows ++ [r1]) ++ [r2]) N = .iface 176 (.string S) by
        rw [errAt_snoc _ _ _ (by rw [HL1.out]; exact Int.le_refl _)]; exact HE1.out)
      obtain ⟨R2, hR2⟩ : ∃ R2, R2 = (rows ++ [r1]) ++ [r2] := ⟨_, rfl⟩
      rw [← hR2] at hA2 hk4 HA1' HE2 HE1'
      have HL2 := Lib.hid (show (R2.length : Int) = N + 1 by rw [hR2, List.length_append]; have := HL1.out; simp at this ⊢; omega)
      have HA2 := Lib.hid hA2
      have HK4 := Lib.hid hk4
      have HH4 := Lib.hid (hkeep4 _ _ _ _ HH3.out (by decide) (by decide))
      have kf := fun i => frozen_of_block HH4.out i
      have kc : w4.cell? ⟨g, 15, none⟩ = some (.int .i64 N) := by
        rw [cell_of_block HH4.out]
        have := HC.out 15 (by omega)
        simpa using this
      have HS' := Lib.hid hS'
      clear hA2 hk4 hkeep4 hr2 hn2 C3 HO3 hR2 hS' HH3 hg3 HA HE1 hss
      go_wp2_with fail
      have HO5 := Lib.hid (HK4.out.set g 15 (.int .i64 (N + 1)) rfl HGE.out HH4.out (by decide) (by decide))
      have HP5 := Lib.hid (parts_set (n := 15) (b := N + 1) HH4.out HC.out HCS.out)
      have hg5 : g < (w4.setCell ⟨g, 15, none⟩ (.int .i64 (N + 1))).heap.size := by simp; exact lt_of_at HH4.out
      have J := join_nums Tz R2 N 15 [N + 1] 1 1 4096 4096 HA1'.out (by have := HA1'.out.lo; have := HN.out; omega) (by decide)
      have hN1 : N + 1 ≠ 0 := by have := HN.out; omega
      have hJ2 : wordsF R2 (spL 16 e0 0 [] (List.replicate 15 N ++ [N + 1])) = 65521 := by rw [J.2.1]; simp [HA2.out.words]
      have hJ3 : longT Tz R2 (spL 16 e0 0 [] (List.replicate 15 N ++ [N + 1])) = 65536 := by rw [J.2.2]; simp [HA2.out.long, hN1, clampF]; omega
      have hJ1 : sizeF R2 (spL 16 e0 0 [] (List.replicate 15 N ++ [N + 1])) = 17 := by rw [J.1]; simp [HA2.out.size]
      have hJ4 : depthF R2 (spL 16 e0 0 [] (List.replicate 15 N ++ [N + 1])) ≤ 2 := join_depth R2 _ 1 (fun z hz => by
        rw [List.mem_append] at hz
        rcases hz with hz | hz
        · rw [List.eq_of_mem_replicate hz]; exact Int.le_of_eq HA1'.out.depth
        · simp at hz; subst hz; exact Int.le_of_eq HA2.out.depth) (by decide)
      have C4 := Lib.hid (wk_join_o w0 Tz (List.replicate 15 N ++ [N + 1]) (by simp) (some ⟨g, 0, none⟩) cap (fun h => by cases h) _ HO5.out.wk.bel HO5.out (fun b hb => by rw [hb]; exact hg5) HP5.out (fun z hz => by
        rw [List.mem_append] at hz
        rcases hz with hz | hz
        · rw [List.eq_of_mem_replicate hz]; exact ⟨HA1'.out.lo, HA1'.out.hi⟩
        · simp at hz; subst hz; exact ⟨HA2.out.lo, HA2.out.hi⟩) (mkE_ok Tz _ _ (by omega) (by omega) (by omega) (by omega) (by have := HL2.out; have := HN.out; have := HLL.out; omega)))
      have HJ := Lib.hid (And.intro hJ1 (And.intro hJ2 (And.intro hJ3 hJ4)))
      unfold spC at C4
      dsimp only [spL] at C4
      rw [show (List.replicate 15 N ++ [N + 1]).length = 16 by simp] at C4
      clear J hJ1 hJ2 hJ3 hJ4 hN1 kf kc HP5 hg5
      refine C4.out.mono ?_
      rintro e w6 ⟨r3, he, hk6, hr3, hn3, _, _⟩
      rw [HL2.out] at he
      subst he
      have hr3 : r3.sp = spL 16 e0 0 [] (List.replicate 15 N ++ [N + 1]) := hr3
      have hA3 := At.last hn3
      rw [HL2.out, hr3, HJ.out.1, HJ.out.2.1, HJ.out.2.2.1] at hA3
      have hdp := HJ.out.2.2.2
      generalize depthF R2 (spL 16 e0 0 [] (List.replicate 15 N ++ [N + 1])) = dp at hA3 hdp
      have HX := Lib.hid (show (joinB (List.replicate 15 S ++ [S'])).size = 65536 by rw [joinB_size, HSZ.out, HSZ'.out])
      have C5 := Lib.hid (text_join w6 hk6.wk (N + 1 + 1) (by have := HL2.out; have := HN.out; simp; omega) (List.replicate 15 N ++ [N + 1]) (by rw [rowAt_last R2 r3 (N + 1 + 1) (by rw [HL2.out])]; exact hr3) (by simp) (by simp) (fun p => if p = N then S else S') (fun p hp => by
          have hle : p ≤ R2.length := by
            rw [HL2.out]
            rw [List.mem_append] at hp
            rcases hp with hp | hp
            · rw [List.eq_of_mem_replicate hp]; omega
            · simp at hp; omega
          rw [errAt_snoc _ _ _ hle]
          rw [List.mem_append] at hp
          rcases hp with hp | hp
          · rw [List.eq_of_mem_replicate hp]; simp; exact HE1'.out
          · simp at hp; subst hp; rw [if_neg (by omega)]; exact HE2.out) (by rw [mapF, join_len, HSZ.out, HSZ'.out]; omega))
      rw [mapF] at C5
      generalize joinB (List.replicate 15 S ++ [S']) = X at HX C5
      have HK6 := Lib.hid hk6.wk
      obtain ⟨R3, hR3⟩ : ∃ R3, R3 = R2 ++ [r3] := ⟨_, rfl⟩
      rw [← hR3] at hA3 HK6
      have HL3 := Lib.hid (show (R3.length : Int) = N + 1 + 1 by rw [hR3, List.length_append]; have := HL2.out; simp at this ⊢; omega)
      have HA3 := Lib.hid hA3
      have HDP := Lib.hid hdp
      unfold panZ' at C5
      clear hA3 hdp hk6 hr3 hn3 C4 HJ HO5 HK4 HA1' HA2 HE1' HE2 hR3 HH4
      go_wp2_with fail
      refine C5.out.mono ?_
      rintro e w7 ⟨rfl, hb7⟩
      have HK7 := Lib.hid (HK6.out.below hb7)
      clear hb7 C5 HK6
      go_wp2_with ((with_reducible refine at_op (.store 44 (.tmp 15) (.tmp 68)) rfl ?_); refine wpList_store_new rfl 44 (.tmp 15) (.tmp 68) rfl w7.heap.size rfl _ _ rfl _ rfl (by kernel_rfl) rfl (by simp [Value.oneCell']) ?_)
      have HP8 := Lib.hid (alloc_at w7 (.cells #[.int .i64 0, .string ⟨#[]⟩, .int .i64 0] 44))
      have HK8 := Lib.hid (HK7.out.below ((Below.refl _ _).alloc (Nat.le_refl _) (.cells #[.int .i64 0, .string ⟨#[]⟩, .int .i64 0] 44)))
      have HLE := Lib.hid (show R3.length < 65536 by have := HL3.out; have := HN.out; have := HLL.out; omega)
      have HN2 := Lib.hid (show N + 1 + 1 ≠ 0 by have := HN.out; omega)
      have CW1 := Lib.hid (wrap_no Tz HA3.out HDP.out HN2.out _ HK8.out)
      unfold spC at CW1
      dsimp only [spL] at CW1
      simp only [World.size_alloc] at CW1
      clear HK7
      refine CW1.out.mono ?_
      rintro e w9 ⟨rfl, hb9⟩
      have HP9 := Lib.hid ((hb9.block _ (by first | simp | omega)).trans ((alloc_old _ _ _ (lt_of_at HP8.out)).trans HP8.out))
      have HK9 := Lib.hid (HK8.out.below (((Below.refl _ _).alloc (Nat.le_refl _) (.cells #[.int .i64 (N + 1 + 1)] 3)).trans (hb9.mono (by first | simp | (simp; omega) | omega))))
      have CH1 := Lib.hid (hold_yes Tz HA3.out HDP.out HLE.out w9 HK9.out)
      unfold spC at CH1
      dsimp only [spL] at CH1
      unfold holdsIt at CH1
      clear hb9 CW1 HK8 HP8
      go_wp2_with fail
      refine CH1.out.mono ?_
      rintro e wa ⟨r4, he, hka, _, _, hkeep, _⟩
      rw [HL3.out] at he
      subst he
      have HPa := Lib.hid (hkeep _ _ _ _ ((alloc_old _ _ _ (lt_of_at HP9.out)).trans HP9.out) (by decide) (by decide))
      have k0 : wa.cell? ⟨w7.heap.size, 0, none⟩ = some (.int .i64 0) := cell_of_block HPa.out 0
      have k1 : wa.cell? ⟨w7.heap.size, 1, none⟩ = some (.string ⟨#[]⟩) := cell_of_block HPa.out 1
      have k2 : wa.cell? ⟨w7.heap.size, 2, none⟩ = some (.int .i64 0) := cell_of_block HPa.out 2
      have hpe : ∀ w, (binOp .eql 44 (.agg #[.int .i64 0, .string ⟨#[]⟩, .int .i64 0]) (.agg #[.int .i64 0, .string ⟨#[]⟩, .int .i64 0])).run Tryz.prog w = .ok (.bool true) w := fun w => by rfl
      have hx1 : ((X.size : Int) == 65536) = true := by rw [HX.out]; rfl
      have hg0 : 0 < N + 1 + 1 + 1 := by have := HN.out; omega
      have HKa := Lib.hid hka
      clear hka hkeep CH1 HK9 HP9 HX
      go_wp2
      go_ret
      exact ⟨rfl, _, HKa.out⟩
end Go.Proofs.YtfmnbhhpimpjbaaGreatDoor
