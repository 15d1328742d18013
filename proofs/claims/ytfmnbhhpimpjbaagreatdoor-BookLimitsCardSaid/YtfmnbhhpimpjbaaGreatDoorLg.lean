/- BookLimits' walk. -/
import Derived.Test.YtfmnbhhpimpjbaaGreatDoorLb
import Derived.Test.YtfmnbhhpimpjbaaGreatDoorLh
namespace Go.Proofs.YtfmnbhhpimpjbaaGreatDoor
open Go.RowKit
set_option linter.unusedVariables false

theorem chain_chk (k : Int) (l : List Int) (hk : k = 14 ∨ k = 15) (hl : l.length ≤ 1) : checkF (spL k e0 0 [] l) = 0 := by
  rcases hk with rfl | rfl
  · exact chkL 14 e0 0 [] l (by simp [ownF, spL]) (by decide) (by decide) (by intro x hx; cases hx) (by simp [bareF, fieldsF, hasL, spL, e0]) (by show (l.length : Int) ≤ 1; omega)
  · exact chkL 15 e0 0 [] l (by simp [ownF, spL]) (by decide) (by decide) (by intro x hx; cases hx) (by simp [bareF, fieldsF, hasL, spL, e0]) (by show (l.length : Int) ≤ 1; omega)
theorem chain_ok (k : Int) (l : List Int) (hk : k = 14 ∨ k = 15) (hl : l.length ≤ 1) : (spL k e0 0 [] l).Ok :=
  spL_ok k e0 0 [] l (by omega) (by decide) (by decide) (by decide) (by intro x hx; cases hx) (by omega)
theorem chain_kind (W : World) (T : Txt) (k : Int) (l : List Int) (hk : k = 14 ∨ k = 15) (hl : l.length ≤ 1) : KindOk W T (spL k e0 0 [] l) :=
  kind_around W T _ (chain_ok k l hk hl) (chain_chk k l hk hl) (by unfold aroundK spL; dsimp only; omega) rfl
theorem leaf9_chk : checkF (spL 9 e0 0 [] []) = 0 := by decide +kernel
theorem leaf9_ok : (spL 9 e0 0 [] []).Ok := spL_ok 9 e0 0 [] [] (by decide) (by decide) (by decide) (by decide) (by intro x hx; cases hx) (by decide)
theorem top_nums (T : Txt) (R : List BRow) (a b : Int) (n : Nat) (dp : Int) (ha : At R a 4033 dp 3968 0) (hb : At R b 1 1 0 0) (h0 : a ≠ 0) (h1 : b ≠ 0) :
    sizeF R (spL 16 e0 0 [] (a :: List.replicate n b)) = 4034 + n ∧ wordsF R (spL 16 e0 0 [] (a :: List.replicate n b)) = 0 ∧ longT T R (spL 16 e0 0 [] (a :: List.replicate n b)) = 3968 + n := by
  refine ⟨?_, ?_, ?_⟩
  · rw [sizeF_eq]
    show 1 + ((a :: List.replicate n b).map fun h => (rowAt R h).size).sum = _
    rw [List.map_cons, List.map_replicate, List.sum_cons, sum_rep, ha.size, hb.size]; omega
  · rw [wordsF_eq]
    show (0 : Int) + 0 + ((a :: List.replicate n b).map fun h => (rowAt R h).words).sum = _
    rw [List.map_cons, List.map_replicate, List.sum_cons, sum_rep, ha.words, hb.words]; omega
  · rw [longT_eq]
    have hf : (a :: List.replicate n b).filter (fun h => decide (h ≠ 0)) = a :: List.replicate n b := by
      rw [List.filter_cons_of_pos (by simpa using h0), List.filter_replicate, if_pos (by simpa using h1)]
    show longK T (spL 16 e0 0 [] _) ((((a :: List.replicate n b).filter fun h => decide (h ≠ 0)).map fun h => clampF (rowAt R h).long).sum) (((a :: List.replicate n b).filter fun h => decide (h ≠ 0)).length) = _
    rw [hf, List.map_cons, List.map_replicate, List.sum_cons, sum_rep, ha.long, hb.long, List.length_cons, List.length_replicate, show clampF 3968 = 3968 by decide, show clampF 0 = 0 by decide]
    simp [longK, spL]
    try omega
theorem parts_own {w : World} {B n : Nat} {a : Option Addr} {c : Nat} {xs : List Value} (l : List Int) (h : w.ownsRow B 3 1 (.slice a n c) n xs) (hl : l.length = n) (hx : xs = l.map (.int .i64)) : PartsIn w a l := fun h0 => by
  obtain ⟨a', c', hv, _, hd⟩ := own_cells1 h
  cases hv
  obtain ⟨g, cs, ha, _, hh, hc⟩ := hd (by omega)
  refine ⟨_, ha, fun i hi => ?_⟩
  rw [show ((⟨g, 0, none⟩ : Addr).add i) = ⟨g, 0 + i, none⟩ from Go.WideShapes.add_plain _ _ _, cell_of_block hh, hc i (by omega), hx, List.getElem?_map, List.getElem?_eq_getElem hi, List.getD_eq_getElem?_getD, List.getElem?_eq_getElem hi]
  rfl
/-- The slice of the wide ones: k of one handle. -/
def WideIn (x : World) (g : Nat) (h : Int) (k : Nat) : Prop := ∃ cs, x.heap[g]? = some (.cells cs 3 (0, 0)) ∧ cs.size = 64 ∧ ∀ j, j < k → cs[j]? = some (.int .i64 h)
theorem WideIn.set {x : World} {g k : Nat} {h : Int} (w : WideIn x g h k) (hk : k < 64) : WideIn (x.setCell ⟨g, k, none⟩ (.int .i64 h)) g h (k + 1) := by
  obtain ⟨cs, h1, h2, h3⟩ := w
  exact ⟨_, heap_setCell_same _ g k _ _ _ h1, by simpa using h2, set_prefix (f := fun _ => .int .i64 h) (by omega) h3 rfl⟩
theorem WideIn.keep {x y : World} {g k : Nat} {h : Int} (w : WideIn x g h k) (hk : Keep x y) : WideIn y g h k := by
  obtain ⟨cs, h1, h2, h3⟩ := w
  exact ⟨cs, hk _ _ _ _ h1 (by decide) (by decide), h2, h3⟩
theorem WideIn.parts {x : World} {g : Nat} {h : Int} (w : WideIn x g h 64) : PartsIn (x.setCell ⟨g, 63, none⟩ (.int .i64 0)) (some ⟨g, 0, none⟩) (List.replicate 63 h ++ [0]) := fun _ => by
  obtain ⟨cs, h1, h2, h3⟩ := w
  refine ⟨_, rfl, fun i hi => ?_⟩
  rw [show ((⟨g, 0, none⟩ : Addr).add i) = ⟨g, 0 + i, none⟩ from Go.WideShapes.add_plain _ _ _, Nat.zero_add, cell_of_block (heap_setCell_same _ g 63 _ _ _ h1), Array.getElem?_setIfInBounds]
  have hi' : i < 64 := by simpa using hi
  by_cases e : 63 = i
  · subst e; rw [if_pos rfl, if_pos (by omega)]; simp
  · rw [if_neg e, h3 i hi', List.getD_eq_getElem?_getD, List.getElem?_append_left (by simp; omega), List.getElem?_replicate, if_pos (by omega)]; rfl
theorem wk_chain (W : World) (T : Txt) {w0 : World} {bb : Nat} {rows : List BRow} (k : Int) (hk : k = 14 ∨ k = 15) (l : List Int) (hl : l.length ≤ 1) (p : Option Addr) (pc : Nat) (hpc : NilOk p pc) (x : World) (hW : Below W.heap.size W x) (hw : Wk w0 bb rows x) (hP : PartsIn x p l) (hh : ∀ h ∈ l, 0 ≤ h ∧ h ≤ rows.length) (hE : mkE T rows (spL k e0 0 [] l) = 0) :
    Calls Tryz.prog 6 #[.pointer (some ⟨bb, 0, none⟩), .agg (spC (spL k e0 0 [] l) none 0 p pc)] x (MadeAt T w0 bb rows (spL k e0 0 [] l) x) :=
  wk_make_at W T _ (chain_ok k l hk hl) (chain_kind W T k l hk hl) none 0 p pc (fun _ => rfl) hpc x hW hw (fun h => by simp [spL] at h) hP hh (chain_chk k l hk hl) hE
theorem wk_chain_no (W : World) (T : Txt) {w0 : World} {bb : Nat} {rows : List BRow} (k : Int) (hk : k = 14 ∨ k = 15) (l : List Int) (hl : l.length ≤ 1) (p : Option Addr) (pc : Nat) (hpc : NilOk p pc) (x : World) (hW : Below W.heap.size W x) (hw : Wk w0 bb rows x) (hP : PartsIn x p l) (hh : ∀ h ∈ l, 0 ≤ h ∧ h ≤ rows.length) (E : Int) (hE : mkE T rows (spL k e0 0 [] l) = E) (h0 : E ≠ 0) :
    Calls Tryz.prog 6 #[.pointer (some ⟨bb, 0, none⟩), .agg (spC (spL k e0 0 [] l) none 0 p pc)] x fun e y => e = .returned (.tuple #[.int .i64 0, .int .i64 E]) ∧ Below x.heap.size x y :=
  wk_make_no W T _ (chain_ok k l hk hl) (chain_kind W T k l hk hl) none 0 p pc (fun _ => rfl) hpc x hW hw (fun h => by simp [spL] at h) hP hh (chain_chk k l hk hl) E hE h0
theorem wk_leaf9 (W : World) (T : Txt) {w0 : World} {bb : Nat} {rows : List BRow} (x : World) (hW : Below W.heap.size W x) (hw : Wk w0 bb rows x) (hl : rows.length < 65536) :
    Calls Tryz.prog 6 #[.pointer (some ⟨bb, 0, none⟩), .agg (spC (spL 9 e0 0 [] []) none 0 none 0)] x (MadeAt T w0 bb rows (spL 9 e0 0 [] []) x) :=
  wk_make_at W T _ leaf9_ok (kind_leaf W T _ leaf9_ok leaf9_chk (by simp [leafK, spL]) (by simp [simpleK, spL]) rfl (fun h => by cases h)) none 0 none 0 (fun _ => rfl) (fun _ => rfl) x hW hw (fun h => by simp [spL] at h) (fun h => by simp [spL] at h) (fun h hh => by simp [spL] at hh) leaf9_chk (leaf9 T rows hl).1
set_option maxRecDepth 100000 in
set_option maxHeartbeats 8000000 in
theorem limits_walk (w : World) (hT : ∀ n, -32768 ≤ n → n ≤ 32767 → ItoaC w n) : Calls Tryz.prog 3 #[] w fun e w' => e = .returned (.bool true) ∧ Below w.heap.size w w' := by
  obtain ⟨ii, hi0, hi1, hi2, hi3⟩ := info_parts info_int'
  have HT := Lib.hid hT
  have HN := Lib.hid (wk_new w w (Below.refl _ _))
  clear hT
  go_enter Tryz.func3, Tryz.ntmps3
  go_wp2_with fail
  refine HN.out.mono ?_
  rintro e w1 ⟨bb, rfl, hk1, hb1⟩
  have HK1 := Lib.hid hk1
  clear hk1 hb1 HN
  go_wp2_with fail
  go_loopw [2, 3] (fun l i x => ∃ k : Nat, l = .int .i64 k ∧ i = .int .i64 k ∧ k ≤ 64 ∧ ∃ rows, Wk w bb rows x ∧ rows.length = k ∧ ∃ lg, At rows k k k lg 0 ∧ 0 ≤ lg ∧ lg ≤ 2 * k) (fun _ i _ => 64 - (intOf i).toNat)
  case atStart => exact ⟨0, rfl, rfl, by omega, [], HK1.out, rfl, 0, At.zero _, by omega, by omega⟩
  case round =>
    obtain ⟨k, rfl, rfl, hk, rows, hwk, hlen, lg, hat, hlg⟩ := hrel
    have HWK := Lib.hid hwk
    have HLEN := Lib.hid hlen
    have HAT := Lib.hid hat
    have HLG := Lib.hid hlg
    clear hwk hlen hat hlg HK1
    by_cases hlt : k < 64
    · obtain ⟨c1, c2⟩ := chain_step Tz rows k lg (by omega) HAT.out HLG.out (by rw [HLEN.out]; omega)
      have C1 := Lib.hid (wk_chain w Tz 14 (.inl rfl) [(k : Int)] (by simp) (some ⟨wr.heap.size, 0, none⟩) 1 (fun h => by cases h) (wr.alloc (.cells #[.int .i64 k] 3)) (HWK.out.bel.alloc HWK.out.bel.size _) (HWK.out.below ((Below.refl _ _).alloc (Nat.le_refl _) _)) (parts_alloc wr 3 [(k : Int)]) (by intro z hz; simp at hz; subst hz; exact ⟨HAT.out.lo, HAT.out.hi⟩) c1)
      have HC2 := Lib.hid c2
      have i1 : (k : Int) < 64 := by omega
      unfold spC at C1
      dsimp only [spL] at C1
      clear c1 c2
      go_wp2_with fail
      refine C1.out.mono ?_
      rintro e w3 ⟨r, he, hk3, hsp, hnum, _, _⟩
      have hl2 : (rows.length : Int) = k := by rw [HLEN.out]
      rw [hl2] at he
      subst he
      obtain ⟨lg', ha', hlg'⟩ := HC2.out r hnum hsp HLEN.out
      have HK3 := Lib.hid hk3
      have HA' := Lib.hid ha'
      have HLG' := Lib.hid hlg'
      clear hk3 hsp hnum C1 hl2 HC2 ha' hlg'
      go_wp2
      go_roundw
      case rel => exact ⟨k + 1, by go_num, by go_num, by omega, rows ++ [r], HK3.out, by rw [List.length_append, HLEN.out]; rfl, lg', by push_cast; exact HA'.out, by push_cast; exact HLG'.out⟩
      case measure => simp [intOf]; omega
    · obtain rfl : k = 64 := by omega
      have C1 := Lib.hid (wk_chain_no w Tz 15 (.inr rfl) [64] (by simp) (some ⟨wr.heap.size, 0, none⟩) 1 (fun h => by cases h) (wr.alloc (.cells #[.int .i64 64] 3)) (HWK.out.bel.alloc HWK.out.bel.size _) (HWK.out.below ((Below.refl _ _).alloc (Nat.le_refl _) _)) (parts_alloc wr 3 [64]) (by intro z hz; simp at hz; subst hz; exact ⟨HAT.out.lo, HAT.out.hi⟩) 52 (chain_end Tz rows lg HAT.out) (by decide))
      unfold spC at C1
      dsimp only [spL] at C1
      go_wp2_with fail
      refine C1.out.mono ?_
      rintro e w3 ⟨rfl, hb3⟩
      have HK3 := Lib.hid (HWK.out.below (((Below.refl wr.heap.size wr).alloc (Nat.le_refl _) _).trans (hb3.mono (by simp))))
      clear hb3 C1 HWK
      have C2 := Lib.hid (wk_leaf9 w Tz w3 HK3.out.bel HK3.out (by rw [HLEN.out]; decide))
      unfold spC at C2
      dsimp only [spL] at C2
      go_wp2_with fail
      refine C2.out.mono ?_
      rintro e w4 ⟨r1, he, hk4, hr1, hn1, _, _⟩
      rw [HLEN.out, show ((64 : Nat) : Int) + 1 = 65 from rfl] at he
      subst he
      have hA1 := (leaf9 Tz rows (by rw [HLEN.out]; decide)).2 r1 hn1 hr1
      rw [HLEN.out, show ((64 : Nat) : Int) + 1 = 65 from rfl] at hA1
      obtain ⟨R1, hR1⟩ : ∃ R1, R1 = rows ++ [r1] := ⟨_, rfl⟩
      rw [← hR1] at hA1 hk4
      have HL1 := Lib.hid (show R1.length = 65 by rw [hR1, List.length_append, HLEN.out]; rfl)
      have HA1 := Lib.hid hA1
      have HK4 := Lib.hid hk4
      clear hA1 hk4 hr1 hn1 C2 HK3 hR1 HAT HLG HLEN hlt hk
      go_wp2_with ((with_reducible refine at_op (.makeSlice 27 _ _) rfl ?_); refine wpList_make_full _ rfl _ _ 27 rfl w4.heap.size 3 ii (.int .i64 0) 1 Tryz.underlying27 hi0 hi1 hi2 .i64 .i64 _ _ 64 rfl rfl rfl rfl (by rw [hi3]; omega) (by simp only [maxLen]; omega) (Nat.le_refl _) ?_; intro w5 hown5 hg5; have HB5 := Lib.hid (make_below (Nat.le_refl _) hg5); have HC5 := Lib.hid (make_cells hown5); clear hown5 hg5)
      go_loopw [11] (fun i x => ∃ k : Nat, i = .int .i64 k ∧ k ≤ 64 ∧ WideIn x w4.heap.size 65 k ∧ Below w4.heap.size w4 x) (fun i _ => 64 - (intOf i).toNat)
      case atStart =>
        obtain ⟨cs, hc, hs⟩ := HC5.out
        exact ⟨0, rfl, by omega, ⟨cs, hc, hs, fun j hj => by omega⟩, HB5.out⟩
      case round =>
        obtain ⟨k, rfl, hk, hwide, hb⟩ := hrel
        have HWD := Lib.hid hwide
        have HBB := Lib.hid hb
        obtain ⟨cs, hc, hs, _⟩ := hwide
        have HCH := Lib.hid hc
        have kf := fun i => frozen_of_block HCH.out i
        clear hb hc
        by_cases hlt : k < 64
        · have i1 : (k : Int) < 64 := by omega
          have kc : wr.cell? ⟨w4.heap.size, k, none⟩ = some (cs[k]'(by omega)) := by rw [cell_of_block HCH.out]; exact Array.getElem?_eq_getElem _
          go_wp2
          go_roundw
          case rel => exact ⟨k + 1, by go_num, by omega, HWD.out.set hlt, HBB.out.setCell (Nat.le_refl w4.heap.size) _⟩
          case measure => simp [intOf]; omega
        · obtain rfl : k = 64 := by omega
          have kc : wr.cell? ⟨w4.heap.size, 63, none⟩ = some (cs[63]'(by omega)) := by rw [cell_of_block HCH.out]; exact Array.getElem?_eq_getElem _
          have HO := Lib.hid (HK4.out.off HBB.out (fun b => b = w4.heap.size) (fun b hb => by rw [hb]; exact Nat.le_refl _))
          have HP := Lib.hid HWD.out.parts
          have HO6 := Lib.hid (HO.out.set w4.heap.size 63 (.int .i64 0) rfl HK4.out.bel.size HCH.out (by decide) (by decide))
          have HH6 := Lib.hid (heap_setCell_same _ w4.heap.size 63 _ _ (.int .i64 0) HCH.out)
          have hg6 : w4.heap.size < (wr.setCell ⟨w4.heap.size, 63, none⟩ (.int .i64 0)).heap.size := lt_of_at HH6.out
          have J := join_nums Tz R1 65 63 [0] 1 1 0 0 HA1.out (by decide) (by decide)
          have j1 : sizeF R1 (spL 16 e0 0 [] (List.replicate 63 65 ++ [0])) = 64 := by rw [J.1]; simp [(At.zero R1).size]
          have j2 : wordsF R1 (spL 16 e0 0 [] (List.replicate 63 65 ++ [0])) = 0 := by rw [J.2.1]; simp [(At.zero R1).words]
          have j3 : longT Tz R1 (spL 16 e0 0 [] (List.replicate 63 65 ++ [0])) = 62 := by rw [J.2.2]; simp; omega
          have j4 : depthF R1 (spL 16 e0 0 [] (List.replicate 63 65 ++ [0])) ≤ 2 := join_depth R1 _ 1 (fun z hz => by
            rw [List.mem_append] at hz
            rcases hz with hz | hz
            · rw [List.eq_of_mem_replicate hz]; exact Int.le_of_eq HA1.out.depth
            · simp at hz; subst hz; rw [(At.zero R1).depth]; decide) (by decide)
          have C3 := Lib.hid (wk_join_o w Tz (List.replicate 63 65 ++ [0]) (by simp) (some ⟨w4.heap.size, 0, none⟩) 64 (fun h => by cases h) _ HO6.out.wk.bel HO6.out (fun b hb => by rw [hb]; exact hg6) HP.out (fun z hz => by
            rw [List.mem_append] at hz
            rcases hz with hz | hz
            · rw [List.eq_of_mem_replicate hz]; exact ⟨HA1.out.lo, HA1.out.hi⟩
            · simp at hz; subst hz; exact ⟨by omega, by omega⟩) (mkE_ok Tz _ _ (by omega) (by omega) (by omega) (by omega) (by rw [HL1.out]; decide)))
          have HJ := Lib.hid (And.intro j1 (And.intro j2 (And.intro j3 j4)))
          unfold spC at C3
          dsimp only [spL] at C3
          have e64 : (List.replicate 63 (65 : Int) ++ [0]).length = 64 := by simp
          rw [e64] at C3
          clear e64
          clear J j1 j2 j3 j4 hg6 HP HO HBB HWD HO6 HC5 HB5 hlt hk
          go_wp2_with fail
          refine C3.out.mono ?_
          rintro e w6 ⟨r2, he, hk6, hr2, hn2, hkeep, _⟩
          rw [HL1.out, show ((65 : Nat) : Int) + 1 = 66 from rfl] at he
          subst he
          have hr2 : r2.sp = spL 16 e0 0 [] (List.replicate 63 65 ++ [0]) := hr2
          have hA2 := At.last hn2
          rw [HL1.out, show ((65 : Nat) : Int) + 1 = 66 from rfl, hr2, HJ.out.1, HJ.out.2.1, HJ.out.2.2.1] at hA2
          have hdp := HJ.out.2.2.2
          generalize depthF R1 (spL 16 e0 0 [] (List.replicate 63 65 ++ [0])) = dp2 at hA2 hdp
          have HA1b := Lib.hid (HA1.out.snoc r2)
          obtain ⟨R2, hR2⟩ : ∃ R2, R2 = R1 ++ [r2] := ⟨_, rfl⟩
          rw [← hR2] at hA2 hk6 HA1b
          have HL2 := Lib.hid (show R2.length = 66 by rw [hR2, List.length_append, HL1.out]; rfl)
          have HA2 := Lib.hid hA2
          have HDP2 := Lib.hid hdp
          have HK6 := Lib.hid hk6
          have HW6 := Lib.hid (show ∃ cs', w6.heap[w4.heap.size]? = some (.cells cs' 3 (0, 0)) ∧ cs'.size = 64 from ⟨_, hkeep _ _ _ _ HH6.out (by decide) (by decide), by simpa using hs⟩)
          have HLO := Lib.hid HK4.out.bel.size
          clear hA2 hk6 hr2 hn2 hkeep hdp C3 HJ HH6 HCH kf kc hs hR2 HA1 HL1 HK4
          go_wp2_with fail
          go_loopw [14] (fun i x => ∃ k : Nat, i = .int .i64 k ∧ k ≤ 64 ∧ WideIn x w4.heap.size 66 k ∧ WkO (fun b => b = w4.heap.size) w bb R2 x) (fun i _ => 64 - (intOf i).toNat)
          case atStart =>
            obtain ⟨cs', hc, hs⟩ := HW6.out
            exact ⟨0, rfl, by omega, ⟨cs', hc, hs, fun j hj => by omega⟩, HK6.out⟩
          case round =>
            obtain ⟨k, rfl, hk, hwide, hwk⟩ := hrel
            have HWD := Lib.hid hwide
            have HKQ := Lib.hid hwk
            obtain ⟨cs', hc, hs, _⟩ := hwide
            have HCH := Lib.hid hc
            have kf := fun i => frozen_of_block HCH.out i
            clear hwk hc HK6 HW6
            by_cases hlt : k < 64
            · have i1 : (k : Int) < 64 := by omega
              have kc : wr.cell? ⟨w4.heap.size, k, none⟩ = some (cs'[k]'(by omega)) := by rw [cell_of_block HCH.out]; exact Array.getElem?_eq_getElem _
              go_wp2
              go_roundw
              case rel => exact ⟨k + 1, by go_num, by omega, HWD.out.set hlt, HKQ.out.set w4.heap.size k (.int .i64 66) rfl HLO.out HCH.out (by decide) (by decide)⟩
              case measure => simp [intOf]; omega
            · obtain rfl : k = 64 := by omega
              have kc : wr.cell? ⟨w4.heap.size, 63, none⟩ = some (cs'[63]'(by omega)) := by rw [cell_of_block HCH.out]; exact Array.getElem?_eq_getElem _
              have HP := Lib.hid HWD.out.parts
              have HO6 := Lib.hid (HKQ.out.set w4.heap.size 63 (.int .i64 0) rfl HLO.out HCH.out (by decide) (by decide))
              have J := join_nums Tz R2 66 63 [0] 64 dp2 62 0 HA2.out (by decide) (by decide)
              have j1 : sizeF R2 (spL 16 e0 0 [] (List.replicate 63 66 ++ [0])) = 4033 := by rw [J.1]; simp [(At.zero R2).size]
              have j2 : wordsF R2 (spL 16 e0 0 [] (List.replicate 63 66 ++ [0])) = 0 := by rw [J.2.1]; simp [(At.zero R2).words]
              have j3 : longT Tz R2 (spL 16 e0 0 [] (List.replicate 63 66 ++ [0])) = 3968 := by rw [J.2.2]; simp; omega
              have j4 : depthF R2 (spL 16 e0 0 [] (List.replicate 63 66 ++ [0])) ≤ 3 := join_depth R2 _ 2 (fun z hz => by
                rw [List.mem_append] at hz
                rcases hz with hz | hz
                · rw [List.eq_of_mem_replicate hz, HA2.out.depth]; exact HDP2.out
                · simp at hz; subst hz; rw [(At.zero R2).depth]; decide) (by decide)
              have C4 := Lib.hid (wk_join w Tz (List.replicate 63 66 ++ [0]) (by simp) (some ⟨w4.heap.size, 0, none⟩) 64 (fun h => by cases h) _ HO6.out.wk.bel HO6.out.wk HP.out (fun z hz => by
                rw [List.mem_append] at hz
                rcases hz with hz | hz
                · rw [List.eq_of_mem_replicate hz]; exact ⟨HA2.out.lo, HA2.out.hi⟩
                · simp at hz; subst hz; exact ⟨by omega, by omega⟩) (mkE_ok Tz _ _ (by omega) (by omega) (by omega) (by omega) (by rw [HL2.out]; decide)))
              have HJ := Lib.hid (And.intro j1 (And.intro j2 (And.intro j3 j4)))
              unfold spC at C4
              dsimp only [spL] at C4
              have e64 : (List.replicate 63 (66 : Int) ++ [0]).length = 64 := by simp
              rw [e64] at C4
              clear J j1 j2 j3 j4 HP HWD HO6 HKQ hlt hk e64
              go_wp2_with fail
              refine C4.out.mono ?_
              rintro e w7 ⟨r3, he, hk7, hr3, hn3, _, _⟩
              rw [HL2.out, show ((66 : Nat) : Int) + 1 = 67 from rfl] at he
              subst he
              have hr3 : r3.sp = spL 16 e0 0 [] (List.replicate 63 66 ++ [0]) := hr3
              have hA3 := At.last hn3
              rw [HL2.out, show ((66 : Nat) : Int) + 1 = 67 from rfl, hr3, HJ.out.1, HJ.out.2.1, HJ.out.2.2.1] at hA3
              have hdp := HJ.out.2.2.2
              generalize depthF R2 (spL 16 e0 0 [] (List.replicate 63 66 ++ [0])) = dp3 at hA3 hdp
              have HA1c := Lib.hid (HA1b.out.snoc r3)
              obtain ⟨R3, hR3⟩ : ∃ R3, R3 = R2 ++ [r3] := ⟨_, rfl⟩
              rw [← hR3] at hA3 hk7 HA1c
              have HL3 := Lib.hid (show R3.length = 67 by rw [hR3, List.length_append, HL2.out]; rfl)
              have HA3 := Lib.hid hA3
              have HDP3 := Lib.hid hdp
              have HK7 := Lib.hid hk7
              have hz7 := hk7.bel.size
              clear hA3 hk7 hr3 hn3 hdp C4 HJ HCH kf kc hs hR3 HA1b HA2 HDP2 HL2 HLO
              go_wp2_with (at_builtin; refine wpList_append_own _ rfl (.tmp 108) (.tmp 110) 27 rfl w7.heap.size 3 ii (.int .i64 0) 1 8 Tryz.underlying27 hi0 hi1 hi2 hi3 rfl (by decide) (.slice none 0 0) 0 [] rfl ⟨rfl, .inl ⟨rfl, rfl⟩⟩ ⟨w7.heap.size, 0, none⟩ 1 1 [.int .i64 67] rfl rfl (by intro m z hz; rcases m with _ | m <;> simp at hz; subst hz; exact cell_of_block (alloc_at _ _) 0) (by intro z hz; simp at hz; subst hz; rfl) (by simp only [maxLen]; omega) (by omega) (by simp) ?_)
              intro v8 w8 hown8 hg8 _
              have HB8 := Lib.hid (((Below.refl w7.heap.size w7).alloc (Nat.le_refl _) (.cells #[.int .i64 67] 3)).grown hg8 (by simp) (fun k hk => by cases hk))
              have HO8 := Lib.hid (show w8.ownsRow w7.heap.size 3 1 v8 (0 + 1) ([Value.int .i64 67] ++ List.replicate 0 (.int .i64 65)) from hown8)
              clear hown8 hg8
              go_wp2_with fail
              go_loopw [17, 18] (fun u i x => ∃ k : Nat, i = .int .i64 k ∧ k ≤ 62 ∧ x.ownsRow w7.heap.size 3 1 u (k + 1) ([Value.int .i64 67] ++ List.replicate k (.int .i64 65)) ∧ Below w7.heap.size w7 x) (fun _ i _ => 62 - (intOf i).toNat)
              case atStart => exact ⟨0, rfl, by omega, HO8.out, HB8.out⟩
              case round =>
                obtain ⟨k, rfl, hk, hown, hb⟩ := hrel
                have HBB := Lib.hid hb
                have hsz := hb.size
                clear hb HO8 HB8
                by_cases hlt : k < 62
                · have i1 : (k : Int) < 62 := by omega
                  have HRS := Lib.hid (show [Value.int .i64 67] ++ List.replicate (k + 1) (Value.int .i64 65) = ([Value.int .i64 67] ++ List.replicate k (Value.int .i64 65)) ++ [Value.int .i64 65] by rw [List.append_assoc, ← List.replicate_succ'])
                  go_wp2_with (at_builtin; refine wpList_append_own _ rfl (.tmp 116) (.tmp 118) 27 rfl w7.heap.size 3 ii (.int .i64 0) 1 8 Tryz.underlying27 hi0 hi1 hi2 hi3 rfl (by decide) _ _ _ rfl (hown.alloc _) ⟨wr.heap.size, 0, none⟩ 1 1 [.int .i64 65] rfl rfl (by intro m z hz; rcases m with _ | m <;> simp at hz; subst hz; exact cell_of_block (alloc_at _ _) 0) (by intro z hz; simp at hz; subst hz; rfl) (by simp only [maxLen]; omega) (by omega) (by simp; omega) ?_)
                  intro v4 w4 hown4 hg4 _
                  have HO4 := Lib.hid hown4
                  have HB4 := Lib.hid ((HBB.out.alloc hsz _).grown hg4 (by simp; omega) (fun g hg => (own_at hown hg).1))
                  clear hown4 hg4 hown
                  go_wp2_with fail
                  exact ⟨⟨k + 1, by go_num, by omega, by rw [HRS.out]; exact HO4.out, HB4.out⟩, by simp [intOf]; omega⟩
                · obtain rfl : k = 62 := by omega
                  obtain ⟨va, vc, hv⟩ := own_slice_form' hown
                  subst hv
                  have HOWN := Lib.hid hown
                  have hva : NilOk va vc := by
                    obtain ⟨a', c', hv', hn', _⟩ := own_cells1 hown
                    cases hv'
                    exact fun h => (hn' h).2
                  have HVA := Lib.hid hva
                  have HO9 := Lib.hid (HK7.out.off HBB.out (fun b => (Value.slice va (62 + 1) vc).ownBlock = some b) (fun b hb => (own_at HOWN.out hb).1))
                  have HP9 := Lib.hid (parts_own (67 :: List.replicate 62 65) hown (by simp) (by rw [List.map_cons, List.map_replicate]; rfl))
                  obtain ⟨t1, t2, t3⟩ := top_nums Tz R3 67 65 62 dp3 HA3.out HA1c.out (by decide) (by decide)
                  have t4 : depthF R3 (spL 16 e0 0 [] (67 :: List.replicate 62 65)) ≤ 4 := join_depth R3 _ 3 (fun z hz => by
                    rcases List.mem_cons.1 hz with rfl | hz
                    · rw [HA3.out.depth]; exact HDP3.out
                    · rw [List.eq_of_mem_replicate hz, HA1c.out.depth]; decide) (by decide)
                  have hin : ∀ n, ∀ z ∈ (67 :: List.replicate n (65 : Int)), 0 ≤ z ∧ z ≤ (R3.length : Int) := fun n z hz => by
                    rcases List.mem_cons.1 hz with rfl | hz
                    · exact ⟨HA3.out.lo, HA3.out.hi⟩
                    · rw [List.eq_of_mem_replicate hz]; exact ⟨HA1c.out.lo, HA1c.out.hi⟩
                  have C5 := Lib.hid (wk_join_o w Tz (67 :: List.replicate 62 65) (by simp) va vc HVA.out wr HO9.out.wk.bel HO9.out (fun b hb => (own_at HOWN.out hb).2.1) HP9.out (hin 62) (mkE_ok Tz _ _ (by omega) (by omega) (by omega) (by omega) (by rw [HL3.out]; decide)))
                  have HT4 := Lib.hid (And.intro t1 (And.intro t2 (And.intro t3 t4)))
                  have HIN := Lib.hid hin
                  unfold spC at C5
                  dsimp only [spL] at C5
                  have e63 : (67 :: List.replicate 62 (65 : Int)).length = 63 := by simp
                  rw [e63] at C5
                  clear hown hva t1 t2 t3 t4 hin e63 hk hlt HP9 hr2 hr3
                  go_wp2_with fail
                  refine C5.out.mono ?_
                  rintro e w9 ⟨r4, he, hk9, hr4, hn4, hkeep, hsz9⟩
                  rw [HL3.out, show ((67 : Nat) : Int) + 1 = 68 from rfl] at he
                  subst he
                  have hr4 : r4.sp = spL 16 e0 0 [] (67 :: List.replicate 62 65) := hr4
                  have hA4 := At.last hn4
                  rw [HL3.out, show ((67 : Nat) : Int) + 1 = 68 from rfl, hr4, HT4.out.1, HT4.out.2.1, HT4.out.2.2.1] at hA4
                  generalize depthF R3 (spL 16 e0 0 [] (67 :: List.replicate 62 65)) = dp4 at hA4
                  have hA4 : At (R3 ++ [r4]) 68 4096 dp4 4030 0 := hA4
                  have HA1d := Lib.hid (HA1c.out.snoc r4)
                  have HA3d := Lib.hid (HA3.out.snoc r4)
                  have hin4 : ∀ n, ∀ z ∈ (67 :: List.replicate n (65 : Int)), 0 ≤ z ∧ z ≤ ((R3 ++ [r4]).length : Int) := fun n z hz => by
                    have := HIN.out n z hz
                    rw [List.length_append]; simp; omega
                  have HIN4 := Lib.hid hin4
                  obtain ⟨R4, hR4⟩ : ∃ R4, R4 = R3 ++ [r4] := ⟨_, rfl⟩
                  rw [← hR4] at hA4 hk9 HA1d HA3d HIN4
                  have HL4 := Lib.hid (show R4.length = 68 by rw [hR4, List.length_append, HL3.out]; rfl)
                  have HA4 := Lib.hid hA4
                  have HK9 := Lib.hid hk9
                  have hown9 := hkeep.own HOWN.out (by decide) (by decide)
                  have hs9 : w7.heap.size ≤ w9.heap.size := Nat.le_trans hsz hsz9
                  clear hA4 hk9 hr4 hn4 hkeep hsz9 C5 HT4 hR4 HA1c HA3 HL3 HK7 HOWN HO9 HBB hsz hin4 HIN HVA
                  go_wp2_with (at_builtin; refine wpList_append_own _ rfl (.tmp 127) (.tmp 129) 27 rfl w7.heap.size 3 ii (.int .i64 0) 1 8 Tryz.underlying27 hi0 hi1 hi2 hi3 rfl (by decide) _ _ _ rfl (hown9.alloc _) ⟨w9.heap.size, 0, none⟩ 1 1 [.int .i64 65] rfl rfl (by intro m z hz; rcases m with _ | m <;> simp at hz; subst hz; exact cell_of_block (alloc_at _ _) 0) (by intro z hz; simp at hz; subst hz; rfl) (by simp only [maxLen]; omega) (by omega) (by simp; omega) ?_)
                  intro v10 w10 hown10 hg10 _
                  obtain ⟨ga, gc, hv⟩ := own_slice_form' hown10
                  subst hv
                  have HVB := Lib.hid (show NilOk ga gc by
                    obtain ⟨a', c', hv', hn', _⟩ := own_cells1 hown10
                    cases hv'
                    exact fun h => (hn' h).2)
                  have HKA := Lib.hid (HK9.out.ex (((Ex.refl (fun b => (Value.slice va (62 + 1) vc).ownBlock = some b) w9).alloc (.cells #[.int .i64 65] 3)).grown (hown9.alloc _) hg10 (fun b hb => .inl hb)) (fun b hb => by
                    obtain ⟨h1, h2, cur, hc⟩ := own_at hown9 hb
                    exact ⟨hb, Nat.le_trans (show w.heap.size ≤ w7.heap.size by assumption) h1, cur, _, _, hc, by decide, by decide⟩))
                  have HPA := Lib.hid (parts_own (67 :: List.replicate 63 65) hown10 (by simp) (by rfl))
                  have C6 := Lib.hid (wk_join_no w Tz (67 :: List.replicate 63 65) (by simp) ga gc HVB.out w10 HKA.out.wk.bel HKA.out.wk HPA.out (HIN4.out 63) 51 (mkE_size Tz _ _ (by rw [(top_nums Tz R4 67 65 63 dp3 HA3d.out HA1d.out (by decide) (by decide)).1]; decide)) (by decide))
                  unfold spC at C6
                  dsimp only [spL] at C6
                  have e64 : (67 :: List.replicate 63 (65 : Int)).length = 64 := by simp
                  rw [e64] at C6
                  clear hown10 hg10 hown9 hs9 e64 hA4 hr4 HPA hz7
                  go_wp2_with fail
                  refine C6.out.mono ?_
                  rintro e w11 ⟨rfl, hb11⟩
                  have HKB := Lib.hid (HKA.out.wk.below hb11)
                  clear hb11 C6 HKA HK9
                  have C7 := Lib.hid (show Calls Tryz.prog 7 #[.pointer (some ⟨bb, 0, none⟩), .int .i64 68] w11 fun e w' => e = .returned (.tuple #[.int .i64 4096, .int .i64 0]) ∧ Below w11.heap.size w11 w' by
                    obtain ⟨D, v, hB, hD, _⟩ := HKB.out
                    have h := size_any 68 w11 hB
                    rw [HA4.out.size, show atE R4.length 68 = 0 by unfold atE; rw [if_pos (by rw [HL4.out]; decide)]] at h
                    exact h)
                  go_wp2_with fail
                  refine C7.out.mono ?_
                  rintro e w12 ⟨rfl, hb12⟩
                  have HKC := Lib.hid (HKB.out.below hb12)
                  clear hb12 C7 HKB
                  have C8 := Lib.hid (wordy_walk w12 HKC.out (by rw [HL4.out]; decide))
                  go_wp2_with fail
                  refine C8.out.mono ?_
                  rintro e w13 ⟨rfl, R5, hk13, hl13⟩
                  have HKD := Lib.hid hk13
                  have HL5 := Lib.hid hl13
                  clear hk13 hl13 C8 HKC
                  have C9 := Lib.hid (long_walk w13 HKD.out (by rw [HL5.out, HL4.out]; decide))
                  go_wp2_with fail
                  refine C9.out.mono ?_
                  rintro e w14 ⟨rfl, R6, hk14⟩
                  have HKE := Lib.hid hk14
                  clear hk14 C9 HKD
                  have C10 := Lib.hid (many_walk w HT.out w14 HKE.out.bel)
                  go_wp2_with fail
                  refine C10.out.mono ?_
                  rintro e w15 ⟨rfl, hb15⟩
                  have HBF := Lib.hid (HKE.out.bel.trans (hb15.mono HKE.out.bel.size))
                  clear hb15 C10 HKE
                  go_wp2
                  go_ret
                  exact ⟨rfl, HBF.out⟩
end Go.Proofs.YtfmnbhhpimpjbaaGreatDoor
