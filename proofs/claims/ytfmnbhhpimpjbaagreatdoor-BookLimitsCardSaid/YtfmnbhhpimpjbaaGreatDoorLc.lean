/- BookLimits: as many words as may be. -/
import Derived.Test.YtfmnbhhpimpjbaaGreatDoorLa
import Derived.OwnWalk
import Derived.Laws.OwnMore
import Derived.Laws.IdiomStrings
namespace Go.Proofs.YtfmnbhhpimpjbaaGreatDoor
open Go.RowKit
set_option linter.unusedVariables false

def word (n : Nat) : ByteArray := ⟨(List.replicate n (0 : UInt8)).toArray⟩
theorem word_size (n : Nat) : (word n).size = n := by show (List.replicate n (0 : UInt8)).toArray.size = n; simp
theorem info_u8 : (Tryz.prog.info? 5).map (fun i => (i.zero, i.size, i.bytes)) = some (some (.int .u8 0), 1, 1) := by kernel_rfl
theorem conv_word {w : World} {B g n : Nat} (ho : w.ownsRow B 5 1 (.slice (some ⟨g, 0, none⟩) n n) n (madeCells (Value.int .u8 0).cells (n * 1)).toList) :
    (convert 72 9 (.slice (some ⟨g, 0, none⟩) n n)).run Tryz.prog w = .ok (.string (word n)) w := by
  have h := run_convert_bytes_back (P := Tryz.prog) w 72 9 5 ⟨g, 0, none⟩ n (List.replicate n (0 : UInt8)) Tryz.underlying72 Tryz.underlying5 Tryz.underlying9 (fun j hj => by
    have e : (madeCells (Value.int .u8 0).cells (n * 1)).toList = List.replicate n (.int .u8 0) := by rw [Nat.mul_one]; exact toList_madeCells_one _ _
    rw [e] at ho
    have hj' : j < n := by simpa using hj
    rw [World.ownsRow.cells (g := g) ho rfl j (.int .u8 0) (by rw [List.getElem?_replicate, if_pos hj'])]
    simp)
  rw [List.length_replicate] at h
  exact h
/-- Parts that a call laid. -/
theorem parts_alloc (w : World) (t : TypeId) (l : List Int) : PartsIn (w.alloc (.cells (l.map (Value.int .i64)).toArray t)) (some ⟨w.heap.size, 0, none⟩) l := fun _ => ⟨_, rfl, fun i hi => by
  rw [show ((⟨w.heap.size, 0, none⟩ : Addr).add i) = ⟨w.heap.size, 0 + i, none⟩ from Go.WideShapes.add_plain _ _ _, Nat.zero_add, cell_of_block (alloc_at _ _)]
  simp [List.getD_eq_getElem?_getD, hi]⟩
theorem join_chk (l : List Int) (hl : l.length ≤ 64) : checkF (spL 16 e0 0 [] l) = 0 :=
  chkL 16 e0 0 [] l (by simp [ownF, spL]) (by decide) (by decide) (by intro x hx; cases hx) (by simp [bareF, fieldsF, hasL, spL, e0]) (by show (l.length : Int) ≤ 64; omega)
theorem join_ok (l : List Int) (hl : l.length ≤ 64) : (spL 16 e0 0 [] l).Ok := spL_ok 16 e0 0 [] l (by decide) (by decide) (by decide) (by decide) (by intro x hx; cases hx) hl
theorem note_chk (t : ByteArray) (ht : t.size ≤ 4096) : checkF (spL 2 t 0 [] []) = 0 :=
  chkL 2 t 0 [] [] (by simp [ownF, spL]) ht (by decide) (by intro x hx; cases hx) (by simp [bareF, fieldsF, hasL, spL]) (by decide)
theorem note_ok (t : ByteArray) (ht : t.size ≤ 4096) : (spL 2 t 0 [] []).Ok := spL_ok 2 t 0 [] [] (by decide) (by decide) ht (by decide) (by intro x hx; cases hx) (by decide)
theorem note_nums (T : Txt) (rows : List BRow) (t : ByteArray) : sizeF rows (spL 2 t 0 [] []) = 1 ∧ depthF rows (spL 2 t 0 [] []) = 1 ∧ wordsF rows (spL 2 t 0 [] []) = t.size ∧ longT T rows (spL 2 t 0 [] []) = t.size := by
  refine ⟨by rw [sizeF_eq]; simp [spL], by unfold depthF; simp [spL, maxTo], by rw [wordsF_eq]; simp [spL], ?_⟩
  rw [longT_eq]; simp [spL, longK]
/-- A Note. -/
theorem wk_note (W : World) (T : Txt) {w0 : World} {bb : Nat} {rows : List BRow} (t : ByteArray) (ht : t.size ≤ 4096) (x : World) (hW : Below W.heap.size W x) (hk : Wk w0 bb rows x) (hl : rows.length < 65536) :
    Calls Tryz.prog 6 #[.pointer (some ⟨bb, 0, none⟩), .agg (spC (spL 2 t 0 [] []) none 0 none 0)] x (MadeAt T w0 bb rows (spL 2 t 0 [] []) x) := by
  obtain ⟨a, b, c, d⟩ := note_nums T rows t
  exact wk_make_at W T _ (note_ok t ht) (kind_leaf W T _ (note_ok t ht) (note_chk t ht) (.inr (.inl rfl)) (.inr (.inl rfl)) rfl (fun h => by cases h)) none 0 none 0 (fun _ => rfl) (fun _ => rfl) x hW hk (fun h => by simp [spL] at h) (fun h => by simp [spL] at h) (fun h hh => by simp [spL] at hh) (note_chk t ht) (mkE_ok T rows _ (by omega) (by omega) (by omega) (by omega) hl)
theorem note_at (T : Txt) {rows : List BRow} {r : BRow} (t : ByteArray) (hr : r.sp = spL 2 t 0 [] []) (hn : Nums T rows r) : At (rows ++ [r]) ((rows.length : Int) + 1) 1 1 t.size t.size := by
  have h := At.last hn
  obtain ⟨a, b, c, d⟩ := note_nums T rows t
  rw [hr, a, b, c, d] at h
  exact h
/-- A Join. -/
theorem wk_join (W : World) (T : Txt) {w0 : World} {bb : Nat} {rows : List BRow} (l : List Int) (hl : l.length ≤ 64) (p : Option Addr) (pc : Nat) (hpc : NilOk p pc) (x : World) (hW : Below W.heap.size W x) (hk : Wk w0 bb rows x) (hP : PartsIn x p l) (hh : ∀ h ∈ l, 0 ≤ h ∧ h ≤ rows.length) (hE : mkE T rows (spL 16 e0 0 [] l) = 0) :
    Calls Tryz.prog 6 #[.pointer (some ⟨bb, 0, none⟩), .agg (spC (spL 16 e0 0 [] l) none 0 p pc)] x (MadeAt T w0 bb rows (spL 16 e0 0 [] l) x) :=
  wk_make_at W T _ (join_ok l hl) (kind_join W T _ (join_ok l hl) (join_chk l hl) rfl rfl) none 0 p pc (fun _ => rfl) hpc x hW hk (fun h => by simp [spL] at h) hP hh (join_chk l hl) hE
theorem wk_join_no (W : World) (T : Txt) {w0 : World} {bb : Nat} {rows : List BRow} (l : List Int) (hl : l.length ≤ 64) (p : Option Addr) (pc : Nat) (hpc : NilOk p pc) (x : World) (hW : Below W.heap.size W x) (hk : Wk w0 bb rows x) (hP : PartsIn x p l) (hh : ∀ h ∈ l, 0 ≤ h ∧ h ≤ rows.length) (E : Int) (hE : mkE T rows (spL 16 e0 0 [] l) = E) (hE0 : E ≠ 0) :
    Calls Tryz.prog 6 #[.pointer (some ⟨bb, 0, none⟩), .agg (spC (spL 16 e0 0 [] l) none 0 p pc)] x fun e y => e = .returned (.tuple #[.int .i64 0, .int .i64 E]) ∧ Below x.heap.size x y :=
  wk_make_no W T _ (join_ok l hl) (kind_join W T _ (join_ok l hl) (join_chk l hl) rfl rfl) none 0 p pc (fun _ => rfl) hpc x hW hk (fun h => by simp [spL] at h) hP hh (join_chk l hl) E hE hE0
/-- A Bag of words. -/
theorem bag_chk (S : ByteArray) (hS : S.size = 4096) : checkF (spL 12 e0 0 (List.replicate 64 S) []) = 0 :=
  chkL 12 e0 0 _ [] (by simp [ownF, spL]) (by decide) (by simp) (fun x hx => by rw [List.eq_of_mem_replicate hx]; omega) (by simp [bareF, fieldsF, hasL, spL, e0]) (by decide)
theorem bag_ok (S : ByteArray) (hS : S.size = 4096) : (spL 12 e0 0 (List.replicate 64 S) []).Ok := spL_ok 12 e0 0 _ [] (by decide) (by decide) (by decide) (by simp) (fun x hx => by rw [List.eq_of_mem_replicate hx]; omega) (by decide)
theorem bag_nums (T : Txt) (rows : List BRow) (S : ByteArray) (hS : S.size = 4096) : sizeF rows (spL 12 e0 0 (List.replicate 64 S) []) = 1 ∧ depthF rows (spL 12 e0 0 (List.replicate 64 S) []) = 1 ∧ wordsF rows (spL 12 e0 0 (List.replicate 64 S) []) = 262144 ∧ longT T rows (spL 12 e0 0 (List.replicate 64 S) []) = 0 := by
  refine ⟨by rw [sizeF_eq]; simp [spL], by unfold depthF; simp [spL, maxTo], ?_, ?_⟩
  · rw [wordsF_eq]
    show (0 : Int) + ((List.replicate 64 S).map fun x => (x.size : Int)).sum + 0 = _
    rw [List.map_replicate, sum_rep, hS]; rfl
  · rw [longT_eq]; simp [spL, longK, e0_size]
theorem wk_bag (W : World) (T : Txt) {w0 : World} {bb : Nat} {rows : List BRow} (S : ByteArray) (hS : S.size = 4096) (a : Option Addr) (c : Nat) (ha : NilOk a c) (x : World) (hW : Below W.heap.size W x) (hk : Wk w0 bb rows x) (hI : ItemsIn x a (List.replicate 64 S)) (hl : rows.length < 65536) :
    Calls Tryz.prog 6 #[.pointer (some ⟨bb, 0, none⟩), .agg (spC (spL 12 e0 0 (List.replicate 64 S) []) a c none 0)] x (MadeAt T w0 bb rows (spL 12 e0 0 (List.replicate 64 S) []) x) := by
  obtain ⟨p, b, q, d⟩ := bag_nums T rows S hS
  exact wk_make_at W T _ (bag_ok S hS) (kind_leaf W T _ (bag_ok S hS) (bag_chk S hS) (by simp [leafK, spL]) (by simp [simpleK, spL]) rfl (fun h => by cases h)) a c none 0 ha (fun _ => rfl) x hW hk hI (fun h => by simp [spL] at h) (fun h hh => by simp [spL] at hh) (bag_chk S hS) (mkE_ok T rows _ (by omega) (by omega) (by omega) (by omega) hl)
def WordyPost (w0 : World) (bb : Nat) (n : Nat) (e : Ending) (y : World) : Prop := e = .returned (.bool true) ∧ ∃ rows', Wk w0 bb rows' y ∧ rows'.length = n
set_option maxRecDepth 100000 in
set_option maxHeartbeats 4000000 in
theorem wordy_walk {w0 : World} {bb : Nat} {rows : List BRow} (x : World) (hk : Wk w0 bb rows x) (hl : rows.length ≤ 60000) :
    Calls Tryz.prog 8 #[.pointer (some ⟨bb, 0, none⟩)] x (WordyPost w0 bb (rows.length + 3)) := by
  obtain ⟨iu, hu0, hu1, hu2, hu3⟩ := info_parts info_u8
  obtain ⟨is, hs0, hs1, hs2, hs3⟩ := info_parts info_str
  have HK := Lib.hid hk
  clear hk
  go_enter Tryz.func8, Tryz.ntmps8
  go_wp2_with ((with_reducible refine at_op (.makeSlice 72 _ _) rfl ?_); refine wpList_make_full _ rfl _ _ 72 rfl x.heap.size 5 iu (.int .u8 0) 1 Tryz.underlying72 hu0 hu1 hu2 .i64 .i64 _ _ 4096 rfl rfl rfl rfl (by rw [hu3]; omega) (by simp only [maxLen]; omega) (Nat.le_refl _) ?_; intro w1 hown1 hg1; have hcv := conv_word hown1; have HB1 := Lib.hid (make_below (Nat.le_refl _) hg1); clear hown1 hg1)
  obtain ⟨S, hS⟩ : ∃ S, S = word 4096 := ⟨_, rfl⟩
  rw [← hS] at hcv ⊢
  have hSz : S.size = 4096 := by rw [hS]; exact word_size 4096
  have HSZ := Lib.hid hSz
  have HK1 := Lib.hid (HK.out.below HB1.out)
  clear hcv hS hSz HK HB1
  go_loopw [4, 5] (fun u i y => ∃ k : Nat, i = .int .i64 k ∧ k ≤ 64 ∧ y.ownsRow w1.heap.size 9 1 u k (List.replicate k (.string S)) ∧ Below w1.heap.size w1 y) (fun _ i _ => 64 - (intOf i).toNat)
  case atStart => exact ⟨0, rfl, by omega, ⟨rfl, .inl ⟨rfl, rfl⟩⟩, Below.refl _ _⟩
  case round =>
    obtain ⟨k, rfl, hk, hown, hb⟩ := hrel
    have hsz := hb.size
    have HBB := Lib.hid hb
    clear hb
    by_cases hlt : k < 64
    · have i1 : (k : Int) < 64 := by omega
      have HRS := Lib.hid (show List.replicate (k + 1) (Value.string S) = List.replicate k (Value.string S) ++ [Value.string S] from List.replicate_succ')
      go_wp2_with (at_builtin; refine wpList_append_own _ rfl (.tmp 22) (.tmp 24) 32 rfl w1.heap.size 9 is (.string ⟨#[]⟩) 1 16 Tryz.underlying32 hs0 hs1 hs2 hs3 rfl (by decide) _ _ _ rfl (hown.alloc _) ⟨wr.heap.size, 0, none⟩ 1 1 [.string S] rfl rfl (by intro m z hz; rcases m with _ | m <;> simp at hz; subst hz; exact cell_of_block (alloc_at _ _) 0) (by intro z hz; simp at hz; subst hz; rfl) (by simp only [maxLen]; omega) (by omega) (by simp; omega) ?_)
      intro v4 w4 hown4 hg4 _
      have HO4 := Lib.hid hown4
      have HB4 := Lib.hid ((HBB.out.alloc hsz _).grown hg4 (by simp; omega) (fun g hg => (own_at hown hg).1))
      clear hown4 hg4 hown
      go_wp2_with fail
      exact ⟨⟨k + 1, by go_num, by omega, by rw [HRS.out]; exact HO4.out, HB4.out⟩, by simp [intOf]; omega⟩
    · obtain rfl : k = 64 := by omega
      obtain ⟨a', c', hv, hn', hd⟩ := own_cells1 hown
      subst hv
      have HKr := Lib.hid (HK1.out.below HBB.out)
      have HI := Lib.hid (show ItemsIn wr a' (List.replicate 64 S) from fun h => by
        obtain ⟨g, cs, ha, hge, hh, hc⟩ := hd (by decide)
        refine ⟨_, ha, fun j hj => ?_⟩
        rw [show ((⟨g, 0, none⟩ : Addr).add j) = ⟨g, 0 + j, none⟩ from Go.WideShapes.add_plain _ _ _, cell_of_block hh, hc j (by simpa using hj), List.getElem?_replicate, if_pos (by simpa using hj), List.getD_eq_getElem?_getD, List.getElem?_replicate, if_pos (by simpa using hj)]
        rfl)
      have HN := Lib.hid (show NilOk a' c' from fun h => (hn' h).2)
      have C1 := Lib.hid (wk_bag w0 Tz S HSZ.out a' c' HN.out wr HKr.out.bel HKr.out HI.out (by omega))
      have e64 : ((List.replicate 64 S).length : Int) = 64 := by simp
      have HLL := Lib.hid hl
      unfold spC at C1
      dsimp only [spL] at C1
      rw [List.length_replicate] at C1
      clear hown hd hn' HK1 HI HN hlt hk e64
      go_wp2_with fail
      refine C1.out.mono ?_
      rintro e w2 ⟨r1, rfl, hk2, hr1, hn1, _, hsz2⟩
      obtain ⟨N, hN⟩ : ∃ N : Int, N = (rows.length : Int) + 1 := ⟨_, rfl⟩
      have hA := At.last hn1
      rw [show sizeF rows r1.sp = 1 by rw [hr1]; exact (bag_nums Tz rows S HSZ.out).1, show depthF rows r1.sp = 1 by rw [hr1]; exact (bag_nums Tz rows S HSZ.out).2.1, show wordsF rows r1.sp = 262144 by rw [hr1]; exact (bag_nums Tz rows S HSZ.out).2.2.1, show longT Tz rows r1.sp = 0 by rw [hr1]; exact (bag_nums Tz rows S HSZ.out).2.2.2] at hA
      rw [← hN] at hA ⊢
      have HA := Lib.hid hA
      have HN := Lib.hid hN
      have hl1 : ((rows ++ [r1]).length : Int) = N := by rw [hN]; simp
      have HL1 := Lib.hid hl1
      have HK2 := Lib.hid hk2
      clear hA hN hl1 hk2 hr1 hn1 hsz2 C1 HKr HBB
      have J4 := join_nums Tz (rows ++ [r1]) N 4 [] 1 1 0 262144 HA.out (by have := HA.out.lo; have := HN.out; omega) (by decide)
      have hD4 := join_depth (rows ++ [r1]) [N, N, N, N] 1 (by intro y hy; simp at hy; subst hy; exact Int.le_of_eq HA.out.depth) (by decide)
      have C2 := Lib.hid (wk_join w0 Tz [N, N, N, N] (by simp) (some ⟨w2.heap.size, 0, none⟩) 4 (fun h => by cases h) (w2.alloc (.cells #[.int .i64 N, .int .i64 N, .int .i64 N, .int .i64 N] 3)) (HK2.out.bel.alloc HK2.out.bel.size _) (HK2.out.below ((Below.refl _ _).alloc (Nat.le_refl _) _)) (parts_alloc w2 3 [N, N, N, N]) (by intro y hy; simp at hy; subst hy; exact ⟨HA.out.lo, HA.out.hi⟩)
        (mkE_ok Tz _ _ (by have := J4.1; simp at this; omega) (by omega) (by have := J4.2.2; simp at this; omega) (by have := J4.2.1; simp at this; omega) (by simp; omega)))
      have J4' := Lib.hid J4
      unfold spC at C2
      dsimp only [spL] at C2
      clear J4 hD4
      go_wp2_with fail
      refine C2.out.mono ?_
      rintro e w3 ⟨r2, he, hk3, hr2, hn2, _, _⟩
      rw [HL1.out] at he
      subst he
      have hA2 := At.last hn2
      rw [HL1.out, hr2] at hA2
      have e1 : sizeF (rows ++ [r1]) (spL 16 e0 0 [] [N, N, N, N]) = 5 := by have := J4'.out.1; simpa using this
      have e2 : wordsF (rows ++ [r1]) (spL 16 e0 0 [] [N, N, N, N]) = 1048576 := by have := J4'.out.2.1; simpa using this
      have e3 : longT Tz (rows ++ [r1]) (spL 16 e0 0 [] [N, N, N, N]) = 3 := by have := J4'.out.2.2; simp at this; omega
      have e4 : depthF (rows ++ [r1]) (spL 16 e0 0 [] [N, N, N, N]) ≤ 2 := join_depth (rows ++ [r1]) [N, N, N, N] 1 (by intro y hy; simp at hy; subst hy; exact Int.le_of_eq HA.out.depth) (by decide)
      obtain ⟨dp, hdp⟩ : ∃ dp, dp = depthF (rows ++ [r1]) (spL 16 e0 0 [] [N, N, N, N]) := ⟨_, rfl⟩
      have hA2 : At ((rows ++ [r1]) ++ [r2]) (N + 1) 5 dp 3 1048576 := by rw [hdp, ← e1, ← e2, ← e3]; exact hA2
      have hdp2 : dp ≤ 2 := by rw [hdp]; exact e4
      have HA1' := Lib.hid (HA.out.snoc r2)
      obtain ⟨R2, hR2⟩ : ∃ R2, R2 = (rows ++ [r1]) ++ [r2] := ⟨_, rfl⟩
      rw [← hR2] at hA2 hk3 HA1'
      have hl2 : (R2.length : Int) = N + 1 := by rw [hR2, List.length_append]; have := HL1.out; simp at this ⊢; omega
      have HR2 := Lib.hid hl2
      have HA2 := Lib.hid hA2
      have HDP := Lib.hid hdp2
      have HK3 := Lib.hid hk3
      clear e1 e2 e3 e4 hdp hdp2 hA2 hk3 hr2 hn2 C2 J4' HK2 HA hR2 hl2
      have hRl : R2.length ≤ 60002 := by have := HR2.out; have := HN.out; omega
      have C3 := Lib.hid (wk_note w0 Tz ⟨#[120]⟩ (by decide) w3 HK3.out.bel HK3.out (by omega))
      have HRL := Lib.hid hRl
      clear hRl hl
      unfold spC at C3
      dsimp only [spL] at C3
      go_wp2_with fail
      refine C3.out.mono ?_
      rintro e w4 ⟨r3, he, hk4, hr3, hn3, _, _⟩
      rw [HR2.out] at he
      subst he
      have hA3 := note_at Tz ⟨#[120]⟩ hr3 hn3
      rw [HR2.out] at hA3
      have HA1'' := Lib.hid (HA1'.out.snoc r3)
      have HA2' := Lib.hid (HA2.out.snoc r3)
      obtain ⟨R3, hR3⟩ : ∃ R3, R3 = R2 ++ [r3] := ⟨_, rfl⟩
      rw [← hR3] at hA3 hk4 HA1'' HA2'
      have HL3 := Lib.hid (show R3.length = rows.length + 3 by have := HR2.out; have := HN.out; rw [hR3, List.length_append]; simp; omega)
      have HA3 := Lib.hid hA3
      have HK4 := Lib.hid hk4
      clear hA3 hk4 hr3 hn3 C3 HK3 hR3 HA1' HA2
      have C4 := Lib.hid (wk_join_no w0 Tz [N + 1, N + 1 + 1] (by simp) (some ⟨w4.heap.size, 0, none⟩) 2 (fun h => by cases h) (w4.alloc (.cells #[.int .i64 (N + 1), .int .i64 (N + 1 + 1)] 3)) (HK4.out.bel.alloc HK4.out.bel.size _) (HK4.out.below ((Below.refl _ _).alloc (Nat.le_refl _) _)) (parts_alloc w4 3 [N + 1, N + 1 + 1]) (by intro y hy; simp at hy; rcases hy with rfl | rfl; exact ⟨HA2'.out.lo, HA2'.out.hi⟩; exact ⟨HA3.out.lo, HA3.out.hi⟩) 53
        (mkE_text Tz _ _ (by rw [sizeF_eq]; simp [spL, HA2'.out.size, HA3.out.size]) (by have := join_depth R3 [N + 1, N + 1 + 1] 2 (by intro y hy; simp at hy; rcases hy with rfl | rfl; rw [HA2'.out.depth]; exact HDP.out; rw [HA3.out.depth]; decide) (by decide); omega) (.inr (by rw [wordsF_eq]; simp [spL, e0_size, HA2'.out.words, HA3.out.words]; decide))) (by decide))
      have C5 := Lib.hid (fun (y : World) (hy : Wk w0 bb R3 y) => wk_join_no w0 Tz [N, N, N, N, N] (by simp) (some ⟨y.heap.size, 0, none⟩) 5 (fun h => by cases h) (y.alloc (.cells #[.int .i64 N, .int .i64 N, .int .i64 N, .int .i64 N, .int .i64 N] 3)) (hy.bel.alloc hy.bel.size _) (hy.below ((Below.refl _ _).alloc (Nat.le_refl _) _)) (parts_alloc y 3 [N, N, N, N, N]) (by intro z hz; simp at hz; subst hz; exact ⟨HA1''.out.lo, HA1''.out.hi⟩) 53
        (mkE_text Tz _ _ (by rw [sizeF_eq]; simp [spL, HA1''.out.size]) (by have := join_depth R3 [N, N, N, N, N] 1 (by intro z hz; simp at hz; subst hz; exact Int.le_of_eq HA1''.out.depth) (by decide); omega) (.inr (by rw [wordsF_eq]; simp [spL, e0_size, HA1''.out.words]))) (by decide))
      unfold spC at C4 C5
      dsimp only [spL] at C4 C5
      go_wp2_with fail
      refine C4.out.mono ?_
      rintro e w5 ⟨rfl, hb5⟩
      have HK5 := Lib.hid (HK4.out.below (((Below.refl w4.heap.size w4).alloc (Nat.le_refl _) _).trans (hb5.mono (by simp))))
      have C6 := Lib.hid (C5.out w5 HK5.out)
      clear hb5 C4 HK4 C5
      go_wp2_with fail
      refine C6.out.mono ?_
      rintro e w6 ⟨rfl, hb6⟩
      have HK6 := Lib.hid (HK5.out.below (((Below.refl w5.heap.size w5).alloc (Nat.le_refl _) _).trans (hb6.mono (by simp))))
      have i9 : N < N + 1 := by omega
      clear hb6 C6 HK5
      go_wp2
      go_ret
      exact ⟨rfl, R3, HK6.out, HL3.out⟩
end Go.Proofs.YtfmnbhhpimpjbaaGreatDoor
