/- The contracts of Waits at a plan that may not be, and of the statement's own 'own'. -/
import Derived.Test.YtmdfkljmgijdlaaGe
namespace Go.Proofs.Ytmdfkljmgijdlaa
open Go.RowKit
set_option linter.unusedVariables false

set_option maxRecDepth 100000 in
theorem waits_bad (t : Int) (f g c j d : Nat) (s : Int) (a : Option Addr) (n cp : Nat) (w : World) (hok : badPlan t f g c d j n = true) :
    Calls Try.prog 15 #[.agg #[.int .i64 t, .float .f64 f, .float .f64 g, .float .f64 c, .float .f64 j, .float .f64 d, .int .u64 s, .slice a n cp]] w fun e w' =>
      e = .returned (.tuple #[.slice none 0 0, .int .i64 240]) ∧ Below w.heap.size w w' := by
  have hE : planE t f g c d j n = 240 := by unfold planE; rw [hok]; rfl
  have HE := Lib.hid hE
  clear hE hok
  go_enter Try.func15, Try.ntmps15
  go_wp2_with fail
  refine (check_any _ _ _ _ _ _ _ _ _ _ _).mono ?_
  rintro e w1 ⟨rfl, hb⟩
  rw [HE.out]
  have hblk : w1.heap[w.heap.size]? = some (.cells (planV t f g c j d s (.slice a n cp)) 27 (0, 0)) := by
    rw [hb.block _ (by simp)]; exact alloc_at _ _
  have hbel : Below w.heap.size w w1 := ((Below.refl _ _).alloc (Nat.le_refl _) _).trans (hb.mono (by simp))
  clear hb
  go_wp2
  go_ret2
  exact ⟨rfl, hbel⟩

theorem Try.info129 : (Try.prog.info? 129).map (fun i => (i.zero, i.size, i.bytes)) = some (some (.int .i16 0), 1, 2) := by kernel_rfl

set_option maxRecDepth 100000 in
set_option maxHeartbeats 4000000 in
theorem own_any (t : Int) (f g c j d : Nat) (s : Int) (a : Option Addr) (n cp : Nat) (w : World) (L : List Int) (hr : RowIn w a n cp (L.map (.int .i16))) (hreach : n * 2 ≤ 140737488351232) :
    Calls Try.prog 14 #[.agg #[.int .i64 t, .float .f64 f, .float .f64 g, .float .f64 c, .float .f64 j, .float .f64 d, .int .u64 s, .slice a n cp]] w fun e w' =>
      ∃ b cap, e = .returned (.agg #[.int .i64 t, .float .f64 f, .float .f64 g, .float .f64 c, .float .f64 j, .float .f64 d, .int .u64 s, .slice (some ⟨b, 0, none⟩) n cap]) ∧
        w'.ownsRow (w.heap.size + 2) 129 1 (.slice (some ⟨b, 0, none⟩) (n + 1) cap) (n + 1) (L.map (.int .i16) ++ [.int .i16 4711]) ∧ Below w.heap.size w w' := by
  obtain ⟨i0, hi, hz0, hz1, hz2⟩ := info_parts Try.info129
  rcases hr with ⟨rfl, rfl, rfl, hL⟩ | ⟨x, rfl, hlc, hcm, hlen, hcell⟩
  · obtain rfl : L = [] := by simpa using hL
    have hown1 : (((w.alloc (.cells #[.int .i64 t, .float .f64 f, .float .f64 g, .float .f64 c, .float .f64 j, .float .f64 d, .int .u64 s, .slice none 0 0] 26)).alloc (.cells #[.int .i64 0, .float .f64 0, .float .f64 0, .float .f64 0, .float .f64 0, .float .f64 0, .int .u64 0, .slice none 0 0] 27)).alloc (.cells #[] 129)).ownsRow (w.heap.size + 2) 129 1 (.slice (some ⟨w.heap.size + 1 + 1, 0, none⟩) 0 0) 0 [] := own_empty _ _ _ _ _ (by simp) (by simp)
    go_enter Try.func14, Try.ntmps14
    go_wp2_with (first | (at_builtin; refine wpList_append_own_none rfl (.tmp 4) (.tmp 6) 24 rfl (w.heap.size + 2) 129 i0 1 Try.underlying24 hi _ 0 [] rfl hown1 rfl ?_) | (at_builtin; refine wpList_append_own _ rfl (.tmp 7) (.tmp 8) 24 rfl (w.heap.size + 2) 129 i0 (.int .i16 0) 1 2 Try.underlying24 hi hz0 hz1 hz2 rfl (by decide) _ _ _ rfl (hown1.alloc _) ⟨w.heap.size + 1 + 1 + 1, 0, none⟩ 1 1 [.int .i16 4711] rfl rfl ?d1 ?d2 ?d3 ?d4 ?d5 ?_))
    case d1 => exact cell_one_new' _ _ _ _ (by simp)
    case d2 => intro u hu; simp at hu; subst hu; rfl
    case d3 => unfold maxLen; omega
    case d4 => omega
    case d5 => simp
    intro v2 w2 hown2 hg2 _
    have hbel2 : Below w.heap.size w w2 := ((((Below.refl _ _).alloc (Nat.le_refl _) _).alloc (by simp) _).alloc (by simp; omega) _).alloc (by simp; omega) _ |>.grown hg2 (by simp; omega) (fun i hi => by simp [Value.ownBlock] at hi; omega)
    have hb1 : w2.heap[w.heap.size]? = some (.cells #[.int .i64 t, .float .f64 f, .float .f64 g, .float .f64 c, .float .f64 j, .float .f64 d, .int .u64 s, .slice none 0 0] 26 (0, 0)) := by
      rw [hg2.block _ (by simp; omega) (by simp [Value.ownBlock]; omega), alloc_old _ _ _ (by simp; omega), alloc_old _ _ _ (by simp; omega), alloc_old _ _ _ (by simp), alloc_at]
    have hb2 : w2.heap[w.heap.size + 1]? = some (.cells #[.int .i64 0, .float .f64 0, .float .f64 0, .float .f64 0, .float .f64 0, .float .f64 0, .int .u64 0, .slice none 0 0] 27 (0, 0)) := by
      rw [hg2.block _ (by simp) (by simp [Value.ownBlock]), alloc_old _ _ _ (by simp), alloc_old _ _ _ (by simp), alloc_at' _ _ _ (by simp)]
    clear hg2 hown1
    have h22 := hown2.2
    rcases h22 with ⟨_, h⟩ | ⟨g2, cap2, cur, rfl, hB2, hg2, hle2, hm2, _, _⟩
    · omega
    have c1 : ∀ i, w2.cell? ⟨w.heap.size, i, none⟩ = #[Value.int .i64 t, .float .f64 f, .float .f64 g, .float .f64 c, .float .f64 j, .float .f64 d, .int .u64 s, .slice none 0 0][i]? := fun i => cell_of_block hb1 i
    have c2 : ∀ i, w2.cell? ⟨w.heap.size + 1, i, none⟩ = #[Value.int .i64 0, .float .f64 0, .float .f64 0, .float .f64 0, .float .f64 0, .float .f64 0, .int .u64 0, .slice none 0 0][i]? := fun i => cell_of_block hb2 i
    have f2 : ∀ i, w2.frozen? ⟨w.heap.size + 1, i, none⟩ = false := fun i => by simp [World.frozen?, hb2]
    have hnc : (0 : Int) ≤ (cap2 : Int) := by omega
    clear hb1 hg2
    go_wp2
    go_still_tail 20, (by kernel_rfl)
    change wpList _ _ _ _ _ w2.drew
    have hb2' : w2.drew.heap[w.heap.size + 1]? = some (.cells #[.int .i64 0, .float .f64 0, .float .f64 0, .float .f64 0, .float .f64 0, .float .f64 0, .int .u64 0, .slice none 0 0] 27 (0, 0)) := hb2
    refine wpList_store_row rfl 27 _ _ rfl (w.heap.size + 1) rfl #[.int .i64 t, .float .f64 f, .float .f64 g, .float .f64 c, .float .f64 j, .float .f64 d, .int .u64 s, .slice (some ⟨g2, 0, none⟩) 0 cap2] rfl 27 _ hb2' (by kernel_rfl) rfl (by simp [Value.oneCell']) ?_
    have hb3 : (w2.drew.setRow (w.heap.size + 1) #[.int .i64 t, .float .f64 f, .float .f64 g, .float .f64 c, .float .f64 j, .float .f64 d, .int .u64 s, .slice (some ⟨g2, 0, none⟩) 0 cap2]).heap[w.heap.size + 1]? = some (.cells #[.int .i64 t, .float .f64 f, .float .f64 g, .float .f64 c, .float .f64 j, .float .f64 d, .int .u64 s, .slice (some ⟨g2, 0, none⟩) 0 cap2] 27 (0, 0)) := setRow_heap _ _ _ _ _ _ hb2'
    go_wp2
    refine bodyPost_ret (results_cell_row rfl _ _ _ _ _ _ _ rfl hb3 Try.underlying27 rfl (by kernel_rfl)) rfl ?_
    exact ⟨g2, cap2, rfl, ownsRow_setRow_below (ownsRow_drew hown2) (by omega) _, below_setRow hbel2.drew (by omega) _⟩
  · go_enter Try.func14, Try.ntmps14
    go_wp2_with (at_builtin; go_must (refine wpList_append_own _ rfl (.tmp 4) (.tmp 6) 24 rfl (w.heap.size + 2) 129 i0 (.int .i16 0) 1 2 Try.underlying24 hi hz0 hz1 hz2 rfl (by decide) _ _ _ rfl (own_empty _ _ _ _ _ (by simp) (by simp)) x n cp (L.map (.int .i16)) rfl ?c1 ?c2 ?c3 ?c4 ?c5 ?c6 ?_))
    case c1 => simpa using hlen
    case c2 =>
      intro i u hu
      have hb : Below w.heap.size w (((w.alloc (.cells #[.int .i64 t, .float .f64 f, .float .f64 g, .float .f64 c, .float .f64 j, .float .f64 d, .int .u64 s, .slice (some x) n cp] 26)).alloc (.cells #[.int .i64 0, .float .f64 0, .float .f64 0, .float .f64 0, .float .f64 0, .float .f64 0, .int .u64 0, .slice none 0 0] 27)).alloc (.cells #[] 129)) :=
        (((Below.refl _ _).alloc (Nat.le_refl _) _).alloc (by simp) _).alloc (by simp; omega) _
      rw [hb.cell (block_lt (hcell i u hu))]
      exact hcell i u hu
    case c3 => intro u hu; obtain ⟨z, _, rfl⟩ := List.mem_map.1 hu; rfl
    case c4 => omega
    case c5 => omega
    case c6 => simp
    intro v1 w1 hown1 hg1 _
    have hbel1 : Below w.heap.size w w1 := ((((Below.refl _ _).alloc (Nat.le_refl _) _).alloc (by simp) _).alloc (by simp; omega) _).grown hg1 (by simp; omega) (fun i hi => by simp [Value.ownBlock] at hi; omega)
    have hsz1 : w.heap.size + 3 ≤ w1.heap.size := by have := hg1.size; simp at this; omega
    have hblk1 : w1.heap[w.heap.size]? = some (.cells #[.int .i64 t, .float .f64 f, .float .f64 g, .float .f64 c, .float .f64 j, .float .f64 d, .int .u64 s, .slice (some x) n cp] 26 (0, 0)) := by
      rw [hg1.block _ (by simp; omega) (by simp [Value.ownBlock]; omega), Below.heap_alloc _ _ _ (by simp; omega), Below.heap_alloc _ _ _ (by simp), alloc_at]
    have hblk2 : w1.heap[w.heap.size + 1]? = some (.cells #[.int .i64 0, .float .f64 0, .float .f64 0, .float .f64 0, .float .f64 0, .float .f64 0, .int .u64 0, .slice none 0 0] 27 (0, 0)) := by
      rw [hg1.block _ (by simp) (by simp [Value.ownBlock]), Below.heap_alloc _ _ _ (by simp), alloc_at' _ _ _ (by simp)]
    clear hg1
    go_wp2_with (at_builtin; go_must (refine wpList_append_own _ rfl (.tmp 7) (.tmp 8) 24 rfl (w.heap.size + 2) 129 i0 (.int .i16 0) 1 2 Try.underlying24 hi hz0 hz1 hz2 rfl (by decide) _ _ _ rfl (hown1.alloc _) ⟨w1.heap.size, 0, none⟩ 1 1 [.int .i16 4711] rfl rfl ?d1 ?d2 ?d3 ?d4 ?d5 ?_))
    case d1 => exact cell_one_new _ _ _
    case d2 => intro u hu; simp at hu; subst hu; rfl
    case d3 => unfold maxLen; omega
    case d4 => omega
    case d5 => simp; omega
    intro v2 w2 hown2 hg2 _
    have hne : ∀ i, i < w.heap.size + 2 → some i ≠ v1.ownBlock := fun i hi h => by have := (hown1.lt i h.symm).1; omega
    have hbel2 : Below w.heap.size w w2 := (hbel1.alloc (by omega) _).grown hg2 (by simp; omega) (fun i hi => by have := (hown1.lt i hi).1; omega)
    have hb1 : w2.heap[w.heap.size]? = some (.cells #[.int .i64 t, .float .f64 f, .float .f64 g, .float .f64 c, .float .f64 j, .float .f64 d, .int .u64 s, .slice (some x) n cp] 26 (0, 0)) := by
      rw [hg2.block _ (by simp; omega) (hne _ (by omega)), Below.heap_alloc _ _ _ (by omega)]; exact hblk1
    have hb2 : w2.heap[w.heap.size + 1]? = some (.cells #[.int .i64 0, .float .f64 0, .float .f64 0, .float .f64 0, .float .f64 0, .float .f64 0, .int .u64 0, .slice none 0 0] 27 (0, 0)) := by
      rw [hg2.block _ (by simp; omega) (hne _ (by omega)), Below.heap_alloc _ _ _ (by omega)]; exact hblk2
    clear hg2 hblk1 hblk2 hne hown1 hbel1
    have h22 := hown2.2
    rcases h22 with ⟨_, h⟩ | ⟨g2, cap2, cur, rfl, hB2, hg2, hle2, hm2, _, _⟩
    · omega
    have c1 : ∀ i, w2.cell? ⟨w.heap.size, i, none⟩ = #[Value.int .i64 t, .float .f64 f, .float .f64 g, .float .f64 c, .float .f64 j, .float .f64 d, .int .u64 s, .slice (some x) n cp][i]? := fun i => cell_of_block hb1 i
    have c2 : ∀ i, w2.cell? ⟨w.heap.size + 1, i, none⟩ = #[Value.int .i64 0, .float .f64 0, .float .f64 0, .float .f64 0, .float .f64 0, .float .f64 0, .int .u64 0, .slice none 0 0][i]? := fun i => cell_of_block hb2 i
    have f2 : ∀ i, w2.frozen? ⟨w.heap.size + 1, i, none⟩ = false := fun i => by simp [World.frozen?, hb2]
    have hnc : (n : Int) ≤ (cap2 : Int) := by omega
    clear hb1 hg2
    go_wp2
    go_still_tail 20, (by kernel_rfl)
    change wpList _ _ _ _ _ w2.drew
    have hb2' : w2.drew.heap[w.heap.size + 1]? = some (.cells #[.int .i64 0, .float .f64 0, .float .f64 0, .float .f64 0, .float .f64 0, .float .f64 0, .int .u64 0, .slice none 0 0] 27 (0, 0)) := hb2
    refine wpList_store_row rfl 27 _ _ rfl (w.heap.size + 1) rfl #[.int .i64 t, .float .f64 f, .float .f64 g, .float .f64 c, .float .f64 j, .float .f64 d, .int .u64 s, .slice (some ⟨g2, 0, none⟩) n cap2] rfl 27 _ hb2' (by kernel_rfl) rfl (by simp [Value.oneCell']) ?_
    have hb3 : (w2.drew.setRow (w.heap.size + 1) #[.int .i64 t, .float .f64 f, .float .f64 g, .float .f64 c, .float .f64 j, .float .f64 d, .int .u64 s, .slice (some ⟨g2, 0, none⟩) n cap2]).heap[w.heap.size + 1]? = some (.cells #[.int .i64 t, .float .f64 f, .float .f64 g, .float .f64 c, .float .f64 j, .float .f64 d, .int .u64 s, .slice (some ⟨g2, 0, none⟩) n cap2] 27 (0, 0)) := setRow_heap _ _ _ _ _ _ hb2'
    go_wp2
    refine bodyPost_ret (results_cell_row rfl _ _ _ _ _ _ _ rfl hb3 Try.underlying27 rfl (by kernel_rfl)) rfl ?_
    exact ⟨g2, cap2, rfl, ownsRow_setRow_below (ownsRow_drew hown2) (by omega) _, below_setRow hbel2.drew (by omega) _⟩
end Go.Proofs.Ytmdfkljmgijdlaa
