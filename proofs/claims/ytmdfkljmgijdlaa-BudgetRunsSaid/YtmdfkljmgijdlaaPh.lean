/- Merge. -/
import Derived.Test.YtmdfkljmgijdlaaPg
import Derived.Deep.RegionHeld3
import Derived.Test.YtmdfkljmgijdlaaHd
namespace Go.Proofs.Ytmdfkljmgijdlaa
open Go.RowKit
set_option linter.unusedVariables false

theorem run_store_first (w : World) (t : Nat) (a b c : Value) (ty : TypeId) : (store ⟨w.heap.size, 0, none⟩ (.float .f64 t)).run Try.prog (w.alloc (.cells #[.float .f64 0, a, b, c] ty)) = .ok () (w.alloc (.cells #[.float .f64 t, a, b, c] ty)) := by
  have hc : (w.alloc (.cells #[.float .f64 0, a, b, c] ty)).cell? ⟨w.heap.size, 0, none⟩ = some (.float .f64 0) := cell_of_block (alloc_at _ _) 0
  have hf : (w.alloc (.cells #[.float .f64 0, a, b, c] ty)).frozen? ⟨w.heap.size, 0, none⟩ = false := frozen_of_block (alloc_at _ _) 0
  rw [run_store Try.prog _ _ _ _ rfl, hc]
  simp only [hf]
  rw [setCell_eq_setRow _ _ _ _ _ _ _ (alloc_at _ _), setRow_alloc _ _ _ _ _ rfl]
  rfl

theorem hold_alloc2 {w2 wx : World} (h : Below w2.drew.heap.size w2.drew wx) (o : Obj) : Below w2.heap.size w2 (wx.alloc o) :=
  have k : Below w2.heap.size w2 wx := ⟨h.os, h.tape, h.output, h.size, h.block⟩
  k.alloc k.size _
def zeroB : Array Value := #[.float .f64 0, .slice none 0 0, .int .i64 0, .bool false]
theorem cellDrew {w : World} {a : Addr} {v : Value} (h : w.cell? a = some v) : w.drew.cell? a = some v := h
theorem hold_alloc3 {w2 : World} (o : Obj) : Below w2.heap.size w2 (w2.alloc o).drew := ((Below.refl _ _).alloc (Nat.le_refl _) o).drew
theorem hold_next3 {w2 w' : World} {o : Obj} (hb : Below (w2.alloc o).drew.heap.size (w2.alloc o).drew w') : Below w2.heap.size w2 w' := (hold_alloc3 o).trans (hb.mono (by show w2.heap.size ≤ (w2.alloc o).heap.size; simp))
theorem hold_set {w2 wx : World} {R : Prop} (h : Below w2.heap.size w2 wx ∧ R) (a b c d : Value) :
    Below w2.heap.size w2 ((((wx.setCell ⟨w2.heap.size, 0, none⟩ a).setCell ⟨w2.heap.size, 1, none⟩ b).setCell ⟨w2.heap.size, 2, none⟩ c).setCell ⟨w2.heap.size, 3, none⟩ d) :=
  (((h.1.setCell (p := ⟨w2.heap.size, 0, none⟩) (Nat.le_refl _) a).setCell (p := ⟨w2.heap.size, 1, none⟩) (Nat.le_refl _) b).setCell (p := ⟨w2.heap.size, 2, none⟩) (Nat.le_refl _) c).setCell (p := ⟨w2.heap.size, 3, none⟩) (Nat.le_refl _) d
theorem early_block {w2 w' : World} {c : Array Value} {t : TypeId} (hb : Below (w2.alloc (.cells c t)).drew.heap.size (w2.alloc (.cells c t)).drew w') : w'.heap[w2.heap.size]? = some (.cells c t (0, 0)) := by
  rw [hb.block w2.heap.size (by show w2.heap.size < (w2.alloc (.cells c t)).heap.size; simp)]
  exact alloc_at w2 _
theorem run_store_float {w : World} {b : Nat} {c : Array Value} {t : TypeId} (h : w.heap[b]? = some (.cells c t (0, 0))) (h0 : c[0]? = some (.float .f64 0)) (x : Nat) :
    (store ⟨b, 0, none⟩ (.float .f64 x)).run Try.prog w = .ok () (w.setCell ⟨b, 0, none⟩ (.float .f64 x)) := by
  rw [run_store Try.prog _ _ _ _ rfl, cell_of_block h 0, h0]
  simp only [frozen_of_block h 0]
  rfl
theorem hold_allocB {w2 wx : World} {R : Prop} (h : Below w2.heap.size w2 wx ∧ R) (o : Obj) : Below w2.heap.size w2 (wx.alloc o) := h.1.alloc h.1.size _

/-- What a merge stands on, its clone made. -/
structure Fin2 (w2 W : World) (f g' s cp : Nat) (no : Int) (rg rb : Nat → Int) : Prop where
  bel : Below w2.heap.size w2 W
  fb : FB W f g' s cp no rg rb
  f1 : w2.heap.size ≤ f
  g1 : w2.heap.size ≤ g'
def fromV (t g' s cp : Nat) (no : Int) : Array Value := #[.float .f64 t, .slice (some ⟨g', 0, none⟩) s cp, .int .i64 no, .bool true]
theorem fb_of {W : World} {f t g' s cp : Nat} {no : Int} {rg rb : Nat → Int} (hf : W.heap[f]? = some (.cells (fromV t g' s cp no) 156 (0, 0)))
    (hc : ∀ j u, (ringV s rg rb)[j]? = some u → W.cell? ⟨g', j, none⟩ = some u) : FB W f g' s cp no rg rb :=
  ⟨cell_of_block hf 1, cell_of_block hf 2, cell_of_block hf 3, fun k hk => hc _ _ (ringV_good hk), fun k hk => hc _ _ (ringV_bad hk)⟩
theorem own_cells {w : World} {base g' s cp : Nat} {rg rb : Nat → Int} (h : w.ownsRow base 161 2 (.slice (some ⟨g', 0, none⟩) s cp) s (ringV s rg rb).toList) : base ≤ g' ∧ g' < w.heap.size ∧ ∀ j u, (ringV s rg rb)[j]? = some u → w.cell? ⟨g', j, none⟩ = some u := by
  have hl := h.lt g' rfl
  refine ⟨hl.1, hl.2, fun j u hj => ?_⟩
  have := h.cells (g := g') rfl j u (by rw [Array.getElem?_toList]; exact hj)
  rw [Addr.add_lit, Nat.zero_add] at this
  exact this
theorem fin_late {w2 w' : World} {t g' s cp : Nat} {no : Int} {rg rb : Nat → Int} (hb : Below w2.drew.heap.size w2.drew w') (hown : w'.ownsRow w2.drew.heap.size 161 2 (.slice (some ⟨g', 0, none⟩) s cp) s (ringV s rg rb).toList) :
    Fin2 w2 (w'.alloc (.cells #[.float .f64 t, .slice (some ⟨g', 0, none⟩) s cp, .int .i64 no, .bool true] 156)) w'.heap.size g' s cp no rg rb := by
  have hb2 : Below w2.heap.size w2 w' := ⟨hb.os, hb.tape, hb.output, hb.size, hb.block⟩
  obtain ⟨h1, h2, h3⟩ := own_cells hown
  refine ⟨hb2.alloc hb2.size _, fb_of (t := t) (alloc_at _ _) (fun j u hj => ?_), hb2.size, h1⟩
  rw [World.cell?_of_block (w := w') (Below.heap_alloc _ _ _ h2)]
  exact h3 j u hj
theorem set4_own {w' : World} {B t g' s cp : Nat} {no : Int} (hblk : w'.heap[B]? = some (.cells #[.float .f64 0, .slice none 0 0, .int .i64 0, .bool false] 156 (0, 0))) :
    ((((w'.setCell ⟨B, 0, none⟩ (.float .f64 t)).setCell ⟨B, 1, none⟩ (.slice (some ⟨g', 0, none⟩) s cp)).setCell ⟨B, 2, none⟩ (.int .i64 no)).setCell ⟨B, 3, none⟩ (.bool true)).heap[B]? = some (.cells (fromV t g' s cp no) 156 (0, 0)) := by
  have k0 := heap_setCell_same w' B 0 _ 156 (.float .f64 t) hblk
  generalize w'.setCell ⟨B, 0, none⟩ (.float .f64 t) = w0 at *
  have k1 := heap_setCell_same w0 B 1 _ 156 (.slice (some ⟨g', 0, none⟩) s cp) k0
  generalize w0.setCell ⟨B, 1, none⟩ (.slice (some ⟨g', 0, none⟩) s cp) = w1 at *
  have k2 := heap_setCell_same w1 B 2 _ 156 (.int .i64 no) k1
  generalize w1.setCell ⟨B, 2, none⟩ (.int .i64 no) = w2 at *
  have k3 := heap_setCell_same w2 B 3 _ 156 (.bool true) k2
  rw [k3]
  rfl
theorem set4_other {w' : World} {B k : Nat} (hne : k ≠ B) (a b c d : Value) :
    ((((w'.setCell ⟨B, 0, none⟩ a).setCell ⟨B, 1, none⟩ b).setCell ⟨B, 2, none⟩ c).setCell ⟨B, 3, none⟩ d).heap[k]? = w'.heap[k]? :=
  (Below.heap_setCell _ ⟨B, 3, none⟩ _ k hne).trans ((Below.heap_setCell _ ⟨B, 2, none⟩ _ k hne).trans ((Below.heap_setCell _ ⟨B, 1, none⟩ _ k hne).trans (Below.heap_setCell _ ⟨B, 0, none⟩ _ k hne)))
theorem set4_below {w2 wx : World} (h : Below w2.heap.size w2 wx) (a b c d : Value) :
    Below w2.heap.size w2 ((((wx.setCell ⟨w2.heap.size, 0, none⟩ a).setCell ⟨w2.heap.size, 1, none⟩ b).setCell ⟨w2.heap.size, 2, none⟩ c).setCell ⟨w2.heap.size, 3, none⟩ d) := hold_set (R := True) ⟨h, trivial⟩ a b c d
theorem cell_ofB {w w' : World} {g' j : Nat} {u : Value} (e : w'.heap[g']? = w.heap[g']?) (h : w.cell? ⟨g', j, none⟩ = some u) : w'.cell? ⟨g', j, none⟩ = some u := by
  rw [World.cell?_of_block (w := w) e]; exact h
theorem fin_early {w2 w' : World} {t g' s cp : Nat} {no : Int} {rg rb : Nat → Int} (hb : Below (w2.alloc (.cells #[.float .f64 0, .slice none 0 0, .int .i64 0, .bool false] 156)).drew.heap.size (w2.alloc (.cells #[.float .f64 0, .slice none 0 0, .int .i64 0, .bool false] 156)).drew w')
    (hown : w'.ownsRow (w2.alloc (.cells #[.float .f64 0, .slice none 0 0, .int .i64 0, .bool false] 156)).drew.heap.size 161 2 (.slice (some ⟨g', 0, none⟩) s cp) s (ringV s rg rb).toList) :
    Fin2 w2 ((((w'.setCell ⟨w2.heap.size, 0, none⟩ (.float .f64 t)).setCell ⟨w2.heap.size, 1, none⟩ (.slice (some ⟨g', 0, none⟩) s cp)).setCell ⟨w2.heap.size, 2, none⟩ (.int .i64 no)).setCell ⟨w2.heap.size, 3, none⟩ (.bool true)) w2.heap.size g' s cp no rg rb := by
  have hb2 := hold_next3 hb
  have hblk := early_block hb
  obtain ⟨h1, h2, h3⟩ := own_cells hown
  have e : (w2.alloc (.cells #[.float .f64 0, .slice none 0 0, .int .i64 0, .bool false] 156)).drew.heap.size = w2.heap.size + 1 := World.size_alloc _ _
  rw [e] at h1
  have hne : g' ≠ w2.heap.size := by omega
  clear hb hown e
  exact ⟨set4_below hb2 _ _ _ _, fb_of (t := t) (set4_own hblk) (fun j u hj => cell_ofB (set4_other hne _ _ _ _) (h3 j u hj)), Nat.le_refl _, by omega⟩

set_option maxRecDepth 100000 in
theorem merge_plan {w : World} {b g t s o go t' s' : Nat} {now no : Int} {m m' : Bool} {fg fb hg hb : Int → Int} (h : BG w b g t s now m fg fb) (h' : BG w o go t' s' no m' hg hb) (hne : t ≠ t' ∨ s ≠ s') :
    Calls Try.prog 36 #[.pointer (some ⟨b, 0, none⟩), .pointer (some ⟨o, 0, none⟩)] w fun e w' => e = .returned (.int .i64 260) ∧ Below w.heap.size w w' := by
  have hbits := bits_run
  obtain ⟨rg, rb, h, hi⟩ := h
  obtain ⟨rg', rb', h', hi'⟩ := h'
  have hbel : Below w.heap.size w (w.alloc (.cells #[.pointer (some ⟨b, 0, none⟩)] 37)) := (Below.refl _ _).alloc (Nat.le_refl _) _
  obtain ⟨c0, c1, c2, c3⟩ := (h.own hbel).cells
  obtain ⟨d0, d1, d2, d3⟩ := (h'.own hbel).cells
  have p0 : (w.alloc (.cells #[.pointer (some ⟨b, 0, none⟩)] 37)).cell? ⟨w.heap.size, 0, none⟩ = some (.pointer (some ⟨b, 0, none⟩)) := cell_of_block (alloc_at _ _) 0
  obtain ⟨x, hx⟩ : ∃ x, x = w.heap.size := ⟨_, rfl⟩
  have HX := Lib.hid hx
  clear h h' hi hi'
  by_cases ht : t = t'
  · have hs : (((s : Int) != (s' : Int))) = true := by simp; omega
    have htt : (((t : Int) != (t' : Int))) = false := by simp [ht]
    clear hne ht
    go_enter Try.func36, Try.ntmps36
    go_wp2
    rw [← hx] at p0 ⊢
    clear hx
    generalize w.alloc (.cells #[.pointer (some ⟨b, 0, none⟩)] 37) = w1 at *
    go_quiet (fail)
    go_wp2
    go_ret
    exact ⟨rfl, below_dN hbel⟩
  · have htt : (((t : Int) != (t' : Int))) = true := by simp; omega
    clear hne ht
    go_enter Try.func36, Try.ntmps36
    go_wp2
    rw [← hx] at p0 ⊢
    clear hx
    generalize w.alloc (.cells #[.pointer (some ⟨b, 0, none⟩)] 37) = w1 at *
    go_quiet (fail)
    go_wp2
    go_ret
    exact ⟨rfl, below_dN hbel⟩

set_option maxRecDepth 100000 in
theorem merge_none {w : World} {b g t s o go : Nat} {now no : Int} {m : Bool} {fg fb hg hb : Int → Int} (h : BG w b g t s now m fg fb) (h' : BG w o go t s no false hg hb) :
    Calls Try.prog 36 #[.pointer (some ⟨b, 0, none⟩), .pointer (some ⟨o, 0, none⟩)] w fun e w' => e = .returned (.int .i64 0) ∧ Below w.heap.size w w' := by
  have hbits := bits_run
  obtain ⟨rg, rb, h, hi⟩ := h
  obtain ⟨rg', rb', h', hi'⟩ := h'
  have hbel : Below w.heap.size w (w.alloc (.cells #[.pointer (some ⟨b, 0, none⟩)] 37)) := (Below.refl _ _).alloc (Nat.le_refl _) _
  obtain ⟨c0, c1, c2, c3⟩ := (h.own hbel).cells
  obtain ⟨d0, d1, d2, d3⟩ := (h'.own hbel).cells
  have p0 : (w.alloc (.cells #[.pointer (some ⟨b, 0, none⟩)] 37)).cell? ⟨w.heap.size, 0, none⟩ = some (.pointer (some ⟨b, 0, none⟩)) := cell_of_block (alloc_at _ _) 0
  obtain ⟨x, hx⟩ : ∃ x, x = w.heap.size := ⟨_, rfl⟩
  have HX := Lib.hid hx
  clear h h' hi hi'
  have hs : (((s : Int) != (s : Int))) = false := by simp
  have htt : (((t : Int) != (t : Int))) = false := by simp
  go_enter Try.func36, Try.ntmps36
  go_wp2
  rw [← hx] at p0 ⊢
  clear hx
  generalize w.alloc (.cells #[.pointer (some ⟨b, 0, none⟩)] 37) = w1 at *
  go_quiet (fail)
  have d3' : (w1.drewN nq).cell? ⟨o, 3, none⟩ = _ := d3
  go_wp2
  go_ret
  exact ⟨rfl, below_dN hbel⟩

set_option maxRecDepth 100000 in
set_option maxHeartbeats 4000000 in
theorem merge_some {w : World} {b g t s o go : Nat} {now no : Int} {m : Bool} {fg fb hg hb : Int → Int} (h : BG w b g t s now m fg fb) (h' : BG w o go t s no true hg hb) :
    Calls Try.prog 36 #[.pointer (some ⟨b, 0, none⟩), .pointer (some ⟨o, 0, none⟩)] w fun e w' => e = .returned (.int .i64 0) ∧ BG w' b g t s (max now no) true (sumF2 fg hg) (sumF2 fb hb) ∧ Fr b g w w' := by
  have hbits := bits_run
  have hmf : ∀ (fn : Fn) (first cap : Array Value) (w : World), (Instr.makeFunc fn first cap).run Try.prog w = .ok (.func fn first cap) w := fun _ _ _ _ => rfl
  obtain ⟨rg, rb, h, hi⟩ := h
  obtain ⟨rg', rb', h', hi'⟩ := h'
  have s1 := h.s1
  have s2 := h.s2
  have hl := h.lt
  have hl' := h'.lt
  have hbel : Below w.heap.size w (w.alloc (.cells #[.pointer (some ⟨b, 0, none⟩)] 37)) := (Below.refl _ _).alloc (Nat.le_refl _) _
  have hsz : (w.alloc (.cells #[.pointer (some ⟨b, 0, none⟩)] 37)).heap.size = w.heap.size + 1 := by simp
  have h1 := h.own hbel
  have h1' := h'.own hbel
  obtain ⟨c0, c1, c2, c3⟩ := h1.cells
  obtain ⟨d0, d1, d2, d3⟩ := h1'.cells
  have hPB : PB (w.alloc (.cells #[.pointer (some ⟨b, 0, none⟩)] 37)) w.heap.size b := alloc_at _ _
  have p0 : (w.alloc (.cells #[.pointer (some ⟨b, 0, none⟩)] 37)).cell? ⟨w.heap.size, 0, none⟩ = some (.pointer (some ⟨b, 0, none⟩)) := cell_of_block hPB 0
  obtain ⟨x, hx⟩ : ∃ x, x = w.heap.size := ⟨_, rfl⟩
  have HX := Lib.hid hx
  have hs : (((s : Int) != (s : Int))) = false := by simp
  have htt : (((t : Int) != (t : Int))) = false := by simp
  clear h h'
  go_enter Try.func36, Try.ntmps36
  go_wp2
  rw [← hx] at p0 hPB hsz ⊢
  clear hx
  generalize w.alloc (.cells #[.pointer (some ⟨b, 0, none⟩)] 37) = w1 at *
  go_quiet (fail)
  have h2 := h1.drewN nq
  have h2' := h1'.drewN nq
  have hPB2 : PB (w1.drewN nq) x b := hPB
  have hbel2 := below_dN (n := nq) hbel
  have hsz2 : (w1.drewN nq).heap.size = x + 1 := hsz
  clear c0 c1 c2 c3 d0 d1 d2 d3 p0 h1 h1' hPB hbel hsz
  generalize w1.drewN nq = w2 at *
  obtain ⟨d0, d1, d2, d3⟩ := h2'.cells
  have hd0 : ∀ w', Below w2.heap.size w2 w' → BR w' o go t s no true rg' rb' := fun w' hb => h2'.own hb
  have HD := Lib.hid hd0
  clear hd0
  have HSZ := Lib.hid hsz2
  clear hsz2
  have hst := run_store_first
  go_wp2_with fail
  go_region_held3 (fun w' => Below w2.heap.size w2 w' ∧ w'.cell? ⟨o, 0, none⟩ = some (.float .f64 t) ∧ w'.cell? ⟨o, 1, none⟩ = some (.slice (some ⟨go, 0, none⟩) s s) ∧ w'.cell? ⟨o, 2, none⟩ = some (.int .i64 no))
    (first
      | with_reducible exact ⟨(Below.refl _ _).drew, cellDrew d0, cellDrew d1, cellDrew d2⟩
      | with_reducible exact ⟨hold_alloc3 _, (HD.out _ (hold_alloc3 _)).cells.1, (HD.out _ (hold_alloc3 _)).cells.2.1, (HD.out _ (hold_alloc3 _)).cells.2.2.1⟩
      | with_reducible exact ⟨hold_set (by assumption) _ _ _ _, (HD.out _ (hold_set (by assumption) _ _ _ _)).cells.1, (HD.out _ (hold_set (by assumption) _ _ _ _)).cells.2.1, (HD.out _ (hold_set (by assumption) _ _ _ _)).cells.2.2.1⟩
      | with_reducible exact ⟨held_next (by assumption) (Nat.le_refl _) (by assumption), (HD.out _ (held_next (by assumption) (Nat.le_refl _) (by assumption))).cells.1, (HD.out _ (held_next (by assumption) (Nat.le_refl _) (by assumption))).cells.2.1, (HD.out _ (held_next (by assumption) (Nat.le_refl _) (by assumption))).cells.2.2.1⟩
      | with_reducible exact ⟨hold_next3 (by assumption), (HD.out _ (hold_next3 (by assumption))).cells.1, (HD.out _ (hold_next3 (by assumption))).cells.2.1, (HD.out _ (hold_next3 (by assumption))).cells.2.2.1⟩
      | with_reducible exact ⟨hold_alloc2 (by assumption) _, (HD.out _ (hold_alloc2 (by assumption) _)).cells.1, (HD.out _ (hold_alloc2 (by assumption) _)).cells.2.1, (HD.out _ (hold_alloc2 (by assumption) _)).cells.2.2.1⟩)
    (first
      | (go_at_call 89; refine (ring_clone (HD.out _ (and_l (by assumption)))).mono ?_; rintro e w' ⟨g', cp, rfl, hown, hbx⟩; have hblk := early_block hbx; have f1 := cell_of_block hblk 1; have f2 := cell_of_block hblk 2; have f3 := cell_of_block hblk 3; have q1 := frozen_of_block hblk 1; have q2 := frozen_of_block hblk 2; have q3 := frozen_of_block hblk 3; have hst2 := run_store_float hblk rfl)
      | (go_at_call 89; refine (ring_clone (HD.out _ (and_l (by assumption)))).mono ?_; rintro e w' ⟨g', cp, rfl, hown, hbx⟩))
  · have hfin := fin_late (t := t) (no := no) hbx hown
    generalize w'.heap.size = f at hfin ⊢
    generalize w'.alloc (.cells #[.float .f64 t, .slice (some ⟨g', 0, none⟩) s cp, .int .i64 no, .bool true] 156) = W at hfin ⊢
    clear hown hbx
    have hFB := hfin.fb
    have f1 := hfin.f1
    have g1 := hfin.g1
    have h3 := h2.own hfin.bel
    have hx3 : PB W x b := by unfold PB; rw [hfin.bel.block x (by have := HSZ.out; omega)]; exact hPB2
    have hbel3 : Below w.heap.size w W := hbel2.trans (hfin.bel.mono (by have := HSZ.out; have := HX.out; omega))
    have hlt3 := h3.lt
    have nn : f ≠ b ∧ f ≠ g ∧ g' ≠ b ∧ g' ≠ g ∧ x ≠ b ∧ x ≠ g := by have := HSZ.out; have := HX.out; omega
    have lf := block_lt hFB.c1
    have lg := block_lt (hFB.good 0 s1)
    have lx := (Array.getElem?_eq_some_iff.1 hx3).1
    have hr' := hi'.range
    have p0 := cell_of_block hx3 0
    have c2 := hFB.c2
    have p0' : W.cell? ⟨x, 0, none⟩ = some (.pointer (some ⟨b, 0, none⟩)) := p0
    have RE := Lib.hid (reach_any ⟨rg, rb, h3, hi⟩ no hr'.1 hr'.2)
    clear h2 h2' hPB2 hbel2 hfin p0 d0 d1 d2 d3 HD hst h3
    go_wp2_with fail
    refine RE.out.mono ?_
    rintro e w4 ⟨rfl, h4, hfr4⟩
    obtain ⟨n1, n2, n3, n4, n5, n6⟩ := nn
    have hF4 := hFB.keep (hfr4.block f lf n1 n2) (hfr4.block g' lg n3 n4)
    have hx4 : PB w4 x b := by unfold PB; rw [hfr4.block x lx n5 n6]; exact hx3
    have OV := Lib.hid (over_merge h4 hF4 hx4 n1 n2 n3 n4 n5 n6 (by omega) hi')
    have c1 := hF4.c1
    have hfr5 := (Fr.ofBelow (b := b) (g := g) hbel3).trans hfr4
    clear RE hFB hx3 hbel3 hF4 hx4 h4 hfr4 c2 p0'
    go_wp2_with fail
    refine OV.out.mono ?_
    rintro e w5 ⟨rfl, h5, hfr6⟩
    go_wp2
    go_ret
    exact ⟨rfl, h5, hfr5.trans hfr6⟩
  · have hfin := fin_early (t := t) (no := no) hbx hown
    clear hblk f1 f2 f3 q1 q2 q3 hst2
    generalize ((((w'.setCell ⟨w2.heap.size, 0, none⟩ (.float .f64 t)).setCell ⟨w2.heap.size, 1, none⟩ (.slice (some ⟨g', 0, none⟩) s cp)).setCell ⟨w2.heap.size, 2, none⟩ (.int .i64 no)).setCell ⟨w2.heap.size, 3, none⟩ (.bool true)) = W at hfin ⊢
    obtain ⟨f, hf⟩ : ∃ f, f = w2.heap.size := ⟨_, rfl⟩
    rw [← hf] at hfin ⊢
    have hfin : Fin2 w2 W f g' s cp no rg' rb' := hfin
    clear hf
    clear hown hbx
    have hFB := hfin.fb
    have f1 := hfin.f1
    have g1 := hfin.g1
    have h3 := h2.own hfin.bel
    have hx3 : PB W x b := by unfold PB; rw [hfin.bel.block x (by have := HSZ.out; omega)]; exact hPB2
    have hbel3 : Below w.heap.size w W := hbel2.trans (hfin.bel.mono (by have := HSZ.out; have := HX.out; omega))
    have hlt3 := h3.lt
    have nn : f ≠ b ∧ f ≠ g ∧ g' ≠ b ∧ g' ≠ g ∧ x ≠ b ∧ x ≠ g := by have := HSZ.out; have := HX.out; omega
    have lf := block_lt hFB.c1
    have lg := block_lt (hFB.good 0 s1)
    have lx := (Array.getElem?_eq_some_iff.1 hx3).1
    have hr' := hi'.range
    have p0 := cell_of_block hx3 0
    have c2 := hFB.c2
    have p0' : W.cell? ⟨x, 0, none⟩ = some (.pointer (some ⟨b, 0, none⟩)) := p0
    have RE := Lib.hid (reach_any ⟨rg, rb, h3, hi⟩ no hr'.1 hr'.2)
    clear h2 h2' hPB2 hbel2 hfin p0 d0 d1 d2 d3 HD hst h3
    go_wp2_with fail
    refine RE.out.mono ?_
    rintro e w4 ⟨rfl, h4, hfr4⟩
    obtain ⟨n1, n2, n3, n4, n5, n6⟩ := nn
    have hF4 := hFB.keep (hfr4.block f lf n1 n2) (hfr4.block g' lg n3 n4)
    have hx4 : PB w4 x b := by unfold PB; rw [hfr4.block x lx n5 n6]; exact hx3
    have OV := Lib.hid (over_merge h4 hF4 hx4 n1 n2 n3 n4 n5 n6 (by omega) hi')
    have c1 := hF4.c1
    have hfr5 := (Fr.ofBelow (b := b) (g := g) hbel3).trans hfr4
    clear RE hFB hx3 hbel3 hF4 hx4 h4 hfr4 c2 p0'
    go_wp2_with fail
    refine OV.out.mono ?_
    rintro e w5 ⟨rfl, h5, hfr6⟩
    go_wp2
    go_ret
    exact ⟨rfl, h5, hfr5.trans hfr6⟩
end Go.Proofs.Ytmdfkljmgijdlaa
