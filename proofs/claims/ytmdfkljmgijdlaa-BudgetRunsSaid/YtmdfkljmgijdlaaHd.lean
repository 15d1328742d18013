/- The walk of RetryWaits at a plan that may be. -/
import Derived.Test.YtmdfkljmgijdlaaHc
import Derived.Deep.RegionHeld3
import Derived.Test.YtmdfkljmgijdlaaK3
namespace Go.Proofs.Ytmdfkljmgijdlaa
open Go.RowKit
set_option linter.unusedVariables false

theorem own_floats {w w' : World} {base n : Nat} {f g c j : Nat} {s : Int} {v : Value} (h : w.ownsRow base 22 1 v n ((waitsL f g c j s n).map (.float .f64))) :
    ∃ a cap, v = .slice a n cap ∧ Floats w a n (waitK f g c j s) := by
  obtain ⟨a, cap, rfl, hs⟩ := own_slice h
  refine ⟨a, cap, rfl, fun h0 => ?_⟩
  obtain ⟨g0, rfl, _, _, hc⟩ := hs h0
  exact ⟨g0, rfl, fun i hi => by rw [hc i hi]; exact waitsL_get _ _ _ _ _ _ _ hi⟩
theorem Floats.below {w w' : World} {a : Option Addr} {n : Nat} {L : Nat → Nat} (h : Floats w a n L) (hb : Below w.heap.size w w') : Floats w' a n L := fun h0 => by
  obtain ⟨g, rfl, hc⟩ := h h0
  exact ⟨g, rfl, fun i hi => by rw [hb.cell (block_lt (hc i hi))]; exact hc i hi⟩

theorem check_val (t : Int) (f g c j d : Nat) (s : Int) (a : Option Addr) (n cp : Nat) (w : World) (v : Int) (h : planE t f g c d j n = v) :
    Calls Try.prog 40 #[.agg #[.int .i64 t, .float .f64 f, .float .f64 g, .float .f64 c, .float .f64 j, .float .f64 d, .int .u64 s, .slice a n cp]] w fun e w' => e = .returned (.int .i64 v) ∧ Below w.heap.size w w' := by
  subst h; exact check_any _ _ _ _ _ _ _ _ _ _ _
theorem check24_val (t : Int) (f g c j d : Nat) (s : Int) (a : Option Addr) (n cp : Nat) (w : World) (v : Int) (h : plan24E t f g c d j n = v) :
    Calls Try.prog 41 #[.agg #[.int .i64 t, .float .f64 f, .float .f64 g, .float .f64 c, .float .f64 j, .float .f64 d, .int .u64 s, .slice a n cp]] w fun e w' => e = .returned (.int .i64 v) ∧ Below w.heap.size w w' := by
  subst h; exact check24_any _ _ _ _ _ _ _ _ _ _ _
theorem and_l {A R : Prop} (h : A ∧ R) : A := h.1
theorem drewn_below {w w' : World} (h : Drewn w w') : Below w.heap.size w w' := h.below (Below.refl _ _)
theorem eq_below {w w' : World} (h : w = w') : Below w.heap.size w w' := h ▸ Below.refl _ _
theorem held_nextT {B : Nat} {w4 wx w' : World} (h : Below B w4 wx) (hB : B ≤ w4.heap.size) (hb : Below wx.heap.size wx w') : Below B w4 w' := h.trans (hb.mono (by have := h.size; omega))
theorem held_next {B : Nat} {w4 wx w' : World} {R : Prop} (h : Below B w4 wx ∧ R) (hB : B ≤ w4.heap.size) (hb : Below wx.heap.size wx w') : Below B w4 w' := h.1.trans (hb.mono (by have := h.1.size; omega))

/-- Since w4 only block B0, and new ones, have turned; v lies there. -/
structure Over (w4 : World) (B0 : Option Nat) (wr : World) (v : Value) : Prop where
  keep : ∀ k, k < w4.heap.size → some k ≠ B0 → wr.heap[k]? = w4.heap[k]?
  size : w4.heap.size ≤ wr.heap.size
  place : v.ownBlock = B0 ∨ ∀ k, v.ownBlock = some k → w4.heap.size ≤ k
theorem Over.setCell {w4 wr : World} {B0 : Option Nat} {v : Value} (h : Over w4 B0 wr v) {a : Addr} (ha : some a.block = B0) (u : Value) : Over w4 B0 (wr.setCell a u) v :=
  ⟨fun k hk hne => by rw [Below.heap_setCell _ _ _ _ (fun e => hne (by rw [e]; exact ha))]; exact h.keep k hk hne, by simpa using h.size, h.place⟩
theorem Over.alloc {w4 wr : World} {B0 : Option Nat} {v : Value} (h : Over w4 B0 wr v) (o : Obj) : Over w4 B0 (wr.alloc o) v :=
  ⟨fun k hk hne => by have := h.size; rw [alloc_old _ _ _ (by omega)]; exact h.keep k hk hne, by have := h.size; simp; omega, h.place⟩
theorem Over.append {w4 wr w' : World} {B0 : Option Nat} {v v' : Value} (h : Over w4 B0 wr v) (hg : wr.grownBy w' v.ownBlock) (hp : v'.ownBlock = v.ownBlock ∨ v'.ownBlock = some wr.heap.size) : Over w4 B0 w' v' :=
  ⟨fun k hk hne => by
    have := h.size
    rw [hg.block k (by omega) (fun e => by
      rcases h.place with h1 | h1
      · exact hne (e.trans h1)
      · have := h1 k e.symm; omega)]
    exact h.keep k hk hne, Nat.le_trans h.size hg.size, by
    rcases hp with hp | hp
    · rcases h.place with h1 | h1
      · exact .inl (hp.trans h1)
      · exact .inr fun k hk => h1 k (hp ▸ hk)
    · exact .inr fun k hk => by rw [hp] at hk; cases hk; exact h.size⟩
theorem Over.belowApp {w w4 wr w' : World} {B0 : Option Nat} {v : Value} (h : Over w4 B0 wr v) (hq : ∀ k, B0 = some k → w.heap.size ≤ k ∧ k < w4.heap.size) (hb : Below w.heap.size w wr) (hg : wr.grownBy w' v.ownBlock) (hw : w.heap.size ≤ w4.heap.size) : Below w.heap.size w w' :=
  hb.grown hg (by have := h.size; omega) (fun k hk => by
    rcases h.place with h1 | h1
    · exact (hq k (h1.symm.trans hk)).1
    · have := h1 k hk; omega)
theorem own_block {w : World} {base : Nat} {e : TypeId} {a : Option Addr} {n cap : Nat} {xs : List Value} (h : w.ownsRow base e 1 (.slice a n cap) n xs) : ∀ x, a = some x → base ≤ x.block ∧ x.block < w.heap.size :=
  fun x hx => h.lt x.block (by subst hx; rfl)
theorem Over.floats {w4 wr : World} {B0 : Option Nat} {v : Value} (h : Over w4 B0 wr v) {a : Option Addr} {n : Nat} {L : Nat → Nat} (F : Floats w4 a n L) (hne : ∀ x, a = some x → some x.block ≠ B0) : Floats wr a n L := fun h0 => by
  obtain ⟨g, rfl, hc⟩ := F h0
  exact ⟨g, rfl, fun i hi => by rw [World.cell?_of_block (w := w4) (h.keep g (block_lt (hc i hi)) (hne _ rfl))]; exact hc i hi⟩

set_option maxRecDepth 100000 in
set_option maxHeartbeats 8000000 in
theorem rwaits_ok (t : Int) (f g c j d : Nat) (s : Int) (a : Option Addr) (n cp : Nat) (x : Nat) (w : World) (L : List Int) (hr : RowIn w a n cp (L.map (.int .i16))) (hreach : n * 2 ≤ 140737488351232)
    (wf : f < 18446744073709551616) (wg : g < 18446744073709551616) (wc : c < 18446744073709551616) (wj : j < 18446744073709551616) (wx : x < 18446744073709551616) (hok : badPlan t f g c d j n = false) :
    Calls Try.prog 8 #[.agg #[.int .i64 t, .float .f64 f, .float .f64 g, .float .f64 c, .float .f64 j, .float .f64 d, .int .u64 s, .slice a n cp], .float .f64 x] w fun e w' =>
      e = .returned (.bool true) ∧ Below w.heap.size w w' := by
  have hr' := hr.below ((Below.refl w.heap.size w).alloc (Nat.le_refl _) (.cells #[.int .i64 t, .float .f64 f, .float .f64 g, .float .f64 c, .float .f64 j, .float .f64 d, .int .u64 s, .slice a n cp] 26))
  have hE1 : planE t f g c d j n = 0 := by unfold planE; rw [hok]; rfl
  have hE2 : plan24E t f g c d j n = 0 := by unfold plan24E; rw [bad24_eq wf wg, hok]; rfl
  have HE1 := Lib.hid hE1
  have HE2 := Lib.hid hE2
  have HOK := Lib.hid hok
  have HR := Lib.hid hr'
  clear hok hr hr' hE1 hE2
  go_enter Try.func8, Try.ntmps8
  go_wp2_with fail
  refine (own_any _ _ _ _ _ _ _ _ _ _ _ _ HR.out hreach).mono ?_
  rintro e w1 ⟨b1, cap1, rfl, hown1, hb1⟩
  have hbel1 : Below w.heap.size w w1 := ((Below.refl _ _).alloc (Nat.le_refl _) _).trans (hb1.mono (by simp))
  have hsz1 : w.heap.size + 1 ≤ w1.heap.size := by have := hb1.size; simpa using this
  have hP : w1.heap[w.heap.size]? = some (.cells (planV t f g c j d s (.slice a n cp)) 26 (0, 0)) := by rw [hb1.block _ (by simp)]; exact alloc_at _ _
  have hR1 := HR.out.below hb1
  clear hb1 HR
  have HP := Lib.hid hP
  have HR := Lib.hid hR1
  have HO := Lib.hid (ownsRow_mono hown1 (Nat.zero_le _))
  clear hP hR1 hown1
  go_wp2_with ((with_reducible refine at_op (.store 27 (.tmp 5) (.tmp 15)) rfl ?_); refine wpList_store_new rfl 27 (.tmp 5) (.tmp 15) rfl w1.heap.size rfl 27 _ rfl #[.int .i64 t, .float .f64 f, .float .f64 g, .float .f64 c, .float .f64 j, .float .f64 d, .int .u64 s, .slice (some ⟨b1, 0, none⟩) n cap1] rfl (by kernel_rfl) rfl (by simp [Value.oneCell']) ?_)
  refine (waits_ok _ _ _ _ _ _ _ _ _ _ _ HOK.out wf wg wc wj).mono ?_
  rintro e w2 ⟨v1, rfl, hl1, hb2⟩
  have hM : w2.heap[w1.heap.size]? = some (.cells (planV t f g c j d s (.slice (some ⟨b1, 0, none⟩) n cap1)) 27 (0, 0)) := by
    rw [hb2.block _ (by simp)]; exact alloc_at _ _
  have hb2' : Below w1.heap.size w1 w2 := ((Below.refl _ _).alloc (Nat.le_refl _) _).trans (hb2.mono (by simp))
  have hsz2 : w1.heap.size + 1 ≤ w2.heap.size := by have := hb2.size; simpa using this
  have HB2 := Lib.hid hb2'
  have HM := Lib.hid hM
  have hP2 : w2.heap[w.heap.size]? = some (.cells (planV t f g c j d s (.slice a n cp)) 26 (0, 0)) := by rw [hb2'.block _ (by omega)]; exact HP.out
  have HP2 := Lib.hid hP2
  clear hb2 hb2' hM hP2
  go_wp2_with ((with_reducible refine at_op (.load 26 (.tmp 2)) rfl ?_); refine wpList_load_row rfl 26 (.tmp 2) rfl w.heap.size rfl 26 _ (0, 0) _ HP2.out Try.underlying26 rfl (by kernel_rfl) ?_)
  refine (waits24_ok _ _ _ _ _ _ _ _ _ _ _ HOK.out wf wg wc wj).mono ?_
  rintro e w3 ⟨v2, rfl, hl2, hb3⟩
  have hsz3 : w2.heap.size ≤ w3.heap.size := hb3.size
  have HB3 := Lib.hid hb3
  have hM3 : w3.heap[w1.heap.size]? = some (.cells (planV t f g c j d s (.slice (some ⟨b1, 0, none⟩) n cap1)) 27 (0, 0)) := by rw [hb3.block _ (by omega)]; exact HM.out
  have HM3 := Lib.hid hM3
  clear hb3 hM3
  go_wp2_with ((with_reducible refine at_op (.load 27 (.tmp 5)) rfl ?_); refine wpList_load_row rfl 27 (.tmp 5) rfl w1.heap.size rfl 27 _ (0, 0) _ HM3.out Try.underlying27 rfl (by kernel_rfl) ?_)
  refine (waits_ok _ _ _ _ _ _ _ _ _ _ _ HOK.out wf wg wc wj).mono ?_
  rintro e w4 ⟨v3, rfl, hl3, hb4⟩
  -- what stands at w4
  have b24 : Below w2.heap.size w2 w4 := HB3.out.trans (hb4.mono (by omega))
  have b14 : Below w1.heap.size w1 w4 := HB2.out.trans (b24.mono (by omega))
  have k1 := ownsRow_below hl1 b24 (Nat.le_refl _)
  have k2 := ownsRow_below hl2 hb4 (Nat.le_refl _)
  have hM4 : w4.heap[w1.heap.size]? = some (.cells (planV t f g c j d s (.slice (some ⟨b1, 0, none⟩) n cap1)) 27 (0, 0)) := by rw [b24.block _ (by omega)]; exact HM.out
  have hP4 : w4.heap[w.heap.size]? = some (.cells (planV t f g c j d s (.slice a n cp)) 26 (0, 0)) := by rw [b14.block _ (by omega)]; exact HP.out
  have hR4 := HR.out.below b14
  have hO4 := ownsRow_below HO.out b14 (Nat.le_refl _)
  have hbel4 : Below w.heap.size w w4 := hbel1.trans (b14.mono (by omega))
  have hsz4 : w2.heap.size ≤ w4.heap.size := b24.size
  have q1 := hl1.lt
  have q2 := hl2.lt
  have q3 := hl3.lt
  clear hl1 hl2 HB2 HB3 HM HM3 HP HP2 HR HO hb4 b24 b14
  obtain ⟨a2, c2, rfl, F2⟩ := own_floats (w' := w4) k2
  obtain ⟨a3, c3, rfl, F3⟩ := own_floats (w' := w4) hl3
  obtain ⟨a1, c1, rfl, F1⟩ := own_floats (w' := w4) k1
  have hp := plan_of HOK.out
  have t1 := hp.t1
  have t2 := hp.t2
  generalize hN : t.toNat - 1 = N at *
  have hN2 : N ≤ 1000 := by omega
  clear hp
  have held : ∀ w', Below w4.heap.size w4 w' → Below w4.heap.size w4 w' ∧
      w'.cell? ⟨w.heap.size, 0, none⟩ = some (.int .i64 t) ∧ w'.cell? ⟨w.heap.size, 1, none⟩ = some (.float .f64 f) ∧ w'.cell? ⟨w.heap.size, 2, none⟩ = some (.float .f64 g) ∧ w'.cell? ⟨w.heap.size, 3, none⟩ = some (.float .f64 c) ∧
      w'.cell? ⟨w.heap.size, 4, none⟩ = some (.float .f64 j) ∧ w'.cell? ⟨w.heap.size, 5, none⟩ = some (.float .f64 d) ∧ w'.cell? ⟨w.heap.size, 6, none⟩ = some (.int .u64 s) ∧ w'.cell? ⟨w.heap.size, 7, none⟩ = some (.slice a n cp) ∧
      w'.cell? ⟨w1.heap.size, 0, none⟩ = some (.int .i64 t) ∧ w'.cell? ⟨w1.heap.size, 1, none⟩ = some (.float .f64 f) ∧ w'.cell? ⟨w1.heap.size, 2, none⟩ = some (.float .f64 g) ∧ w'.cell? ⟨w1.heap.size, 3, none⟩ = some (.float .f64 c) ∧
      w'.cell? ⟨w1.heap.size, 4, none⟩ = some (.float .f64 j) ∧ w'.cell? ⟨w1.heap.size, 5, none⟩ = some (.float .f64 d) ∧ w'.cell? ⟨w1.heap.size, 6, none⟩ = some (.int .u64 s) ∧ w'.cell? ⟨w1.heap.size, 7, none⟩ = some (.slice (some ⟨b1, 0, none⟩) n cap1) := by
    intro w' hb
    have e1 := hb.block w.heap.size (by omega)
    have e2 := hb.block w1.heap.size (by omega)
    rw [hP4] at e1
    rw [hM4] at e2
    refine ⟨hb, ?_⟩
    refine ⟨cell_of_block e1 0, cell_of_block e1 1, cell_of_block e1 2, cell_of_block e1 3, cell_of_block e1 4, cell_of_block e1 5, cell_of_block e1 6, cell_of_block e1 7, cell_of_block e2 0, cell_of_block e2 1, cell_of_block e2 2, cell_of_block e2 3, cell_of_block e2 4, cell_of_block e2 5, cell_of_block e2 6, cell_of_block e2 7⟩
  have HELD := Lib.hid held
  have HF2 := Lib.hid F2
  have HF3 := Lib.hid F3
  have HF1 := Lib.hid F1
  have HR4 := Lib.hid hR4
  have HO4 := Lib.hid hO4
  have HN := Lib.hid hN
  have HK1 := Lib.hid k1
  have n2 : ∀ x, a2 = some x → some x.block ≠ (Value.slice a1 N c1).ownBlock := by
    intro x hx h
    subst hx
    have h1 := q1 x.block h.symm
    have h2 := q2 x.block rfl
    omega
  have n3 : ∀ x, a3 = some x → some x.block ≠ (Value.slice a1 N c1).ownBlock := by
    intro x hx h
    subst hx
    have h1 := q1 x.block h.symm
    have h2 := q3 x.block rfl
    omega
  have q1' : ∀ k, (Value.slice a1 N c1).ownBlock = some k → w.heap.size ≤ k ∧ k < w4.heap.size := by
    intro k hk
    have h1 := q1 k hk
    simp at h1
    omega
  have HQ1 := Lib.hid q1'
  have HN2 := Lib.hid n2
  have HN3 := Lib.hid n3
  obtain ⟨i0, hi, hz0, hz1, hz2⟩ := info_parts Try.info22
  clear held F1 F2 F3 hR4 hO4 hN k1 k2 hl3 hP4 hM4 q1 q2 q3 q1' n2 n3
  go_wp2_with fail
  go_region_held3 (fun w' => Below w4.heap.size w4 w' ∧
      w'.cell? ⟨w.heap.size, 0, none⟩ = some (.int .i64 t) ∧ w'.cell? ⟨w.heap.size, 1, none⟩ = some (.float .f64 f) ∧ w'.cell? ⟨w.heap.size, 2, none⟩ = some (.float .f64 g) ∧ w'.cell? ⟨w.heap.size, 3, none⟩ = some (.float .f64 c) ∧
      w'.cell? ⟨w.heap.size, 4, none⟩ = some (.float .f64 j) ∧ w'.cell? ⟨w.heap.size, 5, none⟩ = some (.float .f64 d) ∧ w'.cell? ⟨w.heap.size, 6, none⟩ = some (.int .u64 s) ∧ w'.cell? ⟨w.heap.size, 7, none⟩ = some (.slice a n cp) ∧
      w'.cell? ⟨w1.heap.size, 0, none⟩ = some (.int .i64 t) ∧ w'.cell? ⟨w1.heap.size, 1, none⟩ = some (.float .f64 f) ∧ w'.cell? ⟨w1.heap.size, 2, none⟩ = some (.float .f64 g) ∧ w'.cell? ⟨w1.heap.size, 3, none⟩ = some (.float .f64 c) ∧
      w'.cell? ⟨w1.heap.size, 4, none⟩ = some (.float .f64 j) ∧ w'.cell? ⟨w1.heap.size, 5, none⟩ = some (.float .f64 d) ∧ w'.cell? ⟨w1.heap.size, 6, none⟩ = some (.int .u64 s) ∧ w'.cell? ⟨w1.heap.size, 7, none⟩ = some (.slice (some ⟨b1, 0, none⟩) n cap1))
    (first | exact HELD.out _ (held_next (by assumption) (Nat.le_refl _) (by assumption)) | exact HELD.out _ (Below.refl _ _).drew)
    (first | (go_at_call 40; refine (check_val _ _ _ _ _ _ _ _ _ _ _ 0 HE1.out).mono ?_; rintro e w' ⟨rfl, hbx⟩) | (go_at_call 41; refine (check24_val _ _ _ _ _ _ _ _ _ _ _ 0 HE2.out).mono ?_; rintro e w' ⟨rfl, hbx⟩) | (go_at_call 42; refine (floats_any _ _ _ _ _ _ _ hN2 (HF1.out.below (and_l (by assumption))) (HF2.out.below (and_l (by assumption)))).mono ?_; rintro e w' ⟨rfl, hD⟩; have hbx := drewn_below hD) | (go_at_call 43; refine (kept_any _ _ _ _ _ _ _ _ _ _ _ _ _ _ (HR4.out.below (and_l (by assumption))) (ownsRow_below HO4.out (and_l (by assumption)) (Nat.le_refl _))).mono ?_; rintro e w' ⟨rfl, hbx⟩))
  rename_i hS
  have b5 := and_l hS
  clear hS
  have hbel5 := hbel4.trans (b5.mono (by have := hbel4.size; omega))
  have k5 := ownsRow_mono (ownsRow_below HK1.out b5 (Nat.le_refl _)) (Nat.zero_le _)
  have HK5 := Lib.hid k5
  have hov : Over w4 (Value.slice a1 N c1).ownBlock w' (Value.slice a1 N c1) := ⟨fun k hk _ => b5.block k hk, b5.size, .inl rfl⟩
  have HOV := Lib.hid hov
  clear b5 k5 hov
  go_wp2_with fail
  go_loopw [12] (fun i wr => ∃ (k : Nat) (xs : List Value), i = .int .i64 k ∧ k ≤ N ∧ wr.ownsRow 0 22 1 (.slice a1 N c1) N xs ∧ Over w4 (Value.slice a1 N c1).ownBlock wr (.slice a1 N c1) ∧ Below w.heap.size w wr) (fun i _ => N - (intOf i).toNat)
  case atStart => exact ⟨0, _, rfl, Nat.zero_le _, HK5.out, HOV.out, hbel5⟩
  case round =>
    obtain ⟨k, xs, rfl, hk, hown, hO, hb⟩ := hrel
    by_cases hlt : k < N
    · obtain ⟨g1, cap1', hv, _, _, _, _, hc⟩ := own_open hown (by omega)
      simp only [Value.slice.injEq] at hv
      obtain ⟨rfl, _, rfl⟩ := hv
      have hx : k < xs.length := by have := hown.1; omega
      have d1 := hc k hlt
      obtain ⟨u0, hu0⟩ : ∃ u0, xs[k]? = some u0 := ⟨_, List.getElem?_eq_getElem hx⟩
      rw [hu0] at d1
      have f1 := hown.frozenAt k
      have hst := (hown.stored k (.float .f64 13830554455654793216)).1
      have hO2 := hO.setCell (a := ⟨g1, k, none⟩) rfl (.float .f64 13830554455654793216)
      have hb2 := hb.setCell (p := ⟨g1, k, none⟩) (HQ1.out g1 rfl).1 (.float .f64 13830554455654793216)
      have HST := Lib.hid hst
      have i1 : (k : Int) < (N : Int) := by omega
      clear hst hc hx hown hu0
      go_wp2_with ((with_reducible refine at_op (.store 22 (.tmp 61) (.const (.float .f64 13830554455654793216))) rfl ?_); refine wpList_store_cell rfl 22 (.tmp 61) _ rfl ⟨g1, k, none⟩ _ (.float .f64 13830554455654793216) rfl rfl (by kernel_rfl) rfl rfl d1 f1 ?_)
      go_roundw
      case rel => exact ⟨k + 1, _, by go_num, by omega, HST.out, hO2, hb2⟩
      case measure => simp [intOf]; omega
    · have i1 : ¬ ((k : Int) < (N : Int)) := by omega
      have hnn : N ≤ 1000 := hN2
      clear hlt
      have HOW := Lib.hid hown
      have HOR := Lib.hid hO
      clear hown hO
      go_wp2_with fail
      go_loopw [6, 13] (fun v i wr => ∃ (k : Nat) (xs : List Value), i = .int .i64 k ∧ k ≤ 120 ∧ wr.ownsRow 0 22 1 v (N + k) xs ∧ Over w4 (Value.slice a1 N c1).ownBlock wr v ∧ Below w.heap.size w wr) (fun _ i _ => 120 - (intOf i).toNat)
      case atStart => exact ⟨0, _, rfl, Nat.zero_le _, HOW.out, HOR.out, hb⟩
      case round =>
        obtain ⟨q, ys, rfl, hq, hown, hO, hb'⟩ := hrel
        by_cases hl2 : q < 120
        · have j1 : (q : Int) < 120 := by omega
          have hbs := hb'.size
          go_wp2_with (at_builtin; refine wpList_append_place _ rfl (.tmp 66) (.tmp 67) 29 rfl 0 22 i0 (.float .f64 0) 1 8 Try.underlying29 hi hz0 hz1 hz2 rfl (by decide) _ _ _ rfl (hown.alloc _) ⟨wr.heap.size, 0, none⟩ 1 1 [.float .f64 13835058055282163712] rfl rfl ?c1 ?c2 ?c3 ?c4 ?c5 (by decide) ?_)
          case c1 => intro m u hu; rcases m with _ | m <;> simp at hu; subst hu; exact cell_of_block (alloc_at _ _) 0
          case c2 => intro u hu; simp at hu; subst hu; rfl
          case c3 => simp only [maxLen]; omega
          case c4 => omega
          case c5 => omega
          intro v' w2 hown2 hg hpl
          have hO3 := (hO.alloc (.cells #[.float .f64 13835058055282163712] 22)).append (v' := v') hg (by simpa using hpl)
          have hb3 := Over.belowApp (hO.alloc (.cells #[.float .f64 13835058055282163712] 22)) HQ1.out (hb'.alloc hbs _) hg (by have := hbel4.size; omega)
          have HOW3 := Lib.hid hown2
          have HOR3 := Lib.hid hO3
          clear hown2 hg hpl hO3 hown hO
          go_wp2_with fail
          exact ⟨⟨q + 1, _, by go_num, by omega, HOW3.out, HOR3.out, hb3⟩, by simp [intOf]; omega⟩
        · have j1 : ¬ ((q : Int) < 120) := by omega
          have F2' := Lib.hid (hO.floats HF2.out HN2.out)
          have F3' := Lib.hid (hO.floats HF3.out HN3.out)
          obtain ⟨tk, tk1, tk2⟩ := ticks_any x wx
          have tke : ((tk : Int) == (tk : Int)) = true := by simp
          have TK1 := Lib.hid tk1
          have TK2 := Lib.hid tk2
          clear hown hO hl2 tk1 tk2
          go_wp2_with fail
          refine (floats_any _ _ _ _ _ _ _ hN2 F3'.out F2'.out).mono ?_
          rintro e w5 ⟨rfl, hD⟩
          have hb5 := held_nextT hb' (by omega) (drewn_below hD)
          clear hD
          go_wp2_with fail
          refine (TK1.out _).mono ?_
          rintro e w6 ⟨rfl, rfl⟩
          go_wp2_with fail
          refine (TK2.out _).mono ?_
          rintro e w6 ⟨rfl, rfl⟩
          go_wp2_with fail
          refine (awake_any _).mono ?_
          rintro e w6 ⟨rfl, hb6⟩
          have hb7 := held_nextT hb5 (Nat.le_refl _) hb6
          clear hb6
          go_wp2
          go_ret
          exact ⟨rfl, hb7⟩
end Go.Proofs.Ytmdfkljmgijdlaa
