/- kinds.Make of a spec that may be: errors around others, joins, leaves. -/
import Derived.Test.YtfmnbhhpimpjbaaGreatDoorVe
import Derived.Test.YtfmnbhhpimpjbaaGreatDoorTe
import Derived.Test.YtfmnbhhpimpjbaaGreatDoorVd
import Derived.Test.YtfmnbhhpimpjbaaGreatDoorTg
namespace Go.Proofs.YtfmnbhhpimpjbaaGreatDoor
open Go.RowKit
set_option linter.unusedVariables false

set_option maxRecDepth 100000 in
theorem part_any (a : Option Addr) (c : Nat) (ps : List Value) (hn : ps.length ≤ 1000000) (w : World) (hP : ErrsIn w a ps) :
    Calls Tryz.prog 51 #[.slice a ps.length c] w fun e w' => e = .returned (ps.headD .nilIface) ∧ w = w' := by
  cases ps with
  | nil =>
    go_enter Tryz.func51, Tryz.ntmps51
    go_wp2
    go_ret
    exact ⟨rfl, rfl⟩
  | cons v l =>
    obtain ⟨p, rfl, hp⟩ := hP (by simp)
    have c0 := hp 0 (by simp)
    rw [show p.add 0 = p from rfl] at c0
    have hz : (((v :: l).length : Int) == 0) = false := by simp; omega
    have hz0 : (0 : Int) < ((v :: l).length : Int) := by simp
    have hz1 : 0 < (v :: l).length := by simp
    have hv : (v :: l).getD 0 .nilIface = v := rfl
    rw [hv] at c0
    have e : (v :: l).headD .nilIface = v := rfl
    rw [e]
    generalize (v :: l).length = n at *
    clear hp hP
    go_enter Tryz.func51, Tryz.ntmps51
    go_wp2
    go_ret
    exact ⟨rfl, rfl⟩

/-- No error, or one. -/
def EV (v : Value) : Prop := v = .nilIface ∨ ∃ T u, v = .iface T u
theorem EV.one {v : Value} (h : EV v) : v.oneCell' = true := by rcases h with rfl | ⟨T, u, rfl⟩ <;> rfl
def aroundK (k : Int) : Prop := k = 13 ∨ k = 14 ∨ k = 15 ∨ k = 17 ∨ k = 20
set_option maxRecDepth 100000 in
set_option maxHeartbeats 4000000 in
/-- An error around another one. -/
theorem around_any (s : Sp) (hk : aroundK s.kind) (hn : s.nil = false) (v : Value) (ps : List Value) (hv : ps.headD .nilIface = v) (hev : EV v) (ia : Option Addr) (ic : Nat) (pa : Option Addr) (pc : Nat) (w : World) :
    Calls Tryz.prog 53 #[.agg (spC s ia ic pa pc), v] w fun e w' => ∃ x, e = .returned x ∧ (∃ T u, x = .iface T u) ∧ ErrIn (Fresh w w') w' x s ps ∧ Below w.heap.size w w' := by
  obtain ⟨kind, nil, text, number, small, re, im, flag, mask, items, parts⟩ := s
  simp only at hn hk
  subst hn
  rcases hk with rfl | rfl | rfl | rfl | rfl
  all_goals unfold spC
  all_goals rcases hev with rfl | ⟨T, u, rfl⟩
  · go_enter Tryz.func53, Tryz.ntmps53
    go_wp2
    go_ret
    exact ⟨_, rfl, ⟨_, _, rfl⟩, .hold rfl rfl (by rw [hv]; rfl), (Below.refl _ _).alloc (Nat.le_refl _) _⟩
  · go_enter Tryz.func53, Tryz.ntmps53
    go_wp2
    go_ret
    exact ⟨_, rfl, ⟨_, _, rfl⟩, .hold rfl rfl (by rw [hv]; rfl), (Below.refl _ _).alloc (Nat.le_refl _) _⟩
  · go_enter Tryz.func53, Tryz.ntmps53
    go_wp2
    go_ret
    exact ⟨_, rfl, ⟨_, _, rfl⟩, .wrap rfl rfl ⟨by decide, w.heap.size + 1, rfl, ⟨by omega, by simp⟩, by rw [hv]; exact alloc_at' _ _ _ (by simp)⟩, ((Below.refl _ _).alloc (Nat.le_refl _) _).alloc (by simp) _⟩
  · go_enter Tryz.func53, Tryz.ntmps53
    go_wp2
    go_ret
    exact ⟨_, rfl, ⟨_, _, rfl⟩, .wrap rfl rfl ⟨by decide, w.heap.size + 1, rfl, ⟨by omega, by simp⟩, by rw [hv]; exact alloc_at' _ _ _ (by simp)⟩, ((Below.refl _ _).alloc (Nat.le_refl _) _).alloc (by simp) _⟩
  · go_enter Tryz.func53, Tryz.ntmps53
    go_wp2
    go_ret
    exact ⟨_, rfl, ⟨_, _, rfl⟩, .over rfl rfl (by rw [hv]; rfl), (Below.refl _ _).alloc (Nat.le_refl _) _⟩
  · go_enter Tryz.func53, Tryz.ntmps53
    go_wp2
    go_ret
    exact ⟨_, rfl, ⟨_, _, rfl⟩, .over rfl rfl (by rw [hv]; rfl), (Below.refl _ _).alloc (Nat.le_refl _) _⟩
  · go_enter Tryz.func53, Tryz.ntmps53
    go_wp2
    go_ret
    exact ⟨_, rfl, ⟨_, _, rfl⟩, .timed rfl rfl (by rw [hv]; rfl), (Below.refl _ _).alloc (Nat.le_refl _) _⟩
  · go_enter Tryz.func53, Tryz.ntmps53
    go_wp2
    go_ret
    exact ⟨_, rfl, ⟨_, _, rfl⟩, .timed rfl rfl (by rw [hv]; rfl), (Below.refl _ _).alloc (Nat.le_refl _) _⟩
  · go_enter Tryz.func53, Tryz.ntmps53
    go_wp2
    go_ret
    exact ⟨_, rfl, ⟨_, _, rfl⟩, .veil rfl rfl (by rw [hv]; rfl), (Below.refl _ _).alloc (Nat.le_refl _) _⟩
  · go_enter Tryz.func53, Tryz.ntmps53
    go_wp2
    go_ret
    exact ⟨_, rfl, ⟨_, _, rfl⟩, .veil rfl rfl (by rw [hv]; rfl), (Below.refl _ _).alloc (Nat.le_refl _) _⟩

def leafK (k : Int) : Prop := k = 1 ∨ k = 2 ∨ k = 3 ∨ k = 4 ∨ k = 7 ∨ k = 9 ∨ k = 10 ∨ k = 11 ∨ k = 12 ∨ k = 19 ∨ k = 21 ∨ k = 22 ∨ k = 24
set_option maxRecDepth 100000 in
set_option maxHeartbeats 4000000 in
theorem leaf_bag (s : Sp) (hk : s.kind = 12) (hn : s.nil = false) (hit : s.items.length ≤ 1000000) (ps : List Value) (ia : Option Addr) (ic : Nat) (pa : Option Addr) (pc : Nat) (hia : NilOk ia ic) (w : World) (hI : ItemsIn w ia s.items) :
    Calls Tryz.prog 55 #[.agg (spC s ia ic pa pc)] w fun e w' => ∃ x, e = .returned x ∧ (∃ T u, x = .iface T u) ∧ ErrIn (Fresh w w') w' x s ps ∧ Below w.heap.size w w' := by
  have hb0 : Below w.heap.size w (w.alloc (.cells (spC s ia ic pa pc) 34)) := (Below.refl _ _).alloc (Nat.le_refl _) _
  have HX := Lib.hid (alloc_at w (.cells (spC s ia ic pa pc) 34))
  have hcell := fun i => cell_of_block HX.out i
  have HC := Lib.hid (clone_str ia ic s.items hit hia _ ((hI.below hb0).below (Below.refl _ _).drew))
  have HS : ∀ w2, Below (w.alloc (.cells (spC s ia ic pa pc) 34)).drew.heap.size (w.alloc (.cells (spC s ia ic pa pc) 34)).drew w2 → w2.heap[w.heap.size]? = some (.cells (spC s ia ic pa pc) 34 (0, 0)) := fun w2 h => (h.block _ (by simp)).trans HX.out
  have HS2 := Lib.hid HS
  have HB := Lib.hid hb0
  clear hI hb0 HS
  obtain ⟨kind, nil, text, number, small, re, im, flag, mask, items, parts⟩ := s
  simp only at hn hk
  subst hn
  subst hk
  unfold spC at *
  go_enter Tryz.func55, Tryz.ntmps55
  go_wp2
  go_region_with (first | (go_at_call 47; refine HC.out.mono ?_; rintro e w2 ⟨ia2, ic2, rfl, n2, d2, b2⟩; have e2 : w2.cell? ⟨w.heap.size, 2, none⟩ = some (.string text) := cell_of_block (HS2.out _ b2) 2; have B2 := Lib.hid b2; have D2 := Lib.hid d2; clear n2 d2 b2))
  all_goals
    have s2 := B2.out.size
    clear hcell e2
    go_wp2
    go_ret
    refine ⟨_, rfl, ⟨_, _, rfl⟩, .bag rfl rfl ia2 ic2 rfl (D2.out.mono fun b hD => ⟨by have := hD.1; simp at this; omega, hD.2⟩), HB.out.drew.trans (B2.out.mono (by simp))⟩
/-- A leaf. -/
theorem leaf_any (s : Sp) (hk : leafK s.kind) (hn : s.nil = false) (hit : s.items.length ≤ 1000000) (ps : List Value) (ia : Option Addr) (ic : Nat) (pa : Option Addr) (pc : Nat) (hia : NilOk ia ic) (w : World) (hI : ItemsIn w ia s.items) :
    Calls Tryz.prog 55 #[.agg (spC s ia ic pa pc)] w fun e w' => ∃ x, e = .returned x ∧ (∃ T u, x = .iface T u) ∧ ErrIn (Fresh w w') w' x s ps ∧ Below w.heap.size w w' := by
  by_cases h1 : s.kind = 1 ∨ s.kind = 2 ∨ s.kind = 3 ∨ s.kind = 4 ∨ s.kind = 11 ∨ s.kind = 19
  · refine (leaf_value s h1 ia ic pa pc w).mono ?_
    rintro e w' ⟨rfl, hb⟩
    refine ⟨_, rfl, ?_, .leaf hn (by omega) rfl, hb⟩
    unfold leafV; repeat' (first | exact ⟨_, _, rfl⟩ | split)
  · by_cases h2 : s.kind = 9 ∨ s.kind = 10 ∨ s.kind = 21 ∨ s.kind = 22
    · refine (leaf_pointer s h2 ia ic pa pc w).mono ?_
      rintro e w' ⟨T, T', cs, h, rfl, rfl⟩
      have hb : Below w.heap.size w ((w.alloc (.cells (spC s ia ic pa pc) 34)).alloc (.cells cs T')) := ((Below.refl _ _).alloc (Nat.le_refl _) _).alloc (by simp) _
      have hp : ∀ ht : T' ≠ 204, PtrIn (Fresh w ((w.alloc (.cells (spC s ia ic pa pc) 34)).alloc (.cells cs T'))) ((w.alloc (.cells (spC s ia ic pa pc) 34)).alloc (.cells cs T')) (.iface T (.pointer (some ⟨w.heap.size + 1, 0, none⟩))) T T' cs :=
        fun ht => ⟨ht, w.heap.size + 1, rfl, ⟨by omega, by simp⟩, alloc_at' _ _ _ (by simp)⟩
      rcases h with ⟨hk, rfl, rfl, rfl⟩ | ⟨hk, rfl, rfl, rfl⟩ | ⟨hk, rfl, rfl, rfl⟩ | ⟨hk, rfl, rfl, rfl⟩
      · exact ⟨_, rfl, ⟨_, _, rfl⟩, .plain hn hk (hp (by decide)), hb⟩
      · exact ⟨_, rfl, ⟨_, _, rfl⟩, .quiet hn hk (hp (by decide)), hb⟩
      · exact ⟨_, rfl, ⟨_, _, rfl⟩, .echo hn hk (hp (by decide)), hb⟩
      · exact ⟨_, rfl, ⟨_, _, rfl⟩, .guise hn hk (hp (by decide)), hb⟩
    · by_cases h3 : s.kind = 7 ∨ s.kind = 24
      · refine (leaf_lazy s h3 ia ic pa pc w).mono ?_
        rintro e w' ⟨h7, h24⟩
        rcases h3 with hk | hk
        · obtain ⟨rfl, rfl⟩ := h7 hk
          exact ⟨_, rfl, ⟨_, _, rfl⟩, .lazy hn hk _ rfl ⟨w.heap.size + 1, ia, ic, pa, pc, rfl, ⟨by omega, by simp⟩, alloc_at' _ _ _ (by simp)⟩, ((Below.refl _ _).alloc (Nat.le_refl _) _).alloc (by simp) _⟩
        · obtain ⟨rfl, rfl⟩ := h24 hk
          exact ⟨_, rfl, ⟨_, _, rfl⟩, .slow hn hk _ (w.heap.size + 2) rfl ⟨by omega, by simp⟩ ⟨w.heap.size + 1, ia, ic, pa, pc, rfl, ⟨by omega, by simp⟩, (alloc_old _ _ _ (by simp)).trans (alloc_at' _ _ _ (by simp))⟩ (.inl (alloc_at' _ _ _ (by simp))), (((Below.refl _ _).alloc (Nat.le_refl _) _).alloc (by simp) _).alloc (by simp; omega) _⟩
      · exact leaf_bag s (by unfold leafK at hk; omega) hn hit ps ia ic pa pc hia w hI
end Go.Proofs.YtfmnbhhpimpjbaaGreatDoor
