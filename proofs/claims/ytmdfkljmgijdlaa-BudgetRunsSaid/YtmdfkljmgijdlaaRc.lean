/- Alarms as they are handed in. -/
import Derived.Test.YtmdfkljmgijdlaaPk
import Derived.Test.YtmdfkljmgijdlaaK3
namespace Go.Proofs.Ytmdfkljmgijdlaa
open Go.RowKit
set_option linter.unusedVariables false

theorem wp_append_run {P : Program} {o : Oper} {a : Act} {w : World} {K : Act → World → Prop} {Q : Exit → Act → World → Prop}
    (s x : Operand) (t : TypeId) (hop : o.op = Op.call { callee := Callee.builtin Builtin.append, args := #[s, x], argTypes := #[t, t] })
    (vs vx v' : Value) (w' : World) (hs : a.eval s = vs) (hx : a.eval x = vx) (hrun : (Builtin.append_ #[t, t] o.type #[vs, vx]).run P w = .ok v' w') (hK : K (a.put o.dst v') w') : Oper.wp P o a w K Q := by
  unfold Oper.wp
  simp [execOp, hop, resolve, invoke, builtin, hs, hx, hrun, Result.andThen]
  exact hK

/-- Rules that came in. -/
def RulesIn (w : World) (a : Option Addr) (n : Nat) (R : Nat → Int × Int × Nat) : Prop :=
  0 < n → ∃ p, a = some p ∧ ∀ i, i < n → w.cell? (p.add (i * 3)) = some (.int .i64 (R i).1) ∧ w.cell? ⟨(p.add (i * 3)).block, (p.add (i * 3)).off + 1, none⟩ = some (.int .i64 (R i).2.1) ∧ w.cell? ⟨(p.add (i * 3)).block, (p.add (i * 3)).off + 2, none⟩ = some (.int .u64 ((R i).2.2 : Nat))
theorem RulesIn.below {w w' : World} {a : Option Addr} {n : Nat} {R : Nat → Int × Int × Nat} (h : RulesIn w a n R) (hb : Below w.heap.size w w') : RulesIn w' a n R := by
  intro hn
  obtain ⟨p, hp, h1⟩ := h hn
  refine ⟨p, hp, fun i hi => ?_⟩
  obtain ⟨e1, e2, e3⟩ := h1 i hi
  exact ⟨(hb.cell (block_lt e1)).trans e1, (hb.cell (block_lt e2)).trans e2, (hb.cell (block_lt e3)).trans e3⟩

/-- The alarms' cells. -/
def al (R : Nat → Int × Int × Nat) : Nat → List Value
  | 0 => []
  | k + 1 => al R k ++ [.int .i64 (R k).1, .int .i64 (R k).2.1, .float .f64 (R k).2.2]
theorem al_len (R : Nat → Int × Int × Nat) (k : Nat) : (al R k).length = k * 3 := by
  induction k with
  | zero => rfl
  | succ k ih => simp only [al, List.length_append, ih, List.length_cons, List.length_nil]; omega
theorem al_get (R : Nat → Int × Int × Nat) (n i : Nat) (h : i < n) : (al R n)[i * 3]? = some (.int .i64 (R i).1) ∧ (al R n)[i * 3 + 1]? = some (.int .i64 (R i).2.1) ∧ (al R n)[i * 3 + 2]? = some (.float .f64 (R i).2.2) := by
  induction n with
  | zero => omega
  | succ n ih =>
    simp only [al]
    by_cases e : i = n
    · subst e
      have hl := al_len R i
      refine ⟨?_, ?_, ?_⟩
      · rw [List.getElem?_append_right (by omega), hl]; simp
      · rw [List.getElem?_append_right (by omega), hl, show i * 3 + 1 - i * 3 = 1 by omega]; rfl
      · rw [List.getElem?_append_right (by omega), hl, show i * 3 + 2 - i * 3 = 2 by omega]; rfl
    · have hl := al_len R n
      rw [List.getElem?_append_left (by omega), List.getElem?_append_left (by omega), List.getElem?_append_left (by omega)]
      exact ih (by omega)

/-- Alarms lie in a block. -/
def AlarmsAt (w : World) (g n : Nat) (R : Nat → Int × Int × Nat) : Prop :=
  ∀ i, i < n → w.cell? ⟨g, i * 3, none⟩ = some (.int .i64 (R i).1) ∧ w.cell? ⟨g, i * 3 + 1, none⟩ = some (.int .i64 (R i).2.1) ∧ w.cell? ⟨g, i * 3 + 2, none⟩ = some (.float .f64 (R i).2.2)

set_option maxRecDepth 100000 in
set_option maxHeartbeats 4000000 in
theorem alarms_any (a : Option Addr) (n cp : Nat) (w : World) (R : Nat → Int × Int × Nat) (HD : RulesIn w a n R) (hby : n * 24 ≤ 140737488351232) :
    Calls Try.prog 25 #[.slice a n cp] w fun e w' => ∃ g c, e = .returned (.slice (some ⟨g, 0, none⟩) n c) ∧ w.heap.size ≤ g ∧ g < w'.heap.size ∧ n < c ∧ AlarmsAt w' g n R ∧ w'.cell? ⟨g, n * 3, none⟩ = some (.int .i64 999) ∧ Below w.heap.size w w' := by
  have h2 := frombits_run
  obtain ⟨i0, hi, hz0, hz1, hz2⟩ := info_parts (show (Try.prog.info? 163).map (fun i => (i.zero, i.size, i.bytes)) = some (some (.agg #[.int .i64 0, .int .i64 0, .float .f64 0]), 3, 24) by kernel_rfl)
  go_enter Try.func25, Try.ntmps25
  go_wp2_with fail
  go_loopw [3, 4] (fun v i W => ∃ k : Nat, i = .int .i64 k ∧ k ≤ n ∧ W.ownsRow w.heap.size 163 3 v k (al R k) ∧ Below w.heap.size w W) (fun _ i _ => n - (intOf i).toNat)
  case atStart => exact ⟨0, rfl, by omega, ⟨rfl, Or.inl ⟨rfl, rfl⟩⟩, Below.refl _ _⟩
  case round =>
    obtain ⟨k, rfl, hk, hown, hbel⟩ := hrel
    by_cases hlt : k < n
    · have i1 : (k : Int) < (n : Int) := by omega
      obtain ⟨p, rfl, hD⟩ := HD (by omega)
      obtain ⟨e1, e2, e3⟩ := hD k hlt
      have f1 := hbel.cell (block_lt e1) ▸ e1
      have f2 := hbel.cell (block_lt e2) ▸ e2
      have f3 := hbel.cell (block_lt e3) ▸ e3
      have HD2 := Lib.hid (show ∀ w', Below w.heap.size w w' → w'.cell? (p.add (k * 3)) = some (.int .i64 (R k).1) ∧ w'.cell? ⟨(p.add (k * 3)).block, (p.add (k * 3)).off + 1, none⟩ = some (.int .i64 (R k).2.1) ∧ w'.cell? ⟨(p.add (k * 3)).block, (p.add (k * 3)).off + 2, none⟩ = some (.int .u64 ((R k).2.2 : Nat)) from
        fun w' hb => ⟨(hb.cell (block_lt e1)).trans e1, (hb.cell (block_lt e2)).trans e2, (hb.cell (block_lt e3)).trans e3⟩)
      have hbs := hbel.size
      have hnn : n ≤ 9223372036854775807 := by omega
      have HN := Lib.hid (show ∀ j u, ([.int .i64 (R k).1, .int .i64 (R k).2.1, .float .f64 (R k).2.2] : List Value)[j]? = some u → (wr.drew.alloc (.cells #[.int .i64 (R k).1, .int .i64 (R k).2.1, .float .f64 (R k).2.2] 163)).cell? ((⟨wr.heap.size, 0, none⟩ : Addr).add j) = some u by
        intro m u hu
        rcases m with _ | _ | _ | m <;> simp at hu <;> subst hu
        · exact cell_of_block (alloc_at _ _) 0
        · exact cell_of_block (alloc_at _ _) 1
        · exact cell_of_block (alloc_at _ _) 2)
      have HO := Lib.hid (show ∀ u ∈ ([.int .i64 (R k).1, .int .i64 (R k).2.1, .float .f64 (R k).2.2] : List Value), u.oneCell' = true by
        intro u hu; simp at hu; rcases hu with rfl | rfl | rfl <;> rfl)
      clear e1 e2 e3 hD f1 f2 f3
      go_wp2_with fail
      refine wp_region_held_drew (S := fun w' => Below w.heap.size w w' ∧ w'.cell? (p.add (k * 3)) = some (.int .i64 (R k).1) ∧ w'.cell? ⟨(p.add (k * 3)).block, (p.add (k * 3)).off + 1, none⟩ = some (.int .i64 (R k).2.1) ∧ w'.cell? ⟨(p.add (k * 3)).block, (p.add (k * 3)).off + 2, none⟩ = some (.int .u64 ((R k).2.2 : Nat))) (by kernel_rfl) (⟨hbel.drew, HD2.out _ hbel.drew⟩) (fun hHeld => ?_)
      refine take_at (i := 0) (d := (some 11)) (v := ?_) rfl rfl (by kernel_rfl) (by kernel_rfl) (by kernel_rfl) (fun _ _ _ h => h) (Or.inl ⟨by rfl, fun w hSw => ?_⟩) hHeld ?_
      rotate_left
      · (try dsimp only at hSw); go_simp; try with_reducible rfl
      try simp only [Act.put, List.setIfInBounds_toArray, List.set_cons_zero, List.set_cons_succ]
      refine take_at (i := 1) (d := (some 12)) (v := ?_) rfl rfl (by kernel_rfl) (by kernel_rfl) (by kernel_rfl) (fun _ _ _ h => h) (Or.inl ⟨by rfl, fun w hSw => ?_⟩) hHeld ?_
      rotate_left
      · (try dsimp only at hSw); go_simp; try with_reducible rfl
      try simp only [Act.put, List.setIfInBounds_toArray, List.set_cons_zero, List.set_cons_succ]
      refine take_at (i := 2) (d := (some 13)) (v := ?_) rfl rfl (by kernel_rfl) (by kernel_rfl) (by kernel_rfl) (fun _ _ _ h => h) (Or.inl ⟨by rfl, fun w hSw => ?_⟩) hHeld ?_
      rotate_left
      · (try dsimp only at hSw); go_simp; try with_reducible rfl
      try simp only [Act.put, List.setIfInBounds_toArray, List.set_cons_zero, List.set_cons_succ]
      refine take_at (i := 3) (d := (some 14)) (v := ?_) rfl rfl (by kernel_rfl) (by kernel_rfl) (by kernel_rfl) (fun _ _ _ h => h) (Or.inl ⟨by rfl, fun w hSw => ?_⟩) hHeld ?_
      rotate_left
      · (try dsimp only at hSw); go_simp; try with_reducible rfl
      try simp only [Act.put, List.setIfInBounds_toArray, List.set_cons_zero, List.set_cons_succ]
      refine take_at (i := 4) (d := (some 15)) (v := ?_) rfl rfl (by kernel_rfl) (by kernel_rfl) (by kernel_rfl) (fun _ _ _ h => h) (Or.inl ⟨by rfl, fun w hSw => ?_⟩) hHeld ?_
      rotate_left
      · (try dsimp only at hSw); go_simp; try with_reducible rfl
      try simp only [Act.put, List.setIfInBounds_toArray, List.set_cons_zero, List.set_cons_succ]
      refine take_at (i := 5) (d := (some 16)) (v := ?_) rfl rfl (by kernel_rfl) (by kernel_rfl) (by kernel_rfl) (fun _ _ _ h => h) (Or.inl ⟨by rfl, fun w hSw => ?_⟩) hHeld ?_
      rotate_left
      · (try dsimp only at hSw); go_simp; try with_reducible rfl
      try simp only [Act.put, List.setIfInBounds_toArray, List.set_cons_zero, List.set_cons_succ]
      refine take_at (i := 6) (d := (some 17)) (v := ?_) rfl rfl (by kernel_rfl) (by kernel_rfl) (by kernel_rfl) (fun _ _ _ h => h) (Or.inl ⟨by rfl, fun w hSw => ?_⟩) hHeld ?_
      rotate_left
      · (try dsimp only at hSw); go_simp; try with_reducible rfl
      try simp only [Act.put, List.setIfInBounds_toArray, List.set_cons_zero, List.set_cons_succ]
      refine take_at (i := 7) (d := (some 18)) (v := ?_) rfl rfl (by kernel_rfl) (by kernel_rfl) (by kernel_rfl) (fun _ _ _ h => h) (Or.inl ⟨by rfl, fun w hSw => ?_⟩) hHeld ?_
      rotate_left
      · (try dsimp only at hSw); go_simp; try with_reducible rfl
      try simp only [Act.put, List.setIfInBounds_toArray, List.set_cons_zero, List.set_cons_succ]
      refine take_at (i := 8) (d := (some 19)) (v := ?_) rfl rfl (by kernel_rfl) (by kernel_rfl) (by kernel_rfl) (fun _ _ _ h => h) (Or.inl ⟨by rfl, fun w hSw => ?_⟩) hHeld ?_
      rotate_left
      · (try dsimp only at hSw); go_simp; try with_reducible rfl
      try simp only [Act.put, List.setIfInBounds_toArray, List.set_cons_zero, List.set_cons_succ]
      refine take_at (i := 9) (d := (some 20)) (v := ?_) rfl rfl (by kernel_rfl) (by kernel_rfl) (by kernel_rfl) (fun _ _ _ h => h) (Or.inl ⟨by rfl, fun w hSw => ?_⟩) hHeld ?_
      rotate_left
      · (try dsimp only at hSw); go_simp; try with_reducible rfl
      try simp only [Act.put, List.setIfInBounds_toArray, List.set_cons_zero, List.set_cons_succ]
      refine take_at (i := 10) (d := (some 21)) (v := ?_) rfl rfl (by kernel_rfl) (by kernel_rfl) (by kernel_rfl) (fun _ _ _ h => h) (Or.inl ⟨by rfl, fun w hSw => ?_⟩) hHeld ?_
      rotate_left
      · (try dsimp only at hSw); go_simp; try with_reducible rfl
      try simp only [Act.put, List.setIfInBounds_toArray, List.set_cons_zero, List.set_cons_succ]
      refine take_at (i := 11) (d := (some 22)) (v := ?_) rfl rfl (by kernel_rfl) (by kernel_rfl) (by kernel_rfl) (fun _ _ _ h => h) (Or.inl ⟨by rfl, fun w hSw => ?_⟩) hHeld ?_
      rotate_left
      · (try dsimp only at hSw); go_simp; try with_reducible rfl
      try simp only [Act.put, List.setIfInBounds_toArray, List.set_cons_zero, List.set_cons_succ]
      refine take_at (i := 12) (d := (some 23)) (v := ?_) rfl rfl (by kernel_rfl) (by kernel_rfl) (by kernel_rfl) (fun _ _ _ h => h) (Or.inl ⟨by rfl, fun w hSw => ?_⟩) hHeld ?_
      rotate_left
      · (try dsimp only at hSw); go_simp; try with_reducible rfl
      try simp only [Act.put, List.setIfInBounds_toArray, List.set_cons_zero, List.set_cons_succ]
      refine take_at (i := 13) (d := (some 24)) (v := ?_) rfl rfl (by kernel_rfl) (by kernel_rfl) (by kernel_rfl) (fun _ _ _ h => h) (Or.inl ⟨by rfl, fun w hSw => ?_⟩) hHeld ?_
      rotate_left
      · (try dsimp only at hSw); go_simp; try with_reducible rfl
      try simp only [Act.put, List.setIfInBounds_toArray, List.set_cons_zero, List.set_cons_succ]
      refine take_at (i := 14) (d := (some 25)) (v := ?_) rfl rfl (by kernel_rfl) (by kernel_rfl) (by kernel_rfl) (fun _ _ _ h => h) (Or.inl ⟨by rfl, fun w hSw => ?_⟩) hHeld ?_
      rotate_left
      · (try dsimp only at hSw); go_simp; try with_reducible rfl
      try simp only [Act.put, List.setIfInBounds_toArray, List.set_cons_zero, List.set_cons_succ]
      refine take_at (i := 15) (d := (some 26)) (v := ?_) rfl rfl (by kernel_rfl) (by kernel_rfl) (by kernel_rfl) (fun _ _ _ h => h) (Or.inl ⟨by rfl, fun w hSw => ?_⟩) hHeld ?_
      rotate_left
      · (try dsimp only at hSw); go_simp; try with_reducible rfl
      try simp only [Act.put, List.setIfInBounds_toArray, List.set_cons_zero, List.set_cons_succ]
      refine take_at (i := 16) (d := (some 27)) (v := ?_) rfl rfl (by kernel_rfl) (by kernel_rfl) (by kernel_rfl) (fun _ _ _ h => h) (Or.inl ⟨by rfl, fun w hSw => ?_⟩) hHeld ?_
      rotate_left
      · (try dsimp only at hSw); go_simp; try with_reducible rfl
      try simp only [Act.put, List.setIfInBounds_toArray, List.set_cons_zero, List.set_cons_succ]
      refine take_at (i := 17) (d := (some 28)) (v := ?_) rfl rfl (by kernel_rfl) (by kernel_rfl) (by kernel_rfl) (fun _ _ _ h => h) (Or.inl ⟨by rfl, fun w hSw => ?_⟩) hHeld ?_
      rotate_left
      · (try dsimp only at hSw); go_simp; try with_reducible rfl
      try simp only [Act.put, List.setIfInBounds_toArray, List.set_cons_zero, List.set_cons_succ]
      refine wpAnyH_ready (rs := [18]) (by kernel_rfl) (by simp) ?_
      refine ready_at (d := (some 29)) rfl rfl (by rfl) (fun K hK => ?_)
      go_simp
      refine hK.out _ _ (⟨hbel.drew.alloc hbs _, HD2.out _ (hbel.drew.alloc hbs _)⟩) (fun hHeld2 => ?_)
      clear hK K hHeld
      have hHeld := hHeld2
      clear hHeld2
      try simp only [Act.put, List.setIfInBounds_toArray, List.set_cons_zero, List.set_cons_succ]
      refine wpAnyH_ready (rs := [19]) (by kernel_rfl) (by simp) ?_
      refine ready_at (d := (some 30)) rfl rfl (by rfl) (fun K hK => ?_)
      obtain ⟨v', w2, hr, hown3, hg, _⟩ := run_append_own (P := Try.prog) _ w.heap.size 50 50 163 i0 (.agg #[.int .i64 0, .int .i64 0, .float .f64 0]) 3 24 Try.underlying50 hi hz0 hz1 hz2 rfl (by decide) _ _ _ ((ownsRow_drew hown).alloc (.cells #[.int .i64 (R k).1, .int .i64 (R k).2.1, .float .f64 (R k).2.2] 163)) ⟨wr.heap.size, 0, none⟩ 1 1 [.int .i64 (R k).1, .int .i64 (R k).2.1, .float .f64 (R k).2.2] rfl HN.out HO.out (by simp only [maxLen]; omega) (by omega) (by simp; omega)
      have hbel4 := (hbel.drew.alloc hbs (.cells #[.int .i64 (R k).1, .int .i64 (R k).2.1, .float .f64 (R k).2.2] 163)).grown hg (by simp; omega) (fun q hq => (hown.lt q hq).1)
      have hown4 : w2.ownsRow w.heap.size 163 3 v' (k + 1) (al R (k + 1)) := hown3
      refine wp_append_run (.tmp 11) (.tmp 29) 50 rfl _ _ v' w2 rfl rfl hr ?_
      refine hK.out _ _ (⟨hbel4, HD2.out _ hbel4⟩) (fun hHeld2 => ?_)
      clear hK K hHeld
      have hHeld := hHeld2
      clear hHeld2
      try simp only [Act.put, List.setIfInBounds_toArray, List.set_cons_zero, List.set_cons_succ]
      refine take_at (i := 20) (d := (some 3)) (v := ?_) rfl rfl (by kernel_rfl) (by kernel_rfl) (by kernel_rfl) (fun _ _ _ h => h) (Or.inl ⟨by rfl, fun w hSw => ?_⟩) hHeld ?_
      rotate_left
      · (try dsimp only at hSw); go_simp; try with_reducible rfl
      try simp only [Act.put, List.setIfInBounds_toArray, List.set_cons_zero, List.set_cons_succ]
      refine wpAnyH_done (by kernel_rfl) ?_ _
      have HB := Lib.hid hbel4
      have HW := Lib.hid hown4
      clear hbel4 hown4 hown3 hg hr hown hbel hHeld
      go_wp2_with fail
      go_roundw
      case rel => exact ⟨k + 1, by go_num, by omega, HW.out, HB.out⟩
      case measure => simp [intOf]; omega
    · have i1 : ¬ ((k : Int) < (n : Int)) := by omega
      have hkn : k = n := by omega
      subst hkn
      have hbs := hbel.size
      go_wp2_with (at_builtin; refine wpList_append_own _ rfl (.tmp 31) (.tmp 33) 50 rfl w.heap.size 163 i0 (.agg #[.int .i64 0, .int .i64 0, .float .f64 0]) 3 24 Try.underlying50 hi hz0 hz1 hz2 rfl (by decide) _ _ _ rfl (hown.alloc _) ⟨wr.heap.size, 0, none⟩ 1 1 [.int .i64 999, .int .i64 0, .float .f64 0] rfl rfl ?d1 ?d2 ?d3 ?d4 ?d5 ?_)
      case d2 => exact ⟨rfl, rfl, rfl⟩
      case d3 => simp only [maxLen]; omega
      case d4 => omega
      case d5 => omega
      intro v' w2 hown3 hg _
      have hbel4 := (hbel.alloc hbs _).grown hg (by simp; omega) (fun q hq => (hown.lt q hq).1)
      rcases hown3.2 with ⟨_, h0⟩ | ⟨g, cap, cur, rfl, hbg, hgb, hnc, hcap, _⟩
      · omega
      have hl := hown3.lt g rfl
      have hc : ∀ j u, (al R k ++ [.int .i64 999, .int .i64 0, .float .f64 0])[j]? = some u → w2.cell? ⟨g, j, none⟩ = some u := by
        intro j u hj
        have := hown3.cells (g := g) rfl j u hj
        rwa [Addr.add_lit, Nat.zero_add] at this
      have hAl : AlarmsAt w2 g k R := by
        intro i hi
        obtain ⟨q1, q2, q3⟩ := al_get R k i hi
        have hlen := al_len R k
        exact ⟨hc _ _ (by rw [List.getElem?_append_left (by omega)]; exact q1), hc _ _ (by rw [List.getElem?_append_left (by omega)]; exact q2), hc _ _ (by rw [List.getElem?_append_left (by omega)]; exact q3)⟩
      have h999 : w2.cell? ⟨g, k * 3, none⟩ = some (.int .i64 999) := hc _ _ (by rw [List.getElem?_append_right (by rw [al_len]; omega), al_len]; simp)
      have j1 : (k : Int) ≤ (cap : Int) := by omega
      have j2 : (0 : Int) ≤ (k : Int) := by omega
      have HF := Lib.hid (And.intro hl (And.intro hAl (And.intro h999 hbel4)))
      have HC := Lib.hid hnc
      clear hown3 hg hown hbel hl hAl h999 hbel4 hc hgb hbg
      go_wp2
      go_ret
      obtain ⟨hl, hAl, h999, hb⟩ := HF.out
      exact ⟨g, cap, rfl, hl.1, hl.2, by have := HC.out; omega, hAl, h999, hb⟩
end Go.Proofs.Ytmdfkljmgijdlaa
