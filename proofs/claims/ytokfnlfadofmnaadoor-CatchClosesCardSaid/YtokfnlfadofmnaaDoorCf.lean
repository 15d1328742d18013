/- catch: a plain step that calls; the rounds of a frame that hand on to 'plain', that tell. -/
import Derived.Test.YtokfnlfadofmnaaDoorCe
import Derived.Test.YtokfnlfadofmnaaDoorCd
import Derived.Deep.RegionHeld3
import Derived.Deep.RegionLaw
import Derived.Deep.Cut
import Derived.Deep.CutRange
namespace Go.Proofs.YtokfnlfadofmnaaDoor
open Go.RowKit
set_option linter.unusedVariables false

theorem append_wp {P : Program} {o : Oper} {a : Act} {w : World} {K : Act → World → Prop} {Q : Exit → Act → World → Prop}
    (s x : Operand) (t : TypeId) (hop : o.op = Op.call { callee := Callee.builtin Builtin.append, args := #[s, x], argTypes := #[t, t] })
    (vs vx v' : Value) (w' : World) (hs : a.eval s = vs) (hx : a.eval x = vx) (hrun : (Builtin.append_ #[t, t] o.type #[vs, vx]).run P w = .ok v' w') (hK : K (a.put o.dst v') w') :
    Oper.wp P o a w K Q := by
  unfold Oper.wp
  simp [execOp, hop, resolve, invoke, builtin, hs, hx, hrun, Result.andThen]
  exact hK

section
variable {P : Program} {ops : Array Oper} {Q : Exit → Act → World → Prop} {md : Region.Mode} {S : World → Prop}
/-- An operation of a drawn region, taken; its slot told. -/
theorem take_at {i : Nat} {d : Option Tmp} {oi : Oper} {v : Value} {fuel : Nat} {listed : Array Bool} {a : Act} {w : World} (hi : ops[i]? = some oi) (hd : oi.dst = d)
    (hs : Region.noSelect ops = true) (hf : Region.free md ops listed i = true) (hr : (Region.ready md ops listed).contains i = true)
    (hQ : ∀ c a w, Q (.panic c) (a.put d v) w → Q (.panic c) a w) (hy : YieldsIf P ops S oi v a) (hS : S w)
    (h : wpAnyH P md ops Q S fuel (listed.setIfInBounds i true) (a.put d v) w) : wpAnyH P md ops Q S (fuel + 1) listed a w := by
  subst hd
  exact wpAnyH_take hi hs hf hr hQ hy hS h
/-- The one operation that may come up, carried out; its slot told. -/
theorem ready_at {i : Nat} {d : Option Tmp} {oi : Oper} {fuel : Nat} {listed : Array Bool} {a : Act} {w : World} (hi : ops[i]? = some oi) (hd : oi.dst = d) (hw : Region.wanted oi (yielded ops a.tmps) = true)
    (h : ∀ K' : Act → World → Prop, Shut (∀ a w, S w → (S w → wpAnyH P md ops Q S fuel (listed.setIfInBounds i true) a w) → K' a w) → Oper.wp P { oi with dst := d } a w K' Q) : AllReadyH P md ops Q S fuel listed a w [i] := by
  subst hd
  exact AllReadyH.cons hi (fun K hK => by rw [if_pos hw]; exact h K hK) AllReadyH.nil
/-- Two that may come up. -/
theorem ready_two {i j : Nat} {d e : Option Tmp} {oi oj : Oper} {fuel : Nat} {listed : Array Bool} {a : Act} {w : World} (hi : ops[i]? = some oi) (hd : oi.dst = d) (hw : Region.wanted oi (yielded ops a.tmps) = true) (hj : ops[j]? = some oj) (he : oj.dst = e) (hwj : Region.wanted oj (yielded ops a.tmps) = true)
    (h : ∀ K' : Act → World → Prop, Shut (∀ a w, S w → (S w → wpAnyH P md ops Q S fuel (listed.setIfInBounds i true) a w) → K' a w) → Oper.wp P { oi with dst := d } a w K' Q)
    (h2 : ∀ K' : Act → World → Prop, Shut (∀ a w, S w → (S w → wpAnyH P md ops Q S fuel (listed.setIfInBounds j true) a w) → K' a w) → Oper.wp P { oj with dst := e } a w K' Q) : AllReadyH P md ops Q S fuel listed a w [i, j] := by
  subst hd
  subst he
  exact AllReadyH.cons hi (fun K hK => by rw [if_pos hw]; exact h K hK) (AllReadyH.cons hj (fun K hK => by rw [if_pos hwj]; exact h2 K hK) AllReadyH.nil)
end

/-- Where a region ends that does not panic. -/
def RgPost (W : World) (df : List Deferred) (S : Array Value → Prop) : Exit → Act → World → Prop
  | .normal, a, w => w = W ∧ a.defers = df ∧ S a.tmps
  | _, _, _ => False
theorem RgPost.out {W w : World} {df : List Deferred} {S : Array Value → Prop} {e : Exit} {t : Array Value} {df' : List Deferred} (h : RgPost W df S e ⟨t, df'⟩ w) : e = .normal ∧ w = W ∧ df' = df ∧ S t := by
  cases e with
  | normal => exact ⟨rfl, h⟩
  | _ => exact h.elim

theorem FPost.from {c : Cx} {R d : Nat} {q : Option Pan} {m : Mst} {r : Res} {w w1 w' : World} {e : Ending} (h : FPost c R d q m r w1 e w') (hc : Chg c.base c.M R w w1) : FPost c R d q m r w e w' :=
  ⟨h.1, h.2.1, h.2.2.1, hc.trans h.2.2.2 (.inl rfl)⟩
set_option maxRecDepth 100000 in
theorem plain_call {c : Cx} {d R f : Nat} {n : Int} {q : Option Pan} {m m' : Mst} {r r' : Res} {w : World} (hi : Inv c d m w) (hr : RS R r w)
    (hF : ∀ w1, Inv c d m w1 → RS R r w1 → Calls Tryd.prog 29 #[.pointer (some ⟨c.M, 0, none⟩), .int .i64 f, .pointer (some ⟨R, 0, none⟩)] w1 (FPost c R d q m' r' w1)) :
    Calls Tryd.prog 28 #[.pointer (some ⟨c.M, 0, none⟩), spc 5 n f, .pointer (some ⟨R, 0, none⟩)] w (FPost c R d q m' r' w) := by
  have hb1 : Below w.heap.size w (w.alloc (.cells #[.int .u8 5, .int .i16 n, .int .i64 f, .int .i64 0] 27)) := (Below.refl _ _).alloc (Nat.le_refl _) _
  have hF1 := hF _ (hi.below hb1) (hr.below hb1)
  have HC := Lib.hid (Chg.of_below hb1 : Chg c.base c.M R w _)
  clear hi hr hF hb1
  unfold spc
  cases q with
  | none =>
    go_enter Tryd.func28, Tryd.ntmps28
    go_wp2_with (go_at_call 29; refine hF1.mono ?_; rintro e w' ⟨rfl, h2, h3, h4⟩)
    go_end0
    exact FPost.from ⟨rfl, h2, h3, h4⟩ HC.out
  | some p =>
    go_enter Tryd.func28, Tryd.ntmps28
    go_wp2_with (go_at_call 29; refine hF1.mono ?_; rintro e w' ⟨⟨v, older, rfl, hv, ho⟩, h2, h3, h4⟩)
    exact ⟨rfl, FPost.from ⟨⟨v, older, rfl, hv, ho⟩, h2, h3, h4⟩ HC.out⟩
set_option maxRecDepth 100000 in
theorem round_plain {kind : CallKind} {Q : Exit → Act → List Frame → World → Prop} {M f R mb at_ L cap SB k : Nat} {t : Array Value} {df : List Deferred} {w : World} {cs : List Frame} (h : Slots M f R mb at_ (.slice (some ⟨SB, 0, none⟩) L cap) t)
    (hat : (decide (at_ < L)) = true) (c0 : w.cell? ⟨mb, 0, none⟩ = some (.pointer (some ⟨M, 0, none⟩))) (hk : ((k : Int) == 10000) = false) (hk2 : k ≤ 10000) (c3 : w.cell? ⟨M, 3, none⟩ = some (.int .i64 k)) (c4 : w.cell? ⟨M, 4, none⟩ = some (.bool false)) (fM : ∀ i, w.frozen? ⟨M, i, none⟩ = false)
    (hne : M ≠ mb) (hne2 : M ≠ SB) (hL : L ≤ 1000000) {c : Cx} (hcM : c.M = M) {d op : Nat} {n : Int} {fi : Nat} {m' : Mst} {r' : Res} (h14 : ((op : Int) == 14) = false) (h15 : ((op : Int) == 15) = false) (h16 : ((op : Int) == 16) = false) (h6 : ((op : Int) == 6) = false) (h7 : ((op : Int) == 7) = false) (h11 : ((op : Int) == 11) = false) (h4 : ((op : Int) == 4) = false)
    (hp : Calls Tryd.prog 28 #[.pointer (some ⟨M, 0, none⟩), spc op n fi, .pointer (some ⟨R, 0, none⟩)] ((w.setCell ⟨M, 3, none⟩ (.int .i64 ((k : Int) + 1))).alloc (.cells #[.int .u8 op, .int .i16 n, .int .i64 fi, .int .i64 0] 27)) (FPost c R d none m' r' ((w.setCell ⟨M, 3, none⟩ (.int .i64 ((k : Int) + 1))).alloc (.cells #[.int .u8 op, .int .i16 n, .int .i64 fi, .int .i64 0] 27))))
    (g0 : w.cell? ⟨SB, at_ * 4, none⟩ = some (.int .u8 op)) (g1 : w.cell? ⟨SB, at_ * 4 + 1, none⟩ = some (.int .i16 n)) (g2 : w.cell? ⟨SB, at_ * 4 + 2, none⟩ = some (.int .i64 fi)) (g3 : w.cell? ⟨SB, at_ * 4 + 3, none⟩ = some (.int .i64 0))
    (hq : ∀ t' W, Slots M f R mb (at_ + 1) (.slice (some ⟨SB, 0, none⟩) L cap) t' → FPost c R d none m' r' ((w.setCell ⟨M, 3, none⟩ (.int .i64 ((k : Int) + 1))).alloc (.cells #[.int .u8 op, .int .i16 n, .int .i64 fi, .int .i64 0] 27)) (.returned (.tuple #[])) W → Q .normal ⟨t', df⟩ cs W) : (loopOf Tryd.f23).wpK Tryd.prog kind Q ⟨t, df⟩ cs w := by
  obtain ⟨U, rfl⟩ := h.lit
  have hne' : ¬ mb = M := fun e => hne e.symm
  have hlt : at_ < L := of_decide_eq_true hat
  have hmbl : mb < w.heap.size := block_lt c0
  have hMl : M < w.heap.size := block_lt c3
  have hmbn : ¬ mb = w.heap.size := by omega
  have hMn : ¬ M = w.heap.size := by omega
  unfold spc at hp
  change Code.wpK Tryd.prog kind (.seq _ (.block 1 _)) Q _ cs w
  refine wpK_of_wp ?_
  go_wp2_with (go_at_call 28; refine hp.mono ?_; rintro e w' ⟨rfl, h2, h3, h4⟩; have H2 := Lib.hid (And.intro h2 (And.intro h3 h4)); clear h2 h3 h4)
  refine hq _ _ ?_ ?_
  · exact ⟨rfl, rfl, rfl, rfl, rfl, rfl, rfl⟩
  · exact ⟨rfl, H2.out.1, H2.out.2.1, H2.out.2.2⟩


set_option maxRecDepth 100000 in
theorem round_panic {kind : CallKind} {Q : Exit → Act → List Frame → World → Prop} {M f R mb at_ L cap SB k : Nat} {t : Array Value} {df : List Deferred} {w : World} {cs : List Frame} (h : Slots M f R mb at_ (.slice (some ⟨SB, 0, none⟩) L cap) t)
    (hat : (decide (at_ < L)) = true) (c0 : w.cell? ⟨mb, 0, none⟩ = some (.pointer (some ⟨M, 0, none⟩))) (hk : ((k : Int) == 10000) = false) (hk2 : k ≤ 10000) (c3 : w.cell? ⟨M, 3, none⟩ = some (.int .i64 k)) (c4 : w.cell? ⟨M, 4, none⟩ = some (.bool false)) (fM : ∀ i, w.frozen? ⟨M, i, none⟩ = false)
    (hne : M ≠ mb) (hne2 : M ≠ SB) (hL : L ≤ 1000000) {c : Cx} (hcM : c.M = M) {d op : Nat} {n : Int} {fi : Nat} {m' : Mst} {r' : Res} {p : Pan} (h14 : ((op : Int) == 14) = false) (h15 : ((op : Int) == 15) = false) (h16 : ((op : Int) == 16) = false) (h6 : ((op : Int) == 6) = false) (h7 : ((op : Int) == 7) = false) (h11 : ((op : Int) == 11) = false) (h4 : ((op : Int) == 4) = false)
    (hp : Calls Tryd.prog 28 #[.pointer (some ⟨M, 0, none⟩), spc op n fi, .pointer (some ⟨R, 0, none⟩)] ((w.setCell ⟨M, 3, none⟩ (.int .i64 ((k : Int) + 1))).alloc (.cells #[.int .u8 op, .int .i16 n, .int .i64 fi, .int .i64 0] 27)) (FPost c R d (some p) m' r' ((w.setCell ⟨M, 3, none⟩ (.int .i64 ((k : Int) + 1))).alloc (.cells #[.int .u8 op, .int .i16 n, .int .i64 fi, .int .i64 0] 27))))
    (g0 : w.cell? ⟨SB, at_ * 4, none⟩ = some (.int .u8 op)) (g1 : w.cell? ⟨SB, at_ * 4 + 1, none⟩ = some (.int .i16 n)) (g2 : w.cell? ⟨SB, at_ * 4 + 2, none⟩ = some (.int .i64 fi)) (g3 : w.cell? ⟨SB, at_ * 4 + 3, none⟩ = some (.int .i64 0))
    (hq : ∀ t' chain W, FPost c R d (some p) m' r' ((w.setCell ⟨M, 3, none⟩ (.int .i64 ((k : Int) + 1))).alloc (.cells #[.int .u8 op, .int .i16 n, .int .i64 fi, .int .i64 0] 27)) (.panicked chain) W → Q (.panic chain) ⟨t', df⟩ cs W) : (loopOf Tryd.f23).wpK Tryd.prog kind Q ⟨t, df⟩ cs w := by
  obtain ⟨U, rfl⟩ := h.lit
  have hne' : ¬ mb = M := fun e => hne e.symm
  have hlt : at_ < L := of_decide_eq_true hat
  have hmbl : mb < w.heap.size := block_lt c0
  have hMl : M < w.heap.size := block_lt c3
  have hmbn : ¬ mb = w.heap.size := by omega
  have hMn : ¬ M = w.heap.size := by omega
  unfold spc at hp
  change Code.wpK Tryd.prog kind (.seq _ (.block 1 _)) Q _ cs w
  refine wpK_of_wp ?_
  go_wp2_with (go_at_call 28; refine hp.mono ?_; rintro e w' ⟨⟨v, older, rfl, hv, ho⟩, h2, h3, h4⟩; have H2 := Lib.hid (And.intro h2 (And.intro h3 h4)); clear h2 h3 h4)
  exact ⟨⟨v, older, rfl, hv, ho⟩, H2.out.1, H2.out.2.1, H2.out.2.2⟩


set_option maxHeartbeats 4000000 in
set_option maxRecDepth 100000 in
theorem round_tell {kind : CallKind} {Q : Exit → Act → List Frame → World → Prop} {M f R mb at_ L cap SB k : Nat} {t : Array Value} {df : List Deferred} {w : World} {cs : List Frame} (h : Slots M f R mb at_ (.slice (some ⟨SB, 0, none⟩) L cap) t)
    (hat : (decide (at_ < L)) = true) (c0 : w.cell? ⟨mb, 0, none⟩ = some (.pointer (some ⟨M, 0, none⟩))) (hk : ((k : Int) == 10000) = false) (hk2 : k ≤ 10000) (c3 : w.cell? ⟨M, 3, none⟩ = some (.int .i64 k)) (c4 : w.cell? ⟨M, 4, none⟩ = some (.bool false)) (fM : ∀ i, w.frozen? ⟨M, i, none⟩ = false)
    (hne : M ≠ mb) (hne2 : M ≠ SB) (hL : L ≤ 1000000) {n : Int} {fi : Nat} {x : Int} (hRM : M ≠ R) (hRb : mb ≠ R) {ov : Value} {va : Option Addr} {vn vc : Nat} {w3 : World} (c5 : w.cell? ⟨M, 5, none⟩ = some ov) (r0 : w.cell? ⟨R, 0, none⟩ = some (.int .i16 x)) (r1 : w.cell? ⟨R, 1, none⟩ = some (.int .i64 0))
    (happ : (Builtin.append_ #[30, 30] 30 #[ov, .slice (some ⟨w.heap.size + 1, 0, none⟩) 1 1]).run Tryd.prog ((((w.setCell ⟨M, 3, none⟩ (.int .i64 ((k : Int) + 1))).alloc (.cells #[.int .u8 4, .int .i16 n, .int .i64 fi, .int .i64 0] 27)).alloc (.cells #[.int .i64 f, .int .i64 at_, .int .i16 x, .int .i64 0, .int .i64 0, .string ⟨#[]⟩, .int .i64 0] 38)).drew) = .ok (.slice va vn vc) w3) (k0 : w3.cell? ⟨mb, 0, none⟩ = some (.pointer (some ⟨M, 0, none⟩))) (k5 : w3.cell? ⟨M, 5, none⟩ = some ov) (k6 : w3.frozen? ⟨M, 5, none⟩ = false) (q0 : w3.cell? ⟨R, 0, none⟩ = some (.int .i16 x)) (q1 : w3.cell? ⟨R, 1, none⟩ = some (.int .i64 0))
    (g0 : w.cell? ⟨SB, at_ * 4, none⟩ = some (.int .u8 4)) (g1 : w.cell? ⟨SB, at_ * 4 + 1, none⟩ = some (.int .i16 n)) (g2 : w.cell? ⟨SB, at_ * 4 + 2, none⟩ = some (.int .i64 fi)) (g3 : w.cell? ⟨SB, at_ * 4 + 3, none⟩ = some (.int .i64 0))
    (hq : ∀ t', Slots M f R mb (at_ + 1) (.slice (some ⟨SB, 0, none⟩) L cap) t' → Q .normal ⟨t', df⟩ cs (w3.setCell ⟨M, 5, none⟩ (.slice va vn vc))) : (loopOf Tryd.f23).wpK Tryd.prog kind Q ⟨t, df⟩ cs w := by
  obtain ⟨U, rfl⟩ := h.lit
  have hne' : ¬ mb = M := fun e => hne e.symm
  have hlt : at_ < L := of_decide_eq_true hat
  have hmbl : mb < w.heap.size := block_lt c0
  have hMl : M < w.heap.size := block_lt c3
  have hmbn : ¬ mb = w.heap.size := by omega
  have hMn : ¬ M = w.heap.size := by omega
  have hRl : R < w.heap.size := block_lt r0
  have hRn : ¬ R = w.heap.size := by omega
  have hRn2 : ¬ R = w.heap.size + 1 := by omega
  have hmbn2 : ¬ mb = w.heap.size + 1 := by omega
  have hMn2 : ¬ M = w.heap.size + 1 := by omega
  have hmbR : ¬ R = mb := fun e => hRb e.symm
  have hRM' : ¬ R = M := fun e => hRM e.symm
  have HQ := Lib.hid hq
  clear hq
  change Code.wpK Tryd.prog kind (.seq _ (.block 1 _)) Q _ cs w
  refine wpK_of_wp ?_
  go_upto_region 29 with fail
  refine wp_mono (Q := RgPost (w3.setCell ⟨M, 5, none⟩ (.slice va vn vc)) df fun t => ∃ u, Slots9 M f R mb at_ (.slice (some ⟨SB, 0, none⟩) L cap) u t) ?_ ?_
  · refine wp_region_held_drew (S := fun w' => w'.cell? ⟨mb, 0, none⟩ = some (.pointer (some ⟨M, 0, none⟩)) ∧ w'.cell? ⟨R, 0, none⟩ = some (.int .i16 x) ∧ w'.cell? ⟨R, 1, none⟩ = some (.int .i64 0)) (by kernel_rfl) (by first | (go_keep; done) | (refine ⟨?_, ?_, ?_⟩ <;> (go_simp; done))) (fun hHeld => ?_)
    refine take_at (i := 0) (d := (some 122)) (v := ?_) rfl rfl (by kernel_rfl) (by kernel_rfl) (by kernel_rfl) (fun _ _ _ h => h) (Or.inl ⟨by rfl, fun w hSw => ?_⟩) hHeld ?_
    rotate_left
    · (try dsimp only at hSw); go_simp; try with_reducible rfl
    try simp only [Act.put, List.setIfInBounds_toArray, List.set_cons_zero, List.set_cons_succ]
    refine take_at (i := 1) (d := (some 123)) (v := ?_) rfl rfl (by kernel_rfl) (by kernel_rfl) (by kernel_rfl) (fun _ _ _ h => h) (Or.inl ⟨by rfl, fun w hSw => ?_⟩) hHeld ?_
    rotate_left
    · (try dsimp only at hSw); go_simp; try with_reducible rfl
    try simp only [Act.put, List.setIfInBounds_toArray, List.set_cons_zero, List.set_cons_succ]
    refine take_at (i := 2) (d := (some 124)) (v := ?_) rfl rfl (by kernel_rfl) (by kernel_rfl) (by kernel_rfl) (fun _ _ _ h => h) (Or.inl ⟨by rfl, fun w hSw => ?_⟩) hHeld ?_
    rotate_left
    · (try dsimp only at hSw); go_simp; try with_reducible rfl
    try simp only [Act.put, List.setIfInBounds_toArray, List.set_cons_zero, List.set_cons_succ]
    refine take_at (i := 3) (d := (some 125)) (v := ?_) rfl rfl (by kernel_rfl) (by kernel_rfl) (by kernel_rfl) (fun _ _ _ h => h) (Or.inl ⟨by rfl, fun w hSw => ?_⟩) hHeld ?_
    rotate_left
    · (try dsimp only at hSw); go_simp; try with_reducible rfl
    try simp only [Act.put, List.setIfInBounds_toArray, List.set_cons_zero, List.set_cons_succ]
    refine take_at (i := 5) (d := (some 127)) (v := ?_) rfl rfl (by kernel_rfl) (by kernel_rfl) (by kernel_rfl) (fun _ _ _ h => h) (Or.inl ⟨by rfl, fun w hSw => ?_⟩) hHeld ?_
    rotate_left
    · (try dsimp only at hSw); go_simp; try with_reducible rfl
    try simp only [Act.put, List.setIfInBounds_toArray, List.set_cons_zero, List.set_cons_succ]
    refine take_at (i := 6) (d := (some 128)) (v := ?_) rfl rfl (by kernel_rfl) (by kernel_rfl) (by kernel_rfl) (fun _ _ _ h => h) (Or.inl ⟨by rfl, fun w hSw => ?_⟩) hHeld ?_
    rotate_left
    · (try dsimp only at hSw); go_simp; try with_reducible rfl
    try simp only [Act.put, List.setIfInBounds_toArray, List.set_cons_zero, List.set_cons_succ]
    refine take_at (i := 7) (d := (some 129)) (v := ?_) rfl rfl (by kernel_rfl) (by kernel_rfl) (by kernel_rfl) (fun _ _ _ h => h) (Or.inl ⟨by rfl, fun w hSw => ?_⟩) hHeld ?_
    rotate_left
    · (try dsimp only at hSw); go_simp; try with_reducible rfl
    try simp only [Act.put, List.setIfInBounds_toArray, List.set_cons_zero, List.set_cons_succ]
    refine take_at (i := 8) (d := (some 130)) (v := ?_) rfl rfl (by kernel_rfl) (by kernel_rfl) (by kernel_rfl) (fun _ _ _ h => h) (Or.inl ⟨by rfl, fun w hSw => ?_⟩) hHeld ?_
    rotate_left
    · (try dsimp only at hSw); go_simp; try with_reducible rfl
    try simp only [Act.put, List.setIfInBounds_toArray, List.set_cons_zero, List.set_cons_succ]
    refine take_at (i := 9) (d := (some 131)) (v := ?_) rfl rfl (by kernel_rfl) (by kernel_rfl) (by kernel_rfl) (fun _ _ _ h => h) (Or.inl ⟨by rfl, fun w hSw => ?_⟩) hHeld ?_
    rotate_left
    · (try dsimp only at hSw); go_simp; try with_reducible rfl
    try simp only [Act.put, List.setIfInBounds_toArray, List.set_cons_zero, List.set_cons_succ]
    refine take_at (i := 10) (d := (some 132)) (v := ?_) rfl rfl (by kernel_rfl) (by kernel_rfl) (by kernel_rfl) (fun _ _ _ h => h) (Or.inl ⟨by rfl, fun w hSw => ?_⟩) hHeld ?_
    rotate_left
    · (try dsimp only at hSw); go_simp; try with_reducible rfl
    try simp only [Act.put, List.setIfInBounds_toArray, List.set_cons_zero, List.set_cons_succ]
    refine take_at (i := 11) (d := (some 133)) (v := ?_) rfl rfl (by kernel_rfl) (by kernel_rfl) (by kernel_rfl) (fun _ _ _ h => h) (Or.inl ⟨by rfl, fun w hSw => ?_⟩) hHeld ?_
    rotate_left
    · (try dsimp only at hSw); go_simp; try with_reducible rfl
    try simp only [Act.put, List.setIfInBounds_toArray, List.set_cons_zero, List.set_cons_succ]
    refine take_at (i := 12) (d := (some 134)) (v := ?_) rfl rfl (by kernel_rfl) (by kernel_rfl) (by kernel_rfl) (fun _ _ _ h => h) (Or.inl ⟨by rfl, fun w hSw => ?_⟩) hHeld ?_
    rotate_left
    · (try dsimp only at hSw); go_simp; try with_reducible rfl
    try simp only [Act.put, List.setIfInBounds_toArray, List.set_cons_zero, List.set_cons_succ]
    refine take_at (i := 13) (d := (some 135)) (v := ?_) rfl rfl (by kernel_rfl) (by kernel_rfl) (by kernel_rfl) (fun _ _ _ h => h) (Or.inl ⟨by rfl, fun w hSw => ?_⟩) hHeld ?_
    rotate_left
    · (try dsimp only at hSw); go_simp; try with_reducible rfl
    try simp only [Act.put, List.setIfInBounds_toArray, List.set_cons_zero, List.set_cons_succ]
    refine take_at (i := 14) (d := (some 136)) (v := ?_) rfl rfl (by kernel_rfl) (by kernel_rfl) (by kernel_rfl) (fun _ _ _ h => h) (Or.inl ⟨by rfl, fun w hSw => ?_⟩) hHeld ?_
    rotate_left
    · (try dsimp only at hSw); go_simp; try with_reducible rfl
    try simp only [Act.put, List.setIfInBounds_toArray, List.set_cons_zero, List.set_cons_succ]
    refine take_at (i := 15) (d := (some 137)) (v := ?_) rfl rfl (by kernel_rfl) (by kernel_rfl) (by kernel_rfl) (fun _ _ _ h => h) (Or.inl ⟨by rfl, fun w hSw => ?_⟩) hHeld ?_
    rotate_left
    · (try dsimp only at hSw); go_simp; try with_reducible rfl
    try simp only [Act.put, List.setIfInBounds_toArray, List.set_cons_zero, List.set_cons_succ]
    refine wpAnyH_ready (rs := [4, 16]) (by kernel_rfl) (by simp) ?_
    refine ready_two (d := (some 126)) (e := (some 138)) rfl rfl (by rfl) rfl rfl (by rfl) (fun K hK => ?_) (fun K hK => ?_)
    · go_simp
      refine hK.out _ _ (by first | exact hHeld | (go_keep; done) | (refine ⟨?_, ?_, ?_⟩ <;> (go_simp; done))) (fun hHeld2 => ?_)
      clear hK K hHeld
      have hHeld := hHeld2
      clear hHeld2
      try simp only [Act.put, List.setIfInBounds_toArray, List.set_cons_zero, List.set_cons_succ]
      refine wpAnyH_ready (rs := [16]) (by kernel_rfl) (by simp) ?_
      refine ready_at (d := (some 138)) rfl rfl (by rfl) (fun K hK => ?_)
      go_simp
      refine hK.out _ _ (by first | exact hHeld | (go_keep; done) | (refine ⟨?_, ?_, ?_⟩ <;> (go_simp; done))) (fun hHeld2 => ?_)
      clear hK K hHeld
      have hHeld := hHeld2
      clear hHeld2
      try simp only [Act.put, List.setIfInBounds_toArray, List.set_cons_zero, List.set_cons_succ]
      refine wpAnyH_ready (rs := [17]) (by kernel_rfl) (by simp) ?_
      refine ready_at (d := (some 139)) rfl rfl (by rfl) (fun K hK => ?_)
      refine append_wp (.tmp 126) (.tmp 138) 30 rfl _ _ (.slice va vn vc) w3 rfl rfl happ ?_
      refine hK.out _ _ (⟨k0, q0, q1⟩) (fun hHeld2 => ?_)
      clear hK K hHeld
      have hHeld := hHeld2
      clear hHeld2
      try simp only [Act.put, List.setIfInBounds_toArray, List.set_cons_zero, List.set_cons_succ]
      refine take_at (i := 18) (d := (some 140)) (v := ?_) rfl rfl (by kernel_rfl) (by kernel_rfl) (by kernel_rfl) (fun _ _ _ h => h) (Or.inl ⟨by rfl, fun w hSw => ?_⟩) hHeld ?_
      rotate_left
      · (try dsimp only at hSw); go_simp; try with_reducible rfl
      try simp only [Act.put, List.setIfInBounds_toArray, List.set_cons_zero, List.set_cons_succ]
      refine take_at (i := 19) (d := (some 141)) (v := ?_) rfl rfl (by kernel_rfl) (by kernel_rfl) (by kernel_rfl) (fun _ _ _ h => h) (Or.inl ⟨by rfl, fun w hSw => ?_⟩) hHeld ?_
      rotate_left
      · (try dsimp only at hSw); go_simp; try with_reducible rfl
      try simp only [Act.put, List.setIfInBounds_toArray, List.set_cons_zero, List.set_cons_succ]
      refine wpAnyH_ready (rs := [20]) (by kernel_rfl) (by simp) ?_
      refine ready_at (d := none) rfl rfl (by rfl) (fun K hK => ?_)
      go_simp
      refine hK.out _ _ (by first | exact hHeld | (go_keep; done) | (refine ⟨?_, ?_, ?_⟩ <;> (go_simp; done))) (fun hHeld2 => ?_)
      clear hK K hHeld
      have hHeld := hHeld2
      clear hHeld2
      try simp only [Act.put, List.setIfInBounds_toArray, List.set_cons_zero, List.set_cons_succ]
      refine wpAnyH_done (by kernel_rfl) ?_ _
      exact ⟨rfl, rfl, _, ⟨rfl, rfl, rfl, rfl, rfl, rfl, rfl⟩, rfl, rfl⟩
    · go_simp
      refine hK.out _ _ (by first | exact hHeld | (go_keep; done) | (refine ⟨?_, ?_, ?_⟩ <;> (go_simp; done))) (fun hHeld2 => ?_)
      clear hK K hHeld
      have hHeld := hHeld2
      clear hHeld2
      try simp only [Act.put, List.setIfInBounds_toArray, List.set_cons_zero, List.set_cons_succ]
      refine wpAnyH_ready (rs := [4]) (by kernel_rfl) (by simp) ?_
      refine ready_at (d := (some 126)) rfl rfl (by rfl) (fun K hK => ?_)
      go_simp
      refine hK.out _ _ (by first | exact hHeld | (go_keep; done) | (refine ⟨?_, ?_, ?_⟩ <;> (go_simp; done))) (fun hHeld2 => ?_)
      clear hK K hHeld
      have hHeld := hHeld2
      clear hHeld2
      try simp only [Act.put, List.setIfInBounds_toArray, List.set_cons_zero, List.set_cons_succ]
      refine wpAnyH_ready (rs := [17]) (by kernel_rfl) (by simp) ?_
      refine ready_at (d := (some 139)) rfl rfl (by rfl) (fun K hK => ?_)
      refine append_wp (.tmp 126) (.tmp 138) 30 rfl _ _ (.slice va vn vc) w3 rfl rfl happ ?_
      refine hK.out _ _ (⟨k0, q0, q1⟩) (fun hHeld2 => ?_)
      clear hK K hHeld
      have hHeld := hHeld2
      clear hHeld2
      try simp only [Act.put, List.setIfInBounds_toArray, List.set_cons_zero, List.set_cons_succ]
      refine take_at (i := 18) (d := (some 140)) (v := ?_) rfl rfl (by kernel_rfl) (by kernel_rfl) (by kernel_rfl) (fun _ _ _ h => h) (Or.inl ⟨by rfl, fun w hSw => ?_⟩) hHeld ?_
      rotate_left
      · (try dsimp only at hSw); go_simp; try with_reducible rfl
      try simp only [Act.put, List.setIfInBounds_toArray, List.set_cons_zero, List.set_cons_succ]
      refine take_at (i := 19) (d := (some 141)) (v := ?_) rfl rfl (by kernel_rfl) (by kernel_rfl) (by kernel_rfl) (fun _ _ _ h => h) (Or.inl ⟨by rfl, fun w hSw => ?_⟩) hHeld ?_
      rotate_left
      · (try dsimp only at hSw); go_simp; try with_reducible rfl
      try simp only [Act.put, List.setIfInBounds_toArray, List.set_cons_zero, List.set_cons_succ]
      refine wpAnyH_ready (rs := [20]) (by kernel_rfl) (by simp) ?_
      refine ready_at (d := none) rfl rfl (by rfl) (fun K hK => ?_)
      go_simp
      refine hK.out _ _ (by first | exact hHeld | (go_keep; done) | (refine ⟨?_, ?_, ?_⟩ <;> (go_simp; done))) (fun hHeld2 => ?_)
      clear hK K hHeld
      have hHeld := hHeld2
      clear hHeld2
      try simp only [Act.put, List.setIfInBounds_toArray, List.set_cons_zero, List.set_cons_succ]
      refine wpAnyH_done (by kernel_rfl) ?_ _
      exact ⟨rfl, rfl, _, ⟨rfl, rfl, rfl, rfl, rfl, rfl, rfl⟩, rfl, rfl⟩
  · intro e ⟨t', df'⟩ w' hr
    obtain ⟨rfl, rfl, rfl, u, hs⟩ := hr.out
    obtain ⟨U', rfl⟩ := hs.lit
    go_wp2
    refine HQ.out _ ?_
    exact ⟨rfl, rfl, rfl, rfl, rfl, rfl, rfl⟩

end Go.Proofs.YtokfnlfadofmnaaDoor
