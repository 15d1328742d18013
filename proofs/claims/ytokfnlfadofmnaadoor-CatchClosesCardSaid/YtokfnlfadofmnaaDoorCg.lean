/- catch: the round of a frame that recovers. -/
import Derived.Test.YtokfnlfadofmnaaDoorCf
namespace Go
set_option linter.unusedVariables false
section
variable {P : Program} {kind : CallKind} {ops : Array Oper} {Q : Exit → Act → List Frame → World → Prop} {a : Act} {cs cs' : List Frame} {w : World}
/-- One operation of a region that is no 'recover'. -/
theorem wpOpsK_op {i : Nat} {rest : List Nat} {oi : Oper} (ho : ops[i]? = some oi) (hw : Region.wanted oi (yielded ops a.tmps) = true)
    (h : ∀ K : Act → World → Prop, Shut (∀ a w, wpOpsK P kind ops Q rest a cs w → K a w) → Oper.wp P oi a w K (fun e a' w' => Q e a' cs w')) : wpOpsK P kind ops Q (i :: rest) a cs w := by
  have h1 := h (fun a w => wpOpsK P kind ops Q rest a cs w) (fun _ _ h => h)
  simp only [wpOpsK, ho, hw, if_true]
  unfold Oper.wp at h1
  split
  · rename_i w' hr
    rw [hr] at h1
    exact h1.elim
  · exact h1
theorem wpOpsK_some {i : Nat} {rest : List Nat} {oi : Oper} {v : Value} (ho : ops[i]? = some oi) (hw : Region.wanted oi (yielded ops a.tmps) = true) (hr : (execOp a.eval oi).run P w = .ok .recover w) (hc : recK kind cs = some (v, cs'))
    (h : wpOpsK P kind ops Q rest (a.put oi.dst v) cs' w) : wpOpsK P kind ops Q (i :: rest) a cs w := by
  simp only [wpOpsK, ho, hw, if_true, hr, hc]
  exact h
theorem wpOpsK_none {i : Nat} {rest : List Nat} {oi : Oper} (ho : ops[i]? = some oi) (hw : Region.wanted oi (yielded ops a.tmps) = true) (hr : (execOp a.eval oi).run P w = .ok .recover w) (hc : recK kind cs = none)
    (h : wpOpsK P kind ops Q rest (a.put oi.dst .nilIface) cs w) : wpOpsK P kind ops Q (i :: rest) a cs w := by
  simp only [wpOpsK, ho, hw, if_true, hr, hc]
  exact h
end
end Go
namespace Go.Proofs.YtokfnlfadofmnaaDoor
open Go.RowKit
set_option linter.unusedVariables false

/-- Where a region ends that does not panic; of the world something is told. -/
def RgP (df : List Deferred) (S : Array Value → World → Prop) : Exit → Act → World → Prop
  | .normal, a, w => a.defers = df ∧ S a.tmps w
  | _, _, _ => False
theorem RgP.out {w : World} {df : List Deferred} {S : Array Value → World → Prop} {e : Exit} {t : Array Value} {df' : List Deferred} (h : RgP df S e ⟨t, df'⟩ w) : e = .normal ∧ df' = df ∧ S t w := by
  cases e with
  | normal => exact ⟨rfl, h⟩
  | _ => exact h.elim

/-- What 'recover' answers, and the frames beneath behind it. -/
def Recs (kind : CallKind) (cs cs' : List Frame) (v : Value) (p : Pan) : Prop := (recK kind cs = some (v, cs') ∧ VP v p) ∨ (recK kind cs = none ∧ cs' = cs ∧ v = .nilIface ∧ p = Pan.none)
theorem Recs.val {kind : CallKind} {cs cs' : List Frame} {v : Value} {p : Pan} (h : Recs kind cs cs' v p) : TVal v p := by
  rcases h with ⟨_, h⟩ | ⟨_, _, h, h'⟩
  · exact .inl h
  · exact .inr ⟨h, h'⟩
theorem Recs.op {P : Program} {kind : CallKind} {ops : Array Oper} {Q : Exit → Act → List Frame → World → Prop} {a : Act} {cs cs' : List Frame} {w : World} {v : Value} {p : Pan} {i : Nat} {d : Option Tmp} {rest : List Nat} {oi : Oper} (h : Recs kind cs cs' v p)
    (ho : ops[i]? = some oi) (hd : oi.dst = d) (hw : Region.wanted oi (yielded ops a.tmps) = true) (hr : (execOp a.eval oi).run P w = .ok .recover w)
    (hn : wpOpsK P kind ops Q rest (a.put d v) cs' w) : wpOpsK P kind ops Q (i :: rest) a cs w := by
  subst hd
  rcases h with ⟨h, _⟩ | ⟨h, rfl, rfl, _⟩
  · exact wpOpsK_some ho hw hr h hn
  · exact wpOpsK_none ho hw hr h hn

set_option maxHeartbeats 4000000 in
set_option maxRecDepth 100000 in
theorem round_recover {kind : CallKind} {Q : Exit → Act → List Frame → World → Prop} {M f R mb at_ L cap SB k : Nat} {t : Array Value} {df : List Deferred} {w : World} {cs : List Frame} (h : Slots M f R mb at_ (.slice (some ⟨SB, 0, none⟩) L cap) t)
    (hat : (decide (at_ < L)) = true) (c0 : w.cell? ⟨mb, 0, none⟩ = some (.pointer (some ⟨M, 0, none⟩))) (hk : ((k : Int) == 10000) = false) (hk2 : k ≤ 10000) (c3 : w.cell? ⟨M, 3, none⟩ = some (.int .i64 k)) (c4 : w.cell? ⟨M, 4, none⟩ = some (.bool false)) (fM : ∀ i, w.frozen? ⟨M, i, none⟩ = false)
    (hne : M ≠ mb) (hne2 : M ≠ SB) (hL : L ≤ 1000000) {n : Int} {fi : Nat} {x xs : Int} {xw : ByteArray} (hRM : M ≠ R) (hRb : mb ≠ R) (hkd0 : kind = .normal ∨ kind = .deferred) {v : Value} {p : Pan} {cs' : List Frame} (hrec : Recs kind cs cs' v p) (r0 : w.cell? ⟨R, 0, none⟩ = some (.int .i16 x))
    (g0 : w.cell? ⟨SB, at_ * 4, none⟩ = some (.int .u8 11)) (g1 : w.cell? ⟨SB, at_ * 4 + 1, none⟩ = some (.int .i16 n)) (g2 : w.cell? ⟨SB, at_ * 4 + 2, none⟩ = some (.int .i64 fi)) (g3 : w.cell? ⟨SB, at_ * 4 + 3, none⟩ = some (.int .i64 0))
    (hnext : ∀ w2, Below (((w.setCell ⟨M, 3, none⟩ (.int .i64 ((k : Int) + 1))).alloc (.cells #[.int .u8 11, .int .i16 n, .int .i64 fi, .int .i64 0] 27))).heap.size ((w.setCell ⟨M, 3, none⟩ (.int .i64 ((k : Int) + 1))).alloc (.cells #[.int .u8 11, .int .i16 n, .int .i64 fi, .int .i64 0] 27)) w2 → ∃ (ov : Value) (va : Option Addr) (vn vc : Nat) (w3 : World), w2.cell? ⟨mb, 0, none⟩ = some (.pointer (some ⟨M, 0, none⟩)) ∧ w2.cell? ⟨M, 5, none⟩ = some ov ∧
      (Builtin.append_ #[30, 30] 30 #[ov, .slice (some ⟨w2.heap.size + 1, 0, none⟩) 1 1]).run Tryd.prog (((w2.alloc (.cells #[.int .i64 p.sort, .string p.word, .int .i64 0] 29)).alloc (.cells #[.int .i64 f, .int .i64 at_, .int .i16 0, .int .i64 0, .int .i64 p.sort, .string p.word, .int .i64 0] 38)).drew) = .ok (.slice va vn vc) w3 ∧
      w3.cell? ⟨mb, 0, none⟩ = some (.pointer (some ⟨M, 0, none⟩)) ∧ w3.cell? ⟨M, 5, none⟩ = some ov ∧ w3.frozen? ⟨M, 5, none⟩ = false ∧ w3.cell? ⟨w2.heap.size, 0, none⟩ = some (.int .i64 p.sort) ∧ w3.cell? ⟨w2.heap.size, 1, none⟩ = some (.string p.word) ∧ w3.cell? ⟨w2.heap.size, 2, none⟩ = some (.int .i64 0) ∧
      w3.cell? ⟨R, 0, none⟩ = some (.int .i16 x) ∧ w3.cell? ⟨R, 1, none⟩ = some (.int .i64 0) ∧ w3.cell? ⟨R, 2, none⟩ = some (.int .i64 xs) ∧ w3.cell? ⟨R, 3, none⟩ = some (.string xw) ∧ w3.cell? ⟨R, 4, none⟩ = some (.int .i64 0) ∧ M ≠ w2.heap.size ∧ mb ≠ w2.heap.size ∧ R ≠ w2.heap.size ∧ (∀ i, w3.frozen? ⟨R, i, none⟩ = false) ∧
      ((p.sort != 0) = false → ∀ t', Slots M f R mb (at_ + 1) (.slice (some ⟨SB, 0, none⟩) L cap) t' → Q .normal ⟨t', df⟩ cs' (w3.setCell ⟨M, 5, none⟩ (.slice va vn vc))) ∧ ((p.sort != 0) = true → ∀ t', Slots M f R mb (at_ + 1) (.slice (some ⟨SB, 0, none⟩) L cap) t' → Q .normal ⟨t', df⟩ cs' (((((w3.setCell ⟨M, 5, none⟩ (.slice va vn vc)).setCell ⟨R, 2, none⟩ (.int .i64 p.sort)).setCell ⟨R, 3, none⟩ (.string p.word)).setCell ⟨R, 4, none⟩ (.int .i64 0)).setCell ⟨R, 1, none⟩ (.int .i64 0)).drew)) : (loopOf Tryd.f23).wpK Tryd.prog kind Q ⟨t, df⟩ cs w := by
  obtain ⟨U, rfl⟩ := h.lit
  have hne' : ¬ mb = M := fun e => hne e.symm
  have hlt : at_ < L := of_decide_eq_true hat
  have hmbl : mb < w.heap.size := block_lt c0
  have hMl : M < w.heap.size := block_lt c3
  have hmbn : ¬ mb = w.heap.size := by omega
  have hMn : ¬ M = w.heap.size := by omega
  have hRl : R < w.heap.size := block_lt r0
  have hkd := hkd0
  change Code.wpK Tryd.prog kind (.seq _ (.block 1 _)) Q _ cs w
  refine wpK_seq_wp ?_
  go_wp2
  refine wpK_block ?_
  refine wpK_seq_wp ?_
  go_wp2
  refine wpK_seq_wp ?_
  go_wp2
  refine wpK_seq_wp ?_
  go_wp2
  refine wpK_seq_wp ?_
  go_wp2
  refine wpK_seq ?_
  refine wpK_seq_wp ?_
  go_wp2
  refine wpK_block ?_
  refine wpK_seq_wp ?_
  go_wp2
  refine wpK_cond (t := false) rfl ?_
  refine wpK_seq_wp ?_
  go_wp2
  refine wpK_cond (t := false) rfl ?_
  refine wpK_seq_wp ?_
  go_wp2
  refine wpK_cond (t := false) rfl ?_
  refine wpK_seq_wp ?_
  go_wp2
  refine wpK_cond (t := false) rfl ?_
  refine wpK_seq_wp ?_
  go_wp2
  refine wpK_cond (t := false) rfl ?_
  refine wpK_seq_wp ?_
  go_wp2
  refine wpK_cond (t := true) rfl ?_
  rw [if_pos rfl]
  refine wpK_seq ?_
  refine wpK_region hkd ?_
  change wpOpsK _ _ _ _ [0, 1, 2, 3] _ _ _
  refine hrec.op (d := some 93) rfl rfl (by rfl) (by rfl) ?_
  try simp only [Act.put, List.setIfInBounds_toArray, List.set_cons_zero, List.set_cons_succ]
  refine wpOpsK_op rfl (by rfl) (fun K hK => ?_)
  go_simp
  go_at_call 22
  refine (told_any hrec.val _).mono ?_
  rintro e w2 ⟨rfl, hb⟩
  have hsz := hb.size
  refine hK.out _ _ ?_
  clear hK K
  try simp only [Act.put, List.setIfInBounds_toArray, List.set_cons_zero, List.set_cons_succ]
  refine wpOpsK_op rfl (by rfl) (fun K hK => ?_)
  go_simp
  refine hK.out _ _ ?_
  clear hK K
  try simp only [Act.put, List.setIfInBounds_toArray, List.set_cons_zero, List.set_cons_succ]
  refine wpOpsK_op rfl (by rfl) (fun K hK => ?_)
  unfold pc
  go_simp
  refine hK.out _ _ ?_
  clear hK K
  try simp only [Act.put, List.setIfInBounds_toArray, List.set_cons_zero, List.set_cons_succ]
  change Code.wpK Tryd.prog kind (.seq _ _) _ _ cs' _
  obtain ⟨ov, va, vn, vc, w3, k0, k5, happ, q0, q5, q6, y0, y1, y2, z0, z1, z2, z3, z4, hneM, hneb, hneR, zf, hq1, hq2⟩ := hnext w2 hb
  have HQ := Lib.hid (And.intro hq1 hq2)
  have HB := Lib.hid (And.intro hb hsz)
  clear hnext hb hsz hq1 hq2
  have hM2 : M < w2.heap.size := block_lt k5
  have hb2 : mb < w2.heap.size := block_lt k0
  have e1 : ¬ M = w2.heap.size := by omega
  have e2 : ¬ M = w2.heap.size + 1 := by omega
  have e3 : ¬ mb = w2.heap.size := by omega
  have e4 : ¬ mb = w2.heap.size + 1 := by omega
  refine wpK_of_wp ?_
  go_upto_region 25 with fail
  refine wp_mono (Q := RgPost (w3.setCell ⟨M, 5, none⟩ (.slice va vn vc)) df fun t => Slots9 M f R mb at_ (.slice (some ⟨SB, 0, none⟩) L cap) (.pointer (some ⟨w2.heap.size, 0, none⟩)) t) ?_ ?_
  · refine wp_region_held_drew (S := fun w' => w'.cell? ⟨mb, 0, none⟩ = some (.pointer (some ⟨M, 0, none⟩)) ∧ w'.cell? ⟨w2.heap.size, 0, none⟩ = some (.int .i64 p.sort) ∧ w'.cell? ⟨w2.heap.size, 1, none⟩ = some (.string p.word) ∧ w'.cell? ⟨w2.heap.size, 2, none⟩ = some (.int .i64 0)) (by kernel_rfl) (by first | (go_keep; done) | (refine ⟨?_, ?_, ?_, ?_⟩ <;> (go_simp; done))) (fun hHeld => ?_)
    refine take_at (i := 0) (d := (some 95)) (v := ?_) rfl rfl (by kernel_rfl) (by kernel_rfl) (by kernel_rfl) (fun _ _ _ h => h) (Or.inl ⟨by rfl, fun w hSw => ?_⟩) hHeld ?_
    rotate_left
    · (try dsimp only at hSw); go_simp; try with_reducible rfl
    try simp only [Act.put, List.setIfInBounds_toArray, List.set_cons_zero, List.set_cons_succ]
    refine take_at (i := 1) (d := (some 96)) (v := ?_) rfl rfl (by kernel_rfl) (by kernel_rfl) (by kernel_rfl) (fun _ _ _ h => h) (Or.inl ⟨by rfl, fun w hSw => ?_⟩) hHeld ?_
    rotate_left
    · (try dsimp only at hSw); go_simp; try with_reducible rfl
    try simp only [Act.put, List.setIfInBounds_toArray, List.set_cons_zero, List.set_cons_succ]
    refine take_at (i := 2) (d := (some 97)) (v := ?_) rfl rfl (by kernel_rfl) (by kernel_rfl) (by kernel_rfl) (fun _ _ _ h => h) (Or.inl ⟨by rfl, fun w hSw => ?_⟩) hHeld ?_
    rotate_left
    · (try dsimp only at hSw); go_simp; try with_reducible rfl
    try simp only [Act.put, List.setIfInBounds_toArray, List.set_cons_zero, List.set_cons_succ]
    refine take_at (i := 3) (d := (some 98)) (v := ?_) rfl rfl (by kernel_rfl) (by kernel_rfl) (by kernel_rfl) (fun _ _ _ h => h) (Or.inl ⟨by rfl, fun w hSw => ?_⟩) hHeld ?_
    rotate_left
    · (try dsimp only at hSw); go_simp; try with_reducible rfl
    try simp only [Act.put, List.setIfInBounds_toArray, List.set_cons_zero, List.set_cons_succ]
    refine take_at (i := 5) (d := (some 100)) (v := ?_) rfl rfl (by kernel_rfl) (by kernel_rfl) (by kernel_rfl) (fun _ _ _ h => h) (Or.inl ⟨by rfl, fun w hSw => ?_⟩) hHeld ?_
    rotate_left
    · (try dsimp only at hSw); go_simp; try with_reducible rfl
    try simp only [Act.put, List.setIfInBounds_toArray, List.set_cons_zero, List.set_cons_succ]
    refine take_at (i := 6) (d := (some 101)) (v := ?_) rfl rfl (by kernel_rfl) (by kernel_rfl) (by kernel_rfl) (fun _ _ _ h => h) (Or.inl ⟨by rfl, fun w hSw => ?_⟩) hHeld ?_
    rotate_left
    · (try dsimp only at hSw); go_simp; try with_reducible rfl
    try simp only [Act.put, List.setIfInBounds_toArray, List.set_cons_zero, List.set_cons_succ]
    refine take_at (i := 7) (d := (some 102)) (v := ?_) rfl rfl (by kernel_rfl) (by kernel_rfl) (by kernel_rfl) (fun _ _ _ h => h) (Or.inl ⟨by rfl, fun w hSw => ?_⟩) hHeld ?_
    rotate_left
    · (try dsimp only at hSw); go_simp; try with_reducible rfl
    try simp only [Act.put, List.setIfInBounds_toArray, List.set_cons_zero, List.set_cons_succ]
    refine take_at (i := 8) (d := (some 103)) (v := ?_) rfl rfl (by kernel_rfl) (by kernel_rfl) (by kernel_rfl) (fun _ _ _ h => h) (Or.inl ⟨by rfl, fun w hSw => ?_⟩) hHeld ?_
    rotate_left
    · (try dsimp only at hSw); go_simp; try with_reducible rfl
    try simp only [Act.put, List.setIfInBounds_toArray, List.set_cons_zero, List.set_cons_succ]
    refine wpAnyH_ready (rs := [4, 9]) (by kernel_rfl) (by simp) ?_
    refine ready_two (d := (some 99)) (e := (some 104)) rfl rfl (by rfl) rfl rfl (by rfl) (fun K hK => ?_) (fun K hK => ?_)
    · go_simp
      refine hK.out _ _ (by first | exact hHeld | (go_keep; done) | (refine ⟨?_, ?_, ?_, ?_⟩ <;> (go_simp; done))) (fun hHeld2 => ?_)
      clear hK K hHeld
      have hHeld := hHeld2
      clear hHeld2
      try simp only [Act.put, List.setIfInBounds_toArray, List.set_cons_zero, List.set_cons_succ]
      refine wpAnyH_ready (rs := [9]) (by kernel_rfl) (by simp) ?_
      refine ready_at (d := (some 104)) rfl rfl (by rfl) (fun K hK => ?_)
      go_simp
      refine hK.out _ _ (by first | exact hHeld | (go_keep; done) | (refine ⟨?_, ?_, ?_, ?_⟩ <;> (go_simp; done))) (fun hHeld2 => ?_)
      clear hK K hHeld
      have hHeld := hHeld2
      clear hHeld2
      try simp only [Act.put, List.setIfInBounds_toArray, List.set_cons_zero, List.set_cons_succ]
      refine wpAnyH_ready (rs := [10]) (by kernel_rfl) (by simp) ?_
      refine ready_at (d := (some 105)) rfl rfl (by rfl) (fun K hK => ?_)
      refine append_wp (.tmp 99) (.tmp 104) 30 rfl _ _ (.slice va vn vc) w3 rfl rfl happ ?_
      refine hK.out _ _ (⟨q0, y0, y1, y2⟩) (fun hHeld2 => ?_)
      clear hK K hHeld
      have hHeld := hHeld2
      clear hHeld2
      try simp only [Act.put, List.setIfInBounds_toArray, List.set_cons_zero, List.set_cons_succ]
      refine take_at (i := 11) (d := (some 106)) (v := ?_) rfl rfl (by kernel_rfl) (by kernel_rfl) (by kernel_rfl) (fun _ _ _ h => h) (Or.inl ⟨by rfl, fun w hSw => ?_⟩) hHeld ?_
      rotate_left
      · (try dsimp only at hSw); go_simp; try with_reducible rfl
      try simp only [Act.put, List.setIfInBounds_toArray, List.set_cons_zero, List.set_cons_succ]
      refine take_at (i := 12) (d := (some 107)) (v := ?_) rfl rfl (by kernel_rfl) (by kernel_rfl) (by kernel_rfl) (fun _ _ _ h => h) (Or.inl ⟨by rfl, fun w hSw => ?_⟩) hHeld ?_
      rotate_left
      · (try dsimp only at hSw); go_simp; try with_reducible rfl
      try simp only [Act.put, List.setIfInBounds_toArray, List.set_cons_zero, List.set_cons_succ]
      refine wpAnyH_ready (rs := [13]) (by kernel_rfl) (by simp) ?_
      refine ready_at (d := none) rfl rfl (by rfl) (fun K hK => ?_)
      go_simp
      refine hK.out _ _ (by first | exact hHeld | (go_keep; done) | (refine ⟨?_, ?_, ?_, ?_⟩ <;> (go_simp; done))) (fun hHeld2 => ?_)
      clear hK K hHeld
      have hHeld := hHeld2
      clear hHeld2
      try simp only [Act.put, List.setIfInBounds_toArray, List.set_cons_zero, List.set_cons_succ]
      refine wpAnyH_done (by kernel_rfl) ?_ _
      exact ⟨rfl, rfl, ⟨rfl, rfl, rfl, rfl, rfl, rfl, rfl⟩, rfl, rfl⟩
    · go_simp
      refine hK.out _ _ (by first | exact hHeld | (go_keep; done) | (refine ⟨?_, ?_, ?_, ?_⟩ <;> (go_simp; done))) (fun hHeld2 => ?_)
      clear hK K hHeld
      have hHeld := hHeld2
      clear hHeld2
      try simp only [Act.put, List.setIfInBounds_toArray, List.set_cons_zero, List.set_cons_succ]
      refine wpAnyH_ready (rs := [4]) (by kernel_rfl) (by simp) ?_
      refine ready_at (d := (some 99)) rfl rfl (by rfl) (fun K hK => ?_)
      go_simp
      refine hK.out _ _ (by first | exact hHeld | (go_keep; done) | (refine ⟨?_, ?_, ?_, ?_⟩ <;> (go_simp; done))) (fun hHeld2 => ?_)
      clear hK K hHeld
      have hHeld := hHeld2
      clear hHeld2
      try simp only [Act.put, List.setIfInBounds_toArray, List.set_cons_zero, List.set_cons_succ]
      refine wpAnyH_ready (rs := [10]) (by kernel_rfl) (by simp) ?_
      refine ready_at (d := (some 105)) rfl rfl (by rfl) (fun K hK => ?_)
      refine append_wp (.tmp 99) (.tmp 104) 30 rfl _ _ (.slice va vn vc) w3 rfl rfl happ ?_
      refine hK.out _ _ (⟨q0, y0, y1, y2⟩) (fun hHeld2 => ?_)
      clear hK K hHeld
      have hHeld := hHeld2
      clear hHeld2
      try simp only [Act.put, List.setIfInBounds_toArray, List.set_cons_zero, List.set_cons_succ]
      refine take_at (i := 11) (d := (some 106)) (v := ?_) rfl rfl (by kernel_rfl) (by kernel_rfl) (by kernel_rfl) (fun _ _ _ h => h) (Or.inl ⟨by rfl, fun w hSw => ?_⟩) hHeld ?_
      rotate_left
      · (try dsimp only at hSw); go_simp; try with_reducible rfl
      try simp only [Act.put, List.setIfInBounds_toArray, List.set_cons_zero, List.set_cons_succ]
      refine take_at (i := 12) (d := (some 107)) (v := ?_) rfl rfl (by kernel_rfl) (by kernel_rfl) (by kernel_rfl) (fun _ _ _ h => h) (Or.inl ⟨by rfl, fun w hSw => ?_⟩) hHeld ?_
      rotate_left
      · (try dsimp only at hSw); go_simp; try with_reducible rfl
      try simp only [Act.put, List.setIfInBounds_toArray, List.set_cons_zero, List.set_cons_succ]
      refine wpAnyH_ready (rs := [13]) (by kernel_rfl) (by simp) ?_
      refine ready_at (d := none) rfl rfl (by rfl) (fun K hK => ?_)
      go_simp
      refine hK.out _ _ (by first | exact hHeld | (go_keep; done) | (refine ⟨?_, ?_, ?_, ?_⟩ <;> (go_simp; done))) (fun hHeld2 => ?_)
      clear hK K hHeld
      have hHeld := hHeld2
      clear hHeld2
      try simp only [Act.put, List.setIfInBounds_toArray, List.set_cons_zero, List.set_cons_succ]
      refine wpAnyH_done (by kernel_rfl) ?_ _
      exact ⟨rfl, rfl, ⟨rfl, rfl, rfl, rfl, rfl, rfl, rfl⟩, rfl, rfl⟩

  · intro e ⟨t', df'⟩ w' hr
    obtain ⟨rfl, rfl, rfl, hs⟩ := hr.out
    obtain ⟨U', rfl⟩ := hs.lit
    have hneM' : ¬ w2.heap.size = M := fun e => hneM e.symm
    cases hsrt : (p.sort != 0)
    · go_wp2
      change Code.wpK Tryd.prog kind _ _ _ cs' _
      refine wpK_of_wp ?_
      go_wp2
      refine HQ.out.1 hsrt _ ?_
      exact ⟨rfl, rfl, rfl, rfl, rfl, rfl, rfl⟩
    · go_wp2
      have hRM' : ¬ R = M := fun e => hRM e.symm
      refine wp_mono (Q := RgP df' fun t w => Slots9 M f R mb at_ (.slice (some ⟨SB, 0, none⟩) L cap) (.pointer (some ⟨w2.heap.size, 0, none⟩)) t ∧ w = (((((w3.setCell ⟨M, 5, none⟩ (.slice va vn vc)).setCell ⟨R, 2, none⟩ (.int .i64 p.sort)).setCell ⟨R, 3, none⟩ (.string p.word)).setCell ⟨R, 4, none⟩ (.int .i64 0)).setCell ⟨R, 1, none⟩ (.int .i64 0)).drew) ?_ ?_
      · go_region
        all_goals exact ⟨rfl, ⟨⟨rfl, rfl, rfl, rfl, rfl, rfl, rfl⟩, rfl, rfl⟩, rfl⟩
      · intro e ⟨t', df2⟩ w' hr
        obtain ⟨rfl, rfl, hs2, rfl⟩ := hr.out
        obtain ⟨U2, rfl⟩ := hs2.lit
        go_wp2
        change Code.wpK Tryd.prog kind _ _ _ cs' _
        refine wpK_of_wp ?_
        go_wp2
        refine HQ.out.2 hsrt _ ?_
        exact ⟨rfl, rfl, rfl, rfl, rfl, rfl, rfl⟩

end Go.Proofs.YtokfnlfadofmnaaDoor
