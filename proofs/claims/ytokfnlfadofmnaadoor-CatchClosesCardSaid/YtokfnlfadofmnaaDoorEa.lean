/- Functions that are guarded and closed in turn: what one does. -/
import Derived.Test.YtokfnlfadofmnaaDoorDe
import Derived.Test.YtokfnlfadofmnaaDoorK3
namespace Go.Proofs.YtokfnlfadofmnaaDoor
open Go.RowKit
set_option linter.unusedVariables false

structure Ded where
  kind : Int
  e : Int
  word : ByteArray
def dc (D : Ded) : Array Value := #[.int .i64 D.kind, .int .i64 D.e, .string D.word]
/-- What is called, told in a row of its own. -/
def CS (B cb : Nat) (w : World) (v : Value) (xs : List Int) : Prop := w.heap[cb]? = some (.cells #[v] 44 (0, 0)) ∧ w.ownsRow B 3 1 v xs.length (xs.map (Value.int .i64)) ∧ B ≤ cb
/-- The rows' own variable. -/
def T44 (_ : Nat) (t : TypeId) : Prop := t = 44
/-- What may change: cells of the types T, and the row of v. -/
structure Ft (B : Nat) (T : Nat → TypeId → Prop) (w : World) (v : Value) (w' : World) (v' : Value) : Prop where
  below : Below B w w'
  block : ∀ b o, w.heap[b]? = some o → (∀ cur t fr, o = .cells cur t fr → ¬ T b t) → v.ownBlock ≠ some b → w'.heap[b]? = w.heap[b]?
  own : v'.ownBlock = v.ownBlock ∨ ∃ g, v'.ownBlock = some g ∧ w.heap.size ≤ g
theorem Ft.refl (B : Nat) (T : Nat → TypeId → Prop) (w : World) (v : Value) : Ft B T w v w v := ⟨.refl _ _, fun _ _ _ _ _ => rfl, .inl rfl⟩
theorem Ft.trans {B : Nat} {T : Nat → TypeId → Prop} {w w1 w2 : World} {v v1 v2 : Value} (h : Ft B T w v w1 v1) (k : Ft B T w1 v1 w2 v2) : Ft B T w v w2 v2 := by
  refine ⟨h.below.trans k.below, fun b o h1 h2 h3 => ?_, ?_⟩
  · have e := h.block b o h1 h2 h3
    have hl := (Array.getElem?_eq_some_iff.1 h1).1
    rw [← e, k.block b o (by rw [e]; exact h1) h2 ?_]
    rcases h.own with h4 | ⟨g, h4, h5⟩
    · rw [h4]; exact h3
    · rw [h4]; intro e; cases e; omega
  · rcases k.own with h4 | ⟨g, h4, h5⟩
    · rw [h4]; exact h.own
    · exact .inr ⟨g, h4, Nat.le_trans h.below.size h5⟩
theorem Ft.mono {B : Nat} {T U : Nat → TypeId → Prop} {w w' : World} {v v' : Value} (h : Ft B T w v w' v') (hs : ∀ b t, T b t → U b t) : Ft B U w v w' v' :=
  ⟨h.below, fun b o h1 h2 h3 => h.block b o h1 (fun cur t fr e ht => h2 cur t fr e (hs b t ht)) h3, h.own⟩
theorem Ft.of_below {B : Nat} {T : Nat → TypeId → Prop} {w w' : World} {v : Value} (h : Below w.heap.size w w') (hB : B ≤ w.heap.size) : Ft B T w v w' v :=
  ⟨h.mono hB, fun b o h1 _ _ => h.block b (Array.getElem?_eq_some_iff.1 h1).1, .inl rfl⟩
theorem Ft.set {B : Nat} {T : Nat → TypeId → Prop} {w : World} {v : Value} {b i : Nat} {u : Value} {cur : Array Value} {t : TypeId} (h : w.heap[b]? = some (.cells cur t (0, 0))) (ht : T b t) (hB : B ≤ b) : Ft B T w v (w.setCell ⟨b, i, none⟩ u) v :=
  ⟨(Below.refl _ _).setCell hB _, fun k o h1 h2 _ => Below.heap_setCell _ _ _ _ (by rintro rfl; rw [h] at h1; cases h1; exact h2 _ _ _ rfl ht), .inl rfl⟩
theorem Ft.setNew {B : Nat} {T : Nat → TypeId → Prop} {w W : World} {v v' : Value} (h : Ft B T w v W v') {b i : Nat} {u : Value} (hb : w.heap.size ≤ b) (hB : B ≤ w.heap.size) : Ft B T w v (W.setCell ⟨b, i, none⟩ u) v' :=
  ⟨h.below.setCell (Nat.le_trans hB hb) _, fun k o h1 h2 h3 => by
    have hl := (Array.getElem?_eq_some_iff.1 h1).1
    rw [Below.heap_setCell _ _ _ _ (show k ≠ b by omega)]; exact h.block k o h1 h2 h3, h.own⟩
theorem CS.below {B cb : Nat} {w w' : World} {v : Value} {xs : List Int} (h : CS B cb w v xs) (hb : Below w.heap.size w w') : CS B cb w' v xs :=
  ⟨by rw [hb.block _ (Array.getElem?_eq_some_iff.1 h.1).1]; exact h.1, owns_keep h.2.1 fun b cur e => hb.block _ (Array.getElem?_eq_some_iff.1 e).1, h.2.2⟩
theorem CS.set {B cb b i : Nat} {w : World} {v u : Value} {xs : List Int} {cur : Array Value} {t : TypeId} (h : CS B cb w v xs) (hb : w.heap[b]? = some (.cells cur t (0, 0))) (h1 : t ≠ 44) (h2 : t ≠ 3) : CS B cb (w.setCell ⟨b, i, none⟩ u) v xs :=
  ⟨by rw [Below.heap_setCell _ _ _ _ (by rintro rfl; rw [h.1] at hb; cases hb; exact h1 rfl)]; exact h.1,
    owns_keep h.2.1 fun g cur e => Below.heap_setCell _ _ _ _ (by rintro rfl; rw [hb] at e; cases e; exact h2 rfl), h.2.2⟩
theorem CS.own3 {B cb : Nat} {w : World} {v : Value} {xs : List Int} (h : CS B cb w v xs) {g : Nat} (hg : v.ownBlock = some g) : ∃ cur, w.heap[g]? = some (.cells cur 3 (0, 0)) := by
  rcases h.2.1.2 with ⟨rfl, _⟩ | ⟨o, cap, cur, rfl, _, hh, _⟩
  · cases hg
  · simp only [Value.ownBlock, Option.some.injEq] at hg; subst hg; exact ⟨_, hh⟩
/-- A closure that notes n in the row and does D. -/
structure Clo (cb : Nat) (w : World) (v : Value) (D : Ded) (n : Int) (b3 b4 b5 : Nat) : Prop where
  c3 : w.heap[b3]? = some (.cells (dc D) 42 (0, 0))
  c4 : w.heap[b4]? = some (.cells #[.int .i64 n] 3 (0, 0))
  c5 : w.heap[b5]? = some (.cells #[.pointer (some ⟨cb, 0, none⟩)] 48 (0, 0))
  ne : v.ownBlock ≠ some b4
def cloV (b3 b4 b5 : Nat) : Value := .func (.func 14) #[] #[.pointer (some ⟨b5, 0, none⟩), .pointer (some ⟨b4, 0, none⟩), .pointer (some ⟨b3, 0, none⟩)]
theorem Clo.keep {B cb : Nat} {w w' : World} {v v' : Value} {xs : List Int} {D : Ded} {n : Int} {b3 b4 b5 : Nat} {T : Nat → TypeId → Prop} (h : Clo cb w v D n b3 b4 b5) (hc : CS B cb w v xs) (hf : Ft B T w v w' v') (h3 : ∀ b, ¬ T b 3) (h42 : ∀ b, ¬ T b 42) (h48 : ∀ b, ¬ T b 48) : Clo cb w' v' D n b3 b4 b5 := by
  have o3 : ∀ b, v.ownBlock = some b → w.heap[b]? = some (.cells (dc D) 42 (0, 0)) → False := fun b e e2 => by obtain ⟨cur, h1⟩ := hc.own3 e; rw [e2] at h1; cases h1
  have o5 : ∀ b, v.ownBlock = some b → w.heap[b]? = some (.cells #[.pointer (some ⟨cb, 0, none⟩)] 48 (0, 0)) → False := fun b e e2 => by obtain ⟨cur, h1⟩ := hc.own3 e; rw [e2] at h1; cases h1
  refine ⟨?_, ?_, ?_, ?_⟩
  · rw [hf.block _ _ h.c3 (by intro _ _ _ e; cases e; exact h42 _) (fun e => o3 _ e h.c3)]; exact h.c3
  · rw [hf.block _ _ h.c4 (by intro _ _ _ e; cases e; exact h3 _) h.ne]; exact h.c4
  · rw [hf.block _ _ h.c5 (by intro _ _ _ e; cases e; exact h48 _) (fun e => o5 _ e h.c5)]; exact h.c5
  · rcases hf.own with e | ⟨g, e, hg⟩
    · rw [e]; exact h.ne
    · rw [e]; intro e2; cases e2
      have := (Array.getElem?_eq_some_iff.1 h.c4).1; omega

theorem info3 : ∃ i : TypeInfo, Tryd.prog.info? 3 = some i ∧ i.zero = some (.int .i64 0) ∧ i.size = 1 ∧ i.bytes = 8 := info_parts (by kernel_rfl)
/-- A number noted. -/
theorem note_append {B cb : Nat} {w : World} {v : Value} {xs : List Int} {n : Int} (hc : CS B cb w v xs) (hB : B ≤ w.heap.size) (hl : xs.length ≤ 100) {g : Nat} {X : World} (hX : Below w.heap.size w X) (hg : X.heap[g]? = some (.cells #[.int .i64 n] 3 (0, 0))) :
    ∃ va vn vc w3, (Builtin.append_ #[44, 44] 44 #[v, .slice (some ⟨g, 0, none⟩) 1 1]).run Tryd.prog X = .ok (.slice va vn vc) w3 ∧ w3.heap[cb]? = some (.cells #[v] 44 (0, 0)) ∧ Ft B T44 w v w3 (.slice va vn vc) ∧ CS B cb (w3.setCell ⟨cb, 0, none⟩ (.slice va vn vc)) (.slice va vn vc) (xs ++ [n]) := by
  have hcX := hc.below hX
  obtain ⟨i0, hi0, hz0, hz1, hz2⟩ := info3
  obtain ⟨v1, w1, k1, k2, k3, k4⟩ := run_append_place (P := Tryd.prog) X B 44 44 3 i0 _ 1 8 Tryd.underlying44 hi0 hz0 hz1 hz2 rfl (by decide) v xs.length (xs.map (Value.int .i64)) hcX.2.1 ⟨g, 0, none⟩ 1 1 [.int .i64 n] rfl
    (fun j u hj => by rw [show (⟨g, 0, none⟩ : Addr).add j = ⟨g, 0 + j, none⟩ from Go.WideShapes.add_plain _ _ _, Nat.zero_add, cell_of_block hg]; simpa using hj)
    (by intro u hu; simp at hu; subst hu; rfl) (by simp only [maxLen]; omega) (by omega) (Nat.le_trans hB hX.size) (by decide)
  obtain ⟨va, vc, rfl⟩ := own_form k2
  have hcb : some cb ≠ v.ownBlock := by
    intro e
    obtain ⟨cur, h1⟩ := hcX.own3 e.symm
    rw [hcX.1] at h1; cases h1
  have hcl : cb < X.heap.size := (Array.getElem?_eq_some_iff.1 hcX.1).1
  have h1 : w1.heap[cb]? = some (.cells #[v] 44 (0, 0)) := by rw [k3.block _ hcl hcb]; exact hcX.1
  have hft : Ft B T44 X v w1 (.slice va (xs.length + 1) vc) := by
    refine ⟨(Below.refl _ _).grown k3 (Nat.le_trans hB hX.size) (fun i hi => ?_), fun b o e1 _ e3 => k3.block _ (Array.getElem?_eq_some_iff.1 e1).1 (fun e => e3 e.symm), ?_⟩
    · rcases hcX.2.1.2 with ⟨rfl, _⟩ | ⟨o, cap, cur, rfl, ho, _⟩
      · cases hi
      · simp only [Value.ownBlock, Option.some.injEq] at hi; omega
    · rcases k4 with h | h
      · exact .inl h
      · exact .inr ⟨_, h, Nat.le_refl _⟩
  refine ⟨va, _, vc, w1, k1, h1, (Ft.of_below hX hB).trans hft, ?_, ?_, hc.2.2⟩
  · rw [heap_setCell_same _ _ _ _ _ _ h1]; rfl
  · rw [List.length_append, List.map_append]
    refine owns_keep k2 fun b cur hb => Below.heap_setCell _ _ _ _ ?_
    rintro rfl
    rw [h1] at hb; cases hb

/-- How a deed ends. -/
def DEnd (D : Ded) (e : Ending) : Prop :=
  (D.kind = 1 ∧ e = .panicked [{ v := .iface 65 (.string D.word), recovered := false }]) ∨ ((D.kind = 2 ∨ D.kind = 3) ∧ ∃ v, IsRt v ∧ e = .panicked [{ v := v, recovered := false }]) ∨
    (¬ (1 ≤ D.kind ∧ D.kind ≤ 3) ∧ e = .returned (.int .i64 D.e))
/-- Behind the note. -/
def RgD (W : World) (t0 : Array Value → Prop) : Exit → Act → World → Prop
  | .normal, a, w => w = W ∧ a.defers = [] ∧ t0 a.tmps
  | _, _, _ => False
def DPost (B cb : Nat) (v : Value) (xs : List Int) (n : Int) (D : Ded) (w : World) (e : Ending) (w' : World) : Prop :=
  DEnd D e ∧ ∃ v', CS B cb w' v' (xs ++ [n]) ∧ Ft B T44 w v w' v'
theorem dpost_mk {B cb : Nat} {v va : Value} {xs : List Int} {n : Int} {D : Ded} {w w3 : World} {e : Ending} (he : DEnd D e) (hcs : CS B cb (w3.setCell ⟨cb, 0, none⟩ va) va (xs ++ [n])) (h1 : w3.heap[cb]? = some (.cells #[v] 44 (0, 0))) (hft : Ft B T44 w v w3 va) : DPost B cb v xs n D w e (w3.setCell ⟨cb, 0, none⟩ va) :=
  ⟨he, va, hcs, hft.trans (.set h1 rfl hcs.2.2)⟩
set_option maxRecDepth 100000 in
set_option maxHeartbeats 4000000 in
theorem deed1_any {B cb b3 b4 b5 : Nat} {w : World} {v : Value} {xs : List Int} {D : Ded} {n : Int} (hc : CS B cb w v xs) (h : Clo cb w v D n b3 b4 b5) (hB : B ≤ w.heap.size) (hl : xs.length ≤ 100) :
    Calls Tryd.prog 14 #[.pointer (some ⟨b5, 0, none⟩), .pointer (some ⟨b4, 0, none⟩), .pointer (some ⟨b3, 0, none⟩)] w (DPost B cb v xs n D w) := by
  obtain ⟨hmx, hm⟩ : ∃ x, ∀ (key value : Value) (w : World), (Instr.mapUpdate 66 (.map none) key value).run Tryd.prog w = .halt (.panic (.iface 11 x)) w :=
    ⟨_, fun key value w => run_mapUpdate_nil 66 3 3 Tryd.underlying66 key value⟩
  have hX : Below w.heap.size w ((w.alloc (.cells #[.int .i64 n] 3)).drew) := below_dN (n := 1) ((Below.refl _ _).alloc (Nat.le_refl _) _)
  obtain ⟨va, vn, vc, w3, happ, h1, hft, hcs⟩ := note_append hc hB hl hX (g := w.heap.size) (alloc_at _ _)
  have hclo := h.keep hc hft (by simp [T44]) (by simp [T44]) (by simp [T44])
  have k5 : w3.cell? ⟨b5, 0, none⟩ = some (.pointer (some ⟨cb, 0, none⟩)) := by rw [cell_of_block hclo.c5]; rfl
  have k4 : w3.cell? ⟨b4, 0, none⟩ = some (.int .i64 n) := by rw [cell_of_block hclo.c4]; rfl
  have kcb : w3.cell? ⟨cb, 0, none⟩ = some v := by rw [cell_of_block h1]; rfl
  have kf : w3.frozen? ⟨cb, 0, none⟩ = false := frozen_of_block h1 0
  have c5 : w.cell? ⟨b5, 0, none⟩ = some (.pointer (some ⟨cb, 0, none⟩)) := by rw [cell_of_block h.c5]; rfl
  have c4 : w.cell? ⟨b4, 0, none⟩ = some (.int .i64 n) := by rw [cell_of_block h.c4]; rfl
  have ccb : w.cell? ⟨cb, 0, none⟩ = some v := by rw [cell_of_block hc.1]; rfl
  have hl5 : b5 < w.heap.size := block_lt c5
  have hl4 : b4 < w.heap.size := block_lt c4
  have hlc : cb < w.heap.size := block_lt ccb
  have hn5 : ¬ b5 = w.heap.size := by omega
  have hn4 : ¬ b4 = w.heap.size := by omega
  have hnc : ¬ cb = w.heap.size := by omega
  have q5 : ¬ b5 = cb := by rintro rfl; have := h.c5; rw [hc.1] at this; cases this
  have q4 : ¬ b4 = cb := by rintro rfl; have := h.c4; rw [hc.1] at this; cases this
  have q3 : ¬ b3 = cb := by rintro rfl; have := h.c3; rw [hc.1] at this; cases this
  have d0 : w3.cell? ⟨b3, 0, none⟩ = some (.int .i64 D.kind) := by rw [cell_of_block hclo.c3]; rfl
  have d1 : w3.cell? ⟨b3, 1, none⟩ = some (.int .i64 D.e) := by rw [cell_of_block hclo.c3]; rfl
  have d2 : w3.cell? ⟨b3, 2, none⟩ = some (.string D.word) := by rw [cell_of_block hclo.c3]; rfl
  have H2 := Lib.hid (And.intro hc (And.intro h (And.intro hft (And.intro hcs (And.intro h1 hclo)))))
  clear hc h hft hcs h1 hclo hX
  go_enter Tryd.func14, Tryd.ntmps14
  go_upto_region 1 with fail
  refine wp_mono (Q := RgPost (w3.setCell ⟨cb, 0, none⟩ (.slice va vn vc)) [] fun t => t = #[.pointer (some ⟨b5, 0, none⟩), .pointer (some ⟨b4, 0, none⟩), .pointer (some ⟨b3, 0, none⟩), .int .i64 0, undef, .pointer (some ⟨cb, 0, none⟩), .pointer (some ⟨cb, 0, none⟩), .pointer (some ⟨cb, 0, none⟩), v, .int .i64 n, .slice (some ⟨w.heap.size, 0, none⟩) 1 1, .slice va vn vc, .pointer (some ⟨cb, 0, none⟩), undef, undef, undef, undef, undef, undef, undef, undef, undef, undef, undef, undef, undef, undef, undef, undef, undef, undef]) ?_ ?_
  · refine wp_region_held_drew (S := fun w' => w'.cell? ⟨b5, 0, none⟩ = some (.pointer (some ⟨cb, 0, none⟩)) ∧ w'.cell? ⟨b4, 0, none⟩ = some (.int .i64 n)) (by kernel_rfl) (by first | (go_keep; done) | (refine ⟨?_, ?_⟩ <;> (go_simp; done))) (fun hHeld => ?_)
    refine take_at (i := 0) (d := (some 5)) (v := ?_) rfl rfl (by kernel_rfl) (by kernel_rfl) (by kernel_rfl) (fun _ _ _ h => h) (Or.inl ⟨by rfl, fun w hSw => ?_⟩) hHeld ?_
    rotate_left
    · (try dsimp only at hSw); go_simp; try with_reducible rfl
    try simp only [Act.put, List.setIfInBounds_toArray, List.set_cons_zero, List.set_cons_succ]
    refine take_at (i := 1) (d := (some 6)) (v := ?_) rfl rfl (by kernel_rfl) (by kernel_rfl) (by kernel_rfl) (fun _ _ _ h => h) (Or.inl ⟨by rfl, fun w hSw => ?_⟩) hHeld ?_
    rotate_left
    · (try dsimp only at hSw); go_simp; try with_reducible rfl
    try simp only [Act.put, List.setIfInBounds_toArray, List.set_cons_zero, List.set_cons_succ]
    refine take_at (i := 2) (d := (some 7)) (v := ?_) rfl rfl (by kernel_rfl) (by kernel_rfl) (by kernel_rfl) (fun _ _ _ h => h) (Or.inl ⟨by rfl, fun w hSw => ?_⟩) hHeld ?_
    rotate_left
    · (try dsimp only at hSw); go_simp; try with_reducible rfl
    try simp only [Act.put, List.setIfInBounds_toArray, List.set_cons_zero, List.set_cons_succ]
    refine take_at (i := 4) (d := (some 9)) (v := ?_) rfl rfl (by kernel_rfl) (by kernel_rfl) (by kernel_rfl) (fun _ _ _ h => h) (Or.inl ⟨by rfl, fun w hSw => ?_⟩) hHeld ?_
    rotate_left
    · (try dsimp only at hSw); go_simp; try with_reducible rfl
    try simp only [Act.put, List.setIfInBounds_toArray, List.set_cons_zero, List.set_cons_succ]
    refine wpAnyH_ready (rs := [3, 5]) (by kernel_rfl) (by simp) ?_
    refine ready_two (d := (some 8)) (e := (some 10)) rfl rfl (by rfl) rfl rfl (by rfl) (fun K hK => ?_) (fun K hK => ?_)
    · go_simp
      refine hK.out _ _ (by first | exact hHeld | (go_keep; done) | (refine ⟨?_, ?_⟩ <;> (go_simp; done))) (fun hHeld2 => ?_)
      clear hK K hHeld
      have hHeld := hHeld2
      clear hHeld2
      try simp only [Act.put, List.setIfInBounds_toArray, List.set_cons_zero, List.set_cons_succ]
      refine wpAnyH_ready (rs := [5]) (by kernel_rfl) (by simp) ?_
      refine ready_at (d := (some 10)) rfl rfl (by rfl) (fun K hK => ?_)
      go_simp
      refine hK.out _ _ (by first | exact hHeld | (go_keep; done) | (refine ⟨?_, ?_⟩ <;> (go_simp; done))) (fun hHeld2 => ?_)
      clear hK K hHeld
      have hHeld := hHeld2
      clear hHeld2
      try simp only [Act.put, List.setIfInBounds_toArray, List.set_cons_zero, List.set_cons_succ]
      refine wpAnyH_ready (rs := [6]) (by kernel_rfl) (by simp) ?_
      refine ready_at (d := (some 11)) rfl rfl (by rfl) (fun K hK => ?_)
      refine append_wp (.tmp 8) (.tmp 10) 44 rfl _ _ (.slice va vn vc) w3 rfl rfl happ ?_
      refine hK.out _ _ (⟨k5, k4⟩) (fun hHeld2 => ?_)
      clear hK K hHeld
      have hHeld := hHeld2
      clear hHeld2
      try simp only [Act.put, List.setIfInBounds_toArray, List.set_cons_zero, List.set_cons_succ]
      refine take_at (i := 7) (d := (some 12)) (v := ?_) rfl rfl (by kernel_rfl) (by kernel_rfl) (by kernel_rfl) (fun _ _ _ h => h) (Or.inl ⟨by rfl, fun w hSw => ?_⟩) hHeld ?_
      rotate_left
      · (try dsimp only at hSw); go_simp; try with_reducible rfl
      try simp only [Act.put, List.setIfInBounds_toArray, List.set_cons_zero, List.set_cons_succ]
      refine wpAnyH_ready (rs := [8]) (by kernel_rfl) (by simp) ?_
      refine ready_at (d := none) rfl rfl (by rfl) (fun K hK => ?_)
      go_simp
      refine hK.out _ _ (by first | exact hHeld | (go_keep; done) | (refine ⟨?_, ?_⟩ <;> (go_simp; done))) (fun hHeld2 => ?_)
      clear hK K hHeld
      have hHeld := hHeld2
      clear hHeld2
      try simp only [Act.put, List.setIfInBounds_toArray, List.set_cons_zero, List.set_cons_succ]
      refine wpAnyH_done (by kernel_rfl) ?_ _
      exact ⟨rfl, rfl, rfl⟩
    · go_simp
      refine hK.out _ _ (by first | exact hHeld | (go_keep; done) | (refine ⟨?_, ?_⟩ <;> (go_simp; done))) (fun hHeld2 => ?_)
      clear hK K hHeld
      have hHeld := hHeld2
      clear hHeld2
      try simp only [Act.put, List.setIfInBounds_toArray, List.set_cons_zero, List.set_cons_succ]
      refine wpAnyH_ready (rs := [3]) (by kernel_rfl) (by simp) ?_
      refine ready_at (d := (some 8)) rfl rfl (by rfl) (fun K hK => ?_)
      go_simp
      refine hK.out _ _ (by first | exact hHeld | (go_keep; done) | (refine ⟨?_, ?_⟩ <;> (go_simp; done))) (fun hHeld2 => ?_)
      clear hK K hHeld
      have hHeld := hHeld2
      clear hHeld2
      try simp only [Act.put, List.setIfInBounds_toArray, List.set_cons_zero, List.set_cons_succ]
      refine wpAnyH_ready (rs := [6]) (by kernel_rfl) (by simp) ?_
      refine ready_at (d := (some 11)) rfl rfl (by rfl) (fun K hK => ?_)
      refine append_wp (.tmp 8) (.tmp 10) 44 rfl _ _ (.slice va vn vc) w3 rfl rfl happ ?_
      refine hK.out _ _ (⟨k5, k4⟩) (fun hHeld2 => ?_)
      clear hK K hHeld
      have hHeld := hHeld2
      clear hHeld2
      try simp only [Act.put, List.setIfInBounds_toArray, List.set_cons_zero, List.set_cons_succ]
      refine take_at (i := 7) (d := (some 12)) (v := ?_) rfl rfl (by kernel_rfl) (by kernel_rfl) (by kernel_rfl) (fun _ _ _ h => h) (Or.inl ⟨by rfl, fun w hSw => ?_⟩) hHeld ?_
      rotate_left
      · (try dsimp only at hSw); go_simp; try with_reducible rfl
      try simp only [Act.put, List.setIfInBounds_toArray, List.set_cons_zero, List.set_cons_succ]
      refine wpAnyH_ready (rs := [8]) (by kernel_rfl) (by simp) ?_
      refine ready_at (d := none) rfl rfl (by rfl) (fun K hK => ?_)
      go_simp
      refine hK.out _ _ (by first | exact hHeld | (go_keep; done) | (refine ⟨?_, ?_⟩ <;> (go_simp; done))) (fun hHeld2 => ?_)
      clear hK K hHeld
      have hHeld := hHeld2
      clear hHeld2
      try simp only [Act.put, List.setIfInBounds_toArray, List.set_cons_zero, List.set_cons_succ]
      refine wpAnyH_done (by kernel_rfl) ?_ _
      exact ⟨rfl, rfl, rfl⟩
  · intro e ⟨t', df'⟩ w' hr
    obtain ⟨rfl, rfl, rfl, rfl⟩ := hr.out
    rcases (show D.kind = 1 ∨ D.kind = 2 ∨ D.kind = 3 ∨ ¬ (1 ≤ D.kind ∧ D.kind ≤ 3) by omega) with hk | hk | hk | hk
    · have z1 : (D.kind == 1) = true := by simp [hk]
      have HK := Lib.hid hk
      clear hk
      go_wp2
      exact ⟨rfl, dpost_mk (.inl ⟨HK.out, rfl⟩) H2.out.2.2.2.1 H2.out.2.2.2.2.1 H2.out.2.2.1⟩
    · have z1 : (D.kind == 1) = false := by simp [hk]
      have z2 : (D.kind == 2) = true := by simp [hk]
      have HK := Lib.hid hk
      clear hk
      go_wp2
      exact ⟨rfl, dpost_mk (.inr (.inl ⟨.inl HK.out, _, ⟨11, _, rfl, by decide, by decide⟩, rfl⟩)) H2.out.2.2.2.1 H2.out.2.2.2.2.1 H2.out.2.2.1⟩
    · have z1 : (D.kind == 1) = false := by simp [hk]
      have z2 : (D.kind == 2) = false := by simp [hk]
      have z3 : (D.kind == 3) = true := by simp [hk]
      have HK := Lib.hid hk
      clear hk
      go_wp2
      exact ⟨rfl, dpost_mk (.inr (.inl ⟨.inr HK.out, _, ⟨33, _, rfl, by decide, by decide⟩, rfl⟩)) H2.out.2.2.2.1 H2.out.2.2.2.2.1 H2.out.2.2.1⟩
    · have z1 : (D.kind == 1) = false := by simp; omega
      have z2 : (D.kind == 2) = false := by simp; omega
      have z3 : (D.kind == 3) = false := by simp; omega
      have HK := Lib.hid hk
      clear hk
      go_wp2
      go_ret
      exact dpost_mk (.inr (.inr ⟨HK.out, rfl⟩)) H2.out.2.2.2.1 H2.out.2.2.2.2.1 H2.out.2.2.1
end Go.Proofs.YtokfnlfadofmnaaDoor
