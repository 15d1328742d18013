/- catch.Closing's inner function: one function tried. -/
import Derived.Test.YtokfnlfadofmnaaDoorEb
namespace Go.Proofs.YtokfnlfadofmnaaDoor
open Go.RowKit
set_option linter.unusedVariables false

/-- What a deed panics with. -/
def DQ (D : Ded) : Option Pan := if D.kind = 1 then some (Pan.own D.word) else if 2 ≤ D.kind ∧ D.kind ≤ 3 then some Pan.rt else none
theorem dq_end {D : Ded} {e : Ending} (h : DEnd D e) : (∃ p v, DQ D = some p ∧ e = .panicked [{ v := v, recovered := false }] ∧ VP v p) ∨ (DQ D = none ∧ e = .returned (.int .i64 D.e)) := by
  rcases h with ⟨h1, rfl⟩ | ⟨h1, v, hv, rfl⟩ | ⟨h1, rfl⟩
  · exact .inl ⟨Pan.own D.word, _, by unfold DQ; rw [if_pos h1], rfl, .inl ⟨_, rfl, rfl⟩⟩
  · exact .inl ⟨Pan.rt, _, by unfold DQ; rw [if_neg (by omega), if_pos (by omega)], rfl, .inr ⟨hv, rfl⟩⟩
  · exact .inr ⟨by unfold DQ; rw [if_neg (by omega), if_neg (by omega)], rfl⟩
theorem Ft.kb {B pb : Nat} {T : Nat → TypeId → Prop} {w W W' : World} {v v' : Value} (h : Ft B T w v W v') (k : KB pb W W') (hp : w.heap.size ≤ pb) (hB : B ≤ w.heap.size) : Ft B T w v W' v' := by
  refine ⟨⟨k.os.trans h.below.os, k.tape.trans h.below.tape, k.output.trans h.below.output, Nat.le_trans h.below.size k.size, fun b hb => ?_⟩, fun b o h1 h2 h3 => ?_, h.own⟩
  · rcases Nat.lt_or_ge b W.heap.size with hl | hl
    · rw [k.block b hl (by omega), h.below.block b hb]
    · have := h.below.size; omega
  · have hl := (Array.getElem?_eq_some_iff.1 h1).1
    rw [k.block b (Nat.lt_of_lt_of_le hl h.below.size) (by omega)]; exact h.block b o h1 h2 h3
theorem CS.kb {B cb pb : Nat} {W W' : World} {v : Value} {xs : List Int} {cp : Array Value} (h : CS B cb W v xs) (k : KB pb W W') (hp : W.heap[pb]? = some (.cells cp 29 (0, 0))) : CS B cb W' v xs :=
  ⟨by rw [k.block _ (Array.getElem?_eq_some_iff.1 h.1).1 (by rintro rfl; rw [h.1] at hp; cases hp)]; exact h.1,
    owns_keep h.2.1 fun b cur e => k.block _ (Array.getElem?_eq_some_iff.1 e).1 (by rintro rfl; rw [hp] at e; cases e), h.2.2⟩
theorem CS.ne {B cb : Nat} {w : World} {v : Value} {xs : List Int} (h : CS B cb w v xs) {b : Nat} {cur : Array Value} {t : TypeId} {fr : Nat × Nat} (hb : w.heap[b]? = some (.cells cur t fr)) (ht : t ≠ 3) : v.ownBlock ≠ some b := by
  intro e
  obtain ⟨c, h1⟩ := h.own3 e
  rw [hb] at h1; cases h1; exact ht rfl
theorem Ft.cells {B : Nat} {T : Nat → TypeId → Prop} {w w' : World} {v v' : Value} (h : Ft B T w v w' v') {cb : Nat} {xs : List Int} (hc : CS B cb w v xs) {b : Nat} {cur : Array Value} {t : TypeId} {fr : Nat × Nat} (hb : w.heap[b]? = some (.cells cur t fr)) (ht : ¬ T b t) (h3 : t ≠ 3) : w'.heap[b]? = some (.cells cur t fr) := by
  rw [h.block b _ hb (by intro _ _ _ e; cases e; exact ht) (hc.ne hb h3)]; exact hb

/-- What is left behind a function that Guard calls. -/
def GD (B cb eb : Nat) (v : Value) (xs : List Int) (n : Int) (D : Ded) (w : World) (q : Option Pan) (w' : World) : Prop :=
  q = DQ D ∧ ∃ w2 v', CS B cb w2 v' (xs ++ [n]) ∧ Ft B T44 w v w2 v' ∧ w' = if q.isNone then w2.setCell ⟨eb, 0, none⟩ (.int .i64 D.e) else w2
set_option maxRecDepth 100000 in
theorem clo17 {B cb fb eb pb b3 b4 b5 : Nat} {w : World} {v : Value} {xs : List Int} {D : Ded} {n : Int} (hc : CS B cb w v xs) (h : Clo cb w v D n b3 b4 b5) (hB : B ≤ w.heap.size) (hl : xs.length ≤ 100)
    (hf : w.heap[fb]? = some (.cells #[cloV b3 b4 b5] 46 (0, 0))) (he : w.heap[eb]? = some (.cells #[.int .i64 0] 33 (0, 0))) (hp : w.heap[pb]? = some (.cells (pc Pan.none) 29 (0, 0))) :
    Calls Tryd.prog 17 #[.pointer (some ⟨fb, 0, none⟩), .pointer (some ⟨eb, 0, none⟩)] w fun e w' => ∃ q, EndOk q e ∧ GD B cb eb v xs n D w q w' ∧ w'.heap[pb]? = some (.cells (pc Pan.none) 29 (0, 0)) := by
  have hd := deed1_any hc h hB hl
  have cf : w.cell? ⟨fb, 0, none⟩ = some (.func (.func 14) #[] #[.pointer (some ⟨b5, 0, none⟩), .pointer (some ⟨b4, 0, none⟩), .pointer (some ⟨b3, 0, none⟩)]) := by rw [cell_of_block hf]; rfl
  have H := Lib.hid (And.intro hc (And.intro he hp))
  clear hc h hf he hp
  go_enter Tryd.func17, Tryd.ntmps17
  go_wp2_with fail
  refine hd.mono ?_
  rintro e w2 ⟨hend, v', hcs, hft⟩
  have he2 := hft.cells H.out.1 H.out.2.1 (by simp [T44]) (by decide)
  have hp2 := hft.cells H.out.1 H.out.2.2 (by simp [T44]) (by decide)
  have ce : w2.cell? ⟨eb, 0, none⟩ = some (.int .i64 0) := by rw [cell_of_block he2]; rfl
  have ef : w2.frozen? ⟨eb, 0, none⟩ = false := frozen_of_block he2 0
  have H2 := Lib.hid (And.intro hcs (And.intro hft (And.intro he2 hp2)))
  clear hcs hft he2 hp2
  rcases dq_end hend with ⟨p, u, hq, rfl, hv⟩ | ⟨hq, rfl⟩
  · go_wp2_with fail
    exact ⟨rfl, some p, ⟨u, [], rfl, hv, by intro x hx; cases hx⟩, ⟨hq.symm, w2, v', H2.out.1, H2.out.2.1, rfl⟩, H2.out.2.2.2⟩
  · go_wp2_with fail
    go_end0
    refine ⟨none, rfl, ⟨hq.symm, w2, v', H2.out.1, H2.out.2.1, rfl⟩, ?_⟩
    rw [Below.heap_setCell _ _ _ _ (by rintro rfl; have := H2.out.2.2.1; rw [H2.out.2.2.2] at this; cases this)]
    exact H2.out.2.2.2

/-- What one function that is tried leaves of what went wrong first. -/
def stT (D : Ded) (s : Int × Pan) : Int × Pan := if s.1 = 0 then (match DQ D with | some p => (5, p) | none => (D.e, s.2)) else s
/-- What a function that is tried may change. -/
def TT (f1 b1 b : Nat) (t : TypeId) : Prop := t = 44 ∨ (t = 33 ∧ b = f1) ∨ (t = 29 ∧ b = b1)
/-- Between two functions that are tried. -/
def TS (B cb f1 b1 : Nat) (v : Value) (ys : List Int) (s : Int × Pan) (w W : World) : Prop :=
  ∃ v', CS B cb W v' ys ∧ Ft B (TT f1 b1) w v W v' ∧ W.heap[f1]? = some (.cells #[.int .i64 s.1] 33 (0, 0)) ∧ W.heap[b1]? = some (.cells (pc s.2) 29 (0, 0))
theorem TS.below {B cb f1 b1 : Nat} {v : Value} {ys : List Int} {s : Int × Pan} {w W W' : World} (h : TS B cb f1 b1 v ys s w W) (hb : Below W.heap.size W W') (hB : B ≤ W.heap.size) : TS B cb f1 b1 v ys s w W' := by
  obtain ⟨v', h1, h2, h3, h4⟩ := h
  exact ⟨v', h1.below hb, h2.trans (.of_below hb hB), by rw [hb.block _ (Array.getElem?_eq_some_iff.1 h3).1]; exact h3, by rw [hb.block _ (Array.getElem?_eq_some_iff.1 h4).1]; exact h4⟩
theorem TS.setf {B cb f1 b1 : Nat} {v : Value} {ys : List Int} {s : Int × Pan} {w W : World} (h : TS B cb f1 b1 v ys s w W) (hf : B ≤ f1) (x : Int) : TS B cb f1 b1 v ys (x, s.2) w (W.setCell ⟨f1, 0, none⟩ (.int .i64 x)) := by
  obtain ⟨v', h1, h2, h3, h4⟩ := h
  refine ⟨v', h1.set h3 (by decide) (by decide), h2.trans (.set h3 (by simp [TT]) hf), by rw [heap_setCell_same _ _ _ _ _ _ h3]; rfl, ?_⟩
  rw [Below.heap_setCell _ _ _ _ (by rintro rfl; rw [h3] at h4; simp only [Option.some.injEq, Obj.cells.injEq] at h4; exact absurd h4.2.1 (by decide))]
  exact h4
theorem TS.setb {B cb f1 b1 : Nat} {v : Value} {ys : List Int} {s : Int × Pan} {w W : World} (h : TS B cb f1 b1 v ys s w W) (hb : B ≤ b1) (p : Pan) : TS B cb f1 b1 v ys (s.1, p) w (setP b1 p W) := by
  obtain ⟨v', h1, h2, h3, h4⟩ := h
  have a1 := heap_setCell_same W b1 0 _ _ (.int .i64 p.sort) h4
  have a2 := heap_setCell_same _ b1 1 _ _ (.string p.word) a1
  refine ⟨v', ((h1.set h4 (by decide) (by decide)).set a1 (by decide) (by decide)).set a2 (by decide) (by decide), h2.trans (((Ft.set h4 (by simp [TT]) hb).trans (.set a1 (by simp [TT]) hb)).trans (.set a2 (by simp [TT]) hb)), ?_, setP_at h4 rfl⟩
  rw [setP_other (by rintro rfl; rw [h3] at h4; simp only [Option.some.injEq, Obj.cells.injEq] at h4; exact absurd h4.2.1 (by decide))]
  exact h3
def TPost (B cb f1 b1 : Nat) (v : Value) (xs : List Int) (n : Int) (D : Ded) (s : Int × Pan) (w : World) (e : Ending) (w' : World) : Prop :=
  e = .returned (.tuple #[]) ∧ TS B cb f1 b1 v (xs ++ [n]) (stT D s) w w'
theorem guard_out {B cb f1 b1 : Nat} {w W3 w' : World} {v : Value} {xs : List Int} {D : Ded} {n : Int} {s : Int × Pan} {e : Ending} (hc : CS B cb w v xs) (hB : B ≤ w.heap.size)
    (hf : w.heap[f1]? = some (.cells #[.int .i64 s.1] 33 (0, 0))) (hb : w.heap[b1]? = some (.cells (pc s.2) 29 (0, 0)))
    (hB3 : Below w.heap.size w W3) (he3 : W3.heap[w.heap.size + 1]? = some (.cells #[.int .i64 0] 33 (0, 0))) (hp3 : W3.heap[w.heap.size + 1 + 1]? = some (.cells (pc Pan.none) 29 (0, 0))) (hg : GPost17 (w.heap.size + 1 + 1) (GD B cb (w.heap.size + 1) v xs n D W3) e w') :
    e = .returned (.agg (pc ((DQ D).getD Pan.none))) ∧ ∃ v', CS B cb w' v' (xs ++ [n]) ∧ Ft B (TT f1 b1) w v w' v' ∧ w'.heap[f1]? = some (.cells #[.int .i64 s.1] 33 (0, 0)) ∧ w'.heap[b1]? = some (.cells (pc s.2) 29 (0, 0)) ∧ w'.heap[w.heap.size + 1]? = some (.cells #[.int .i64 (if (DQ D).isNone then D.e else 0)] 33 (0, 0)) := by
  obtain ⟨q, w2', rfl, ⟨rfl, w2, v', hcs, hft, hw2⟩, hkb⟩ := hg
  have hc3 := hc.below hB3
  have lf := (Array.getElem?_eq_some_iff.1 hf).1
  have lb := (Array.getElem?_eq_some_iff.1 hb).1
  have hf3 : W3.heap[f1]? = some (.cells #[.int .i64 s.1] 33 (0, 0)) := by rw [hB3.block _ lf]; exact hf
  have hb3' : W3.heap[b1]? = some (.cells (pc s.2) 29 (0, 0)) := by rw [hB3.block _ lb]; exact hb
  have hf2 := hft.cells hc3 hf3 (by simp [T44]) (by decide)
  have hb2 := hft.cells hc3 hb3' (by simp [T44]) (by decide)
  have he2 := hft.cells hc3 he3 (by simp [T44]) (by decide)
  have hp2 := hft.cells hc3 hp3 (by simp [T44]) (by decide)
  have F1 : Ft B (TT f1 b1) w v w2 v' := (Ft.of_below hB3 hB).trans (hft.mono (fun b t ht => .inl ht))
  refine ⟨rfl, v', ?_⟩
  cases hq : DQ D with
  | none =>
    rw [hq] at hw2
    have hw2' : w2' = w2.setCell ⟨w.heap.size + 1, 0, none⟩ (.int .i64 D.e) := hw2
    subst hw2'
    have sf : ∀ b, b ≠ w.heap.size + 1 → (w2.setCell ⟨w.heap.size + 1, 0, none⟩ (.int .i64 D.e)).heap[b]? = w2.heap[b]? := fun b h => Below.heap_setCell _ _ _ _ h
    have hp2' : (w2.setCell ⟨w.heap.size + 1, 0, none⟩ (.int .i64 D.e)).heap[w.heap.size + 1 + 1]? = some (.cells (pc Pan.none) 29 (0, 0)) := by rw [sf _ (by omega)]; exact hp2
    have he2' : (w2.setCell ⟨w.heap.size + 1, 0, none⟩ (.int .i64 D.e)).heap[w.heap.size + 1]? = some (.cells #[.int .i64 D.e] 33 (0, 0)) := by rw [heap_setCell_same _ _ _ _ _ _ he2]; rfl
    have hf2' : (w2.setCell ⟨w.heap.size + 1, 0, none⟩ (.int .i64 D.e)).heap[f1]? = some (.cells #[.int .i64 s.1] 33 (0, 0)) := by rw [sf _ (by omega)]; exact hf2
    have hb2' : (w2.setCell ⟨w.heap.size + 1, 0, none⟩ (.int .i64 D.e)).heap[b1]? = some (.cells (pc s.2) 29 (0, 0)) := by rw [sf _ (by omega)]; exact hb2
    refine ⟨(hcs.set he2 (by decide) (by decide)).kb hkb hp2', (F1.setNew (by omega) hB).kb hkb (by omega) hB, ?_, ?_, ?_⟩
    · rw [hkb.block _ (Array.getElem?_eq_some_iff.1 hf2').1 (by omega)]; exact hf2'
    · rw [hkb.block _ (Array.getElem?_eq_some_iff.1 hb2').1 (by omega)]; exact hb2'
    · rw [hkb.block _ (Array.getElem?_eq_some_iff.1 he2').1 (by omega)]; exact he2'
  | some p =>
    rw [hq] at hw2
    have hw2' : w2' = w2 := hw2
    subst hw2'
    refine ⟨hcs.kb hkb hp2, F1.kb hkb (by omega) hB, ?_, ?_, ?_⟩
    · rw [hkb.block _ (Array.getElem?_eq_some_iff.1 hf2).1 (by omega)]; exact hf2
    · rw [hkb.block _ (Array.getElem?_eq_some_iff.1 hb2).1 (by omega)]; exact hb2
    · rw [hkb.block _ (Array.getElem?_eq_some_iff.1 he2).1 (by omega)]; exact he2
set_option maxRecDepth 100000 in
set_option maxHeartbeats 4000000 in
theorem try_any {B cb f1 b1 b3 b4 b5 : Nat} {w : World} {v : Value} {xs : List Int} {D : Ded} {n : Int} {s : Int × Pan} (hc : CS B cb w v xs) (h : Clo cb w v D n b3 b4 b5) (hB : B ≤ w.heap.size) (hl : xs.length ≤ 100)
    (hf : w.heap[f1]? = some (.cells #[.int .i64 s.1] 33 (0, 0))) (hb : w.heap[b1]? = some (.cells (pc s.2) 29 (0, 0))) (hf1 : B ≤ f1) (hb1 : B ≤ b1) :
    Calls Tryd.prog 15 #[cloV b3 b4 b5, .pointer (some ⟨f1, 0, none⟩), .pointer (some ⟨b1, 0, none⟩)] w (TPost B cb f1 b1 v xs n D s w) := by
  have hmf : ∀ (fn : Fn) (first cap : Array Value) (w : World), (Instr.makeFunc fn first cap).run Tryd.prog w = .ok (.func fn first cap) w := fun _ _ _ _ => rfl
  have hnil : ∀ w, (binOp .eql 46 (cloV b3 b4 b5) .nilFunc).run Tryd.prog w = .ok (.bool false) w := fun w => by rfl
  obtain ⟨W3, hW3⟩ : ∃ W3, W3 = ((w.alloc (.cells #[cloV b3 b4 b5] 46)).alloc (.cells #[.int .i64 0] 33)).alloc (.cells #[.int .i64 0, .string ⟨#[]⟩, .int .i64 0] 29) := ⟨_, rfl⟩
  have hB3 : Below w.heap.size w W3 := by rw [hW3]; exact (((Below.refl _ _).alloc (Nat.le_refl _) _).alloc (by simp) _).alloc (by simp <;> omega) _
  have hg := guard_17 (w := (w.alloc (.cells #[cloV b3 b4 b5] 46)).alloc (.cells #[.int .i64 0] 33)) (fb := w.heap.size) (eb := w.heap.size + 1) (R := GD B cb (w.heap.size + 1) v xs n D W3) (by
    rw [← hW3]
    have hp3 : W3.heap[((w.alloc (.cells #[cloV b3 b4 b5] 46)).alloc (.cells #[.int .i64 0] 33)).heap.size]? = some (.cells (pc Pan.none) 29 (0, 0)) := by rw [hW3]; exact alloc_at _ _
    exact clo17 (hc.below hB3) (h.keep hc (Ft.of_below (T := T44) hB3 hB) (by simp [T44]) (by simp [T44]) (by simp [T44])) (Nat.le_trans hB hB3.size) hl
      (by rw [hW3]; exact (alloc_old _ _ _ (by simp <;> omega)).trans ((alloc_old _ _ _ (by simp)).trans (alloc_at _ _))) (by rw [hW3]; exact (alloc_old _ _ _ (by simp <;> omega)).trans (alloc_at' _ _ _ (by simp))) hp3)
  have he3 : W3.heap[w.heap.size + 1]? = some (.cells #[.int .i64 0] 33 (0, 0)) := by rw [hW3]; exact (alloc_old _ _ _ (by simp <;> omega)).trans (alloc_at' _ _ _ (by simp))
  have hp3 : W3.heap[w.heap.size + 1 + 1]? = some (.cells (pc Pan.none) 29 (0, 0)) := by rw [hW3]; exact alloc_at' _ _ _ (by simp)
  have hsz : ((w.alloc (.cells #[cloV b3 b4 b5] 46)).alloc (.cells #[.int .i64 0] 33)).heap.size = w.heap.size + 1 + 1 := by simp
  rw [hsz] at hg
  have H := Lib.hid (And.intro hc (And.intro hB (And.intro hf (And.intro hb (And.intro hB3 (And.intro he3 (And.intro hp3 (And.intro hf1 hb1))))))))
  have lf0 := (Array.getElem?_eq_some_iff.1 hf).1
  have lb0 := (Array.getElem?_eq_some_iff.1 hb).1
  unfold cloV at hg hnil ⊢
  clear hc h hf hb hW3 hB3 he3 hp3
  go_enter Tryd.func15, Tryd.ntmps15
  go_wp2_with fail
  refine hg.mono ?_
  clear hg
  rintro e w' hgp
  obtain ⟨rfl, v', hcs, hft, hf', hb', he'⟩ := guard_out H.out.1 H.out.2.1 H.out.2.2.1 H.out.2.2.2.1 H.out.2.2.2.2.1 H.out.2.2.2.2.2.1 H.out.2.2.2.2.2.2.1 hgp
  clear hgp
  have lf : f1 < w'.heap.size := (Array.getElem?_eq_some_iff.1 hf').1
  have lb : b1 < w'.heap.size := (Array.getElem?_eq_some_iff.1 hb').1
  have le : w.heap.size + 1 < w'.heap.size := (Array.getElem?_eq_some_iff.1 he').1
  have nf : ¬ f1 = w'.heap.size := by omega
  have nb : ¬ b1 = w'.heap.size := by omega
  have ne : ¬ w.heap.size + 1 = w'.heap.size := by omega
  have kf0 : w'.cell? ⟨f1, 0, none⟩ = some (.int .i64 s.1) := by rw [cell_of_block hf']; rfl
  have kb0 : w'.cell? ⟨b1, 0, none⟩ = some (.int .i64 s.2.sort) := by rw [cell_of_block hb']; rfl
  have kb1 : w'.cell? ⟨b1, 1, none⟩ = some (.string s.2.word) := by rw [cell_of_block hb']; rfl
  have kb2 : w'.cell? ⟨b1, 2, none⟩ = some (.int .i64 0) := by rw [cell_of_block hb']; rfl
  have zf : w'.frozen? ⟨f1, 0, none⟩ = false := frozen_of_block hf' 0
  have zb : ∀ i, w'.frozen? ⟨b1, i, none⟩ = false := fun i => frozen_of_block hb' i
  have ke : w'.cell? ⟨w.heap.size + 1, 0, none⟩ = some (.int .i64 (if (DQ D).isNone then D.e else 0)) := by rw [cell_of_block he']; rfl
  have nfb : ¬ f1 = b1 := by rintro rfl; rw [hf'] at hb'; simp only [Option.some.injEq, Obj.cells.injEq] at hb'; exact absurd hb'.2.1 (by decide)
  have nbf : ¬ b1 = f1 := fun e => nfb e.symm
  have H2 := Lib.hid (And.intro hcs (And.intro hft (And.intro hf' (And.intro hb' he'))))
  clear hcs hft hf' hb' he'
  unfold pc
  by_cases h0 : s.1 = 0
  · rw [h0] at kf0
    have HS := Lib.hid h0
    clear h0
    cases hq : DQ D with
    | none =>
      rw [hq] at ke
      dsimp only [Option.getD, Option.isNone, Pan.none] at ke ⊢
      have HQ := Lib.hid hq
      clear hq
      go_wp2_with fail
      go_end0
      obtain ⟨hcs, hft, hf', hb', he'⟩ := H2.out
      have e : stT D s = (D.e, s.2) := by unfold stT; rw [if_pos HS.out, HQ.out]
      refine ⟨rfl, ?_⟩
      rw [e]
      have h1 := TS.setf (f1 := f1) (b1 := b1) ⟨v', hcs, hft, hf', hb'⟩ hf1 D.e
      exact h1.below ((Below.refl _ _).alloc (Nat.le_refl _) _) (by have := H.out.2.1; simp; omega)
    | some p =>
      have hps : (p.sort != 0) = true := by
        unfold DQ at hq
        split at hq
        · cases hq; rfl
        · split at hq <;> cases hq; rfl
      rw [hq] at ke
      dsimp only [Option.getD, Option.isNone] at ke ⊢
      have HQ := Lib.hid hq
      clear hq
      go_wp2_with fail
      go_region
      all_goals go_wp2_with fail
      go_end0
      obtain ⟨hcs, hft, hf', hb', he'⟩ := H2.out
      have e : stT D s = (5, p) := by unfold stT; rw [if_pos HS.out, HQ.out]
      refine ⟨rfl, ?_⟩
      rw [e]
      have h1 := (TS.setf (f1 := f1) (b1 := b1) ⟨v', hcs, hft, hf', hb'⟩ hf1 5).setb hb1 p
      exact h1.below (below_dN (n := 1) ((Below.refl _ _).alloc (Nat.le_refl _) _)) (by have := H.out.2.1; simp [setP]; omega)
  · have hz : (s.1 == 0) = false := by simpa using h0
    have HS := Lib.hid h0
    clear h0
    obtain ⟨q, hq⟩ : ∃ q, (DQ D).getD Pan.none = q := ⟨_, rfl⟩
    rw [hq]
    clear hq
    go_wp2_with fail
    go_end0
    obtain ⟨hcs, hft, hf', hb', he'⟩ := H2.out
    have e : stT D s = s := by unfold stT; rw [if_neg HS.out]
    refine ⟨rfl, ?_⟩
    rw [e]
    exact TS.below ⟨v', hcs, hft, hf', hb'⟩ ((Below.refl _ _).alloc (Nat.le_refl _) _) (by have := H.out.2.1; omega)
end Go.Proofs.YtokfnlfadofmnaaDoor
