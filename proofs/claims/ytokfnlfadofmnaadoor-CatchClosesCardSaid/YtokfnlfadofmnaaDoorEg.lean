/- CatchCloses' walk: what is noted of what is wanted; the head. -/
import Derived.Test.YtokfnlfadofmnaaDoorEp
import Derived.Test.YtokfnlfadofmnaaDoorEo
import Derived.Deep.DeepCutAuto
import Derived.Deep.CutBlock
namespace Go.Proofs.YtokfnlfadofmnaaDoor
open Go.RowKit
set_option linter.unusedVariables false

/-- A row of the call's own, of numbers. -/
def OR (base : Nat) (W : World) (v : Value) (ys : List Int) : Prop := W.ownsRow base 3 1 v ys.length (ys.map (Value.int .i64))
theorem or_nil (base : Nat) (W : World) : OR base W (.slice none 0 0) [] := ⟨rfl, .inl ⟨rfl, rfl⟩⟩
/-- What stays where a row of v's grows. -/
def Stays (v : Value) (W W' : World) : Prop := ∀ b o, W.heap[b]? = some o → v.ownBlock ≠ some b → W'.heap[b]? = some o
theorem app3 {ops : Array Oper} {rest : List Oper} {o : Oper} {a : Act} {Q : Exit → Act → World → Prop} (hgd : o.guard = none) (s x : Operand) (ho : o.op = .call { callee := .builtin .append, args := #[s, x], argTypes := #[44, 44] })
    {w : World} {base : Nat} {n : Int} {v : Value} {ys : List Int} (hown : OR base w v ys) (hs : a.eval s = v) {g : Nat} (hx : a.eval x = .slice (some ⟨g, 0, none⟩) 1 1) (hgw : g = w.heap.size) (hk : ys.length ≤ 20000) (hb : base ≤ w.heap.size)
    (h : ∀ v' w', OR base w' v' (ys ++ [n]) → Below base w w' → Stays v w w' → w.heap.size ≤ w'.heap.size ∧ (∀ b, v'.ownBlock = some b → v.ownBlock = some b ∨ w.heap.size ≤ b) → wpList Tryd.prog ops Q rest (a.put o.dst v') w') : wpList Tryd.prog ops Q (o :: rest) a (w.alloc (.cells #[.int .i64 n] 3)) := by
  subst hgw
  obtain ⟨i0, hi, hz0, hz1, hz2⟩ := info3
  refine wpList_append_place (P := Tryd.prog) _ hgd s x 44 ho base 3 i0 _ 1 8 Tryd.underlying44 hi hz0 hz1 hz2 rfl (by decide) v ys.length (ys.map (Value.int .i64)) hs (World.ownsRow.alloc hown _) ⟨w.heap.size, 0, none⟩ 1 1 [.int .i64 n] hx rfl (fun j u hj => cells_new _ _ _ _ rfl j u (by simpa using hj)) (by simp [Value.oneCell']) (by simp only [maxLen]; omega) (by omega) (by simp; omega) (by decide) ?_
  intro v' w' h2 h3 hpl
  refine h v' w' (by unfold OR; rw [List.length_append, List.map_append]; exact h2) (((Below.refl base w).alloc hb _).grown h3 (by simp; omega) fun i hi => ?_) (fun b o hb2 hne => ?_) ?_
  · rcases hown.2 with ⟨rfl, _⟩ | ⟨g, cap, cur, rfl, hg, _⟩
    · cases hi
    · simp only [Value.ownBlock, Option.some.injEq] at hi; omega
  · have hl := (Array.getElem?_eq_some_iff.1 hb2).1
    rw [h3.block b (by simp; omega) (fun e => hne e.symm), alloc_old _ _ _ hl]; exact hb2
  · refine ⟨by have := h3.size; simp at this; omega, fun b hb => ?_⟩
    rcases hpl with e | e
    · exact .inl (by rw [← e]; exact hb)
    · rw [e] at hb; cases hb; exact .inr (by simp)
theorem OR.lt {base : Nat} {w : World} {v : Value} {ys : List Int} (h : OR base w v ys) {b : Nat} (hb : v.ownBlock = some b) : b < w.heap.size := by
  rcases h.2 with ⟨rfl, _⟩ | ⟨o, cap, c, rfl, _, hh, _⟩
  · cases hb
  · simp only [Value.ownBlock, Option.some.injEq] at hb; subst hb
    exact (Array.getElem?_eq_some_iff.1 hh).1
theorem OR.ne {base : Nat} {w : World} {v : Value} {ys : List Int} (h : OR base w v ys) {b : Nat} {cur : Array Value} {t : TypeId} {fr : Nat × Nat} (hb : w.heap[b]? = some (.cells cur t fr)) (ht : t ≠ 3) : v.ownBlock ≠ some b := by
  intro e
  rcases h.2 with ⟨rfl, _⟩ | ⟨o, cap, c, rfl, _, hh, _⟩
  · cases e
  · simp only [Value.ownBlock, Option.some.injEq] at e; subst e
    rw [hb] at hh; cases hh; exact ht rfl
/-- The head's own cells: the deed, what is called, what went wrong first. -/
structure WI (w : World) (D f : Ded) (W : World) : Prop where
  bel : Below w.heap.size w W
  c0 : W.heap[w.heap.size]? = some (.cells (dc D) 42 (0, 0))
  c1 : W.heap[w.heap.size + 1]? = some (.cells #[.slice none 0 0] 44 (0, 0))
  c2 : W.heap[w.heap.size + 1 + 1]? = some (.cells (dc f) 42 (0, 0))
theorem WI.stays {w W W' : World} {D f : Ded} {v : Value} {ys : List Int} (h : WI w D f W) (hown : OR w.heap.size W v ys) (hb : Below w.heap.size W W') (hs : Stays v W W') : WI w D f W' :=
  ⟨h.bel.trans hb, hs _ _ h.c0 (hown.ne h.c0 (by decide)), hs _ _ h.c1 (hown.ne h.c1 (by decide)), hs _ _ h.c2 (hown.ne h.c2 (by decide))⟩
/-- A deed stored. -/
def set3 (b : Nat) (D : Ded) (W : World) : World := ((W.setCell ⟨b, 0, none⟩ (.int .i64 D.kind)).setCell ⟨b, 1, none⟩ (.int .i64 D.e)).setCell ⟨b, 2, none⟩ (.string D.word)
theorem set3_at {b : Nat} {D f : Ded} {W : World} (h : W.heap[b]? = some (.cells (dc f) 42 (0, 0))) : (set3 b D W).heap[b]? = some (.cells (dc D) 42 (0, 0)) := by
  unfold set3
  rw [heap_setCell_same _ _ _ _ _ _ (heap_setCell_same _ _ _ _ _ _ (heap_setCell_same _ _ _ _ _ _ h))]; rfl
theorem set3_other {b k : Nat} {D : Ded} {W : World} (h : k ≠ b) : (set3 b D W).heap[k]? = W.heap[k]? := by
  unfold set3
  rw [Below.heap_setCell _ _ _ _ h, Below.heap_setCell _ _ _ _ h, Below.heap_setCell _ _ _ _ h]
theorem set3_below {b B : Nat} {D : Ded} {w0 W : World} (h : Below B w0 W) (hB : B ≤ b) : Below B w0 (set3 b D W) := ((h.setCell hB _).setCell hB _).setCell hB _
theorem WI.store {w W : World} {D f : Ded} (h : WI w D f W) (g : Ded) : WI w D g (set3 (w.heap.size + 1 + 1) g W) :=
  ⟨set3_below h.bel (by omega), (set3_other (by omega)).trans h.c0, (set3_other (by omega)).trans h.c1, set3_at h.c2⟩
theorem OR.store {base b : Nat} {W : World} {v : Value} {ys : List Int} {f g : Ded} (h : OR base W v ys) (hb : W.heap[b]? = some (.cells (dc f) 42 (0, 0))) : OR base (set3 b g W) v ys :=
  owns_keep h fun k cur e => set3_other (by rintro rfl; rw [hb] at e; cases e)
theorem info46 : ∃ i : TypeInfo, Tryd.prog.info? 46 = some i ∧ i.zero = some .nilFunc ∧ i.size = 1 ∧ i.bytes = 8 := info_parts (by kernel_rfl)
def OF (base : Nat) (W : World) (v : Value) (fs : List Value) : Prop := W.ownsRow base 46 1 v fs.length fs
theorem of_nil (base : Nat) (W : World) : OF base W (.slice none 0 0) [] := ⟨rfl, .inl ⟨rfl, rfl⟩⟩
theorem OF.ne {base : Nat} {w : World} {v : Value} {ys : List Value} (h : OF base w v ys) {b : Nat} {cur : Array Value} {t : TypeId} {fr : Nat × Nat} (hb : w.heap[b]? = some (.cells cur t fr)) (ht : t ≠ 46) : v.ownBlock ≠ some b := by
  intro e
  rcases h.2 with ⟨rfl, _⟩ | ⟨o, cap, c, rfl, _, hh, _⟩
  · cases e
  · simp only [Value.ownBlock, Option.some.injEq] at e; subst e
    rw [hb] at hh; cases hh; exact ht rfl
/-- A function appended. -/
theorem app46 {ops : Array Oper} {rest : List Oper} {o : Oper} {a : Act} {Q : Exit → Act → World → Prop} (hgd : o.guard = none) (s x : Operand) (ho : o.op = .call { callee := .builtin .append, args := #[s, x], argTypes := #[45, 45] })
    {w : World} {base : Nat} {f v : Value} {ys : List Value} (hown : OF base w v ys) (hs : a.eval s = v) {g : Nat} (hx : a.eval x = .slice (some ⟨g, 0, none⟩) 1 1) (hgw : g = w.heap.size) (hf : f.oneCell' = true) (hk : ys.length ≤ 20000) (hb : base ≤ w.heap.size)
    (h : ∀ v' w', OF base w' v' (ys ++ [f]) → Below base w w' → Stays v w w' → w.heap.size ≤ w'.heap.size → wpList Tryd.prog ops Q rest (a.put o.dst v') w') : wpList Tryd.prog ops Q (o :: rest) a (w.alloc (.cells #[f] 46)) := by
  subst hgw
  obtain ⟨i0, hi, hz0, hz1, hz2⟩ := info46
  refine wpList_append_own (P := Tryd.prog) _ hgd s x 45 ho base 46 i0 _ 1 8 Tryd.underlying45 hi hz0 hz1 hz2 rfl (by decide) v ys.length ys hs (World.ownsRow.alloc hown _) ⟨w.heap.size, 0, none⟩ 1 1 [f] hx rfl (fun j u hj => cells_new _ _ _ _ rfl j u (by simpa using hj)) (by simpa using hf) (by simp only [maxLen]; omega) (by omega) (by simp; omega) ?_
  intro v' w' h2 h3 _
  refine h v' w' (by unfold OF; rw [List.length_append]; exact h2) (((Below.refl base w).alloc hb _).grown h3 (by simp; omega) fun i hi => ?_) (fun b o hb2 hne => ?_) ?_
  · rcases hown.2 with ⟨rfl, _⟩ | ⟨g, cap, cur, rfl, hg, _⟩
    · cases hi
    · simp only [Value.ownBlock, Option.some.injEq] at hi; omega
  · have hl := (Array.getElem?_eq_some_iff.1 hb2).1
    rw [h3.block b (by simp; omega) (fun e => hne e.symm), alloc_old _ _ _ hl]; exact hb2
  · have := h3.size; simp at this; omega
theorem fvc_one {cb : Nat} {w : World} {v f : Value} {D : Ded} {n : Int} (h : FVc cb w v D n f) : f.oneCell' = true := by
  rcases h with ⟨_, rfl⟩ | ⟨_, b3, b4, b5, rfl, _⟩ <;> rfl
/-- Functions stay where cells of other types stay. -/
theorem FVc.cells {cb : Nat} {w w' : World} {v f : Value} {D : Ded} {n : Int} (h : FVc cb w v D n f) (hk : ∀ (b : Nat) (cur : Array Value) (t : TypeId), t = 42 ∨ t = 3 ∨ t = 48 → w.heap[b]? = some (.cells cur t (0, 0)) → w'.heap[b]? = some (.cells cur t (0, 0))) : FVc cb w' v D n f := by
  rcases h with h | ⟨h1, b3, b4, b5, h2, h⟩
  · exact .inl h
  · exact .inr ⟨h1, b3, b4, b5, h2, hk _ _ _ (by simp) h.c3, hk _ _ _ (by simp) h.c4, hk _ _ _ (by simp) h.c5, h.ne⟩
/-- The deed's box of a function lies beyond s. -/
def NF (s : Nat) (f : Value) : Prop := ∀ b3 b4 b5, f = cloV b3 b4 b5 → s < b3
/-- The first loop: functions made. -/
def L1 (w : World) (D f : Ded) (wv : Value) (R : Nat → Ded) (k : Nat) (lv : Value) (W : World) : Prop :=
  ∃ fs : List Value, fs.length = k ∧ WI w D f W ∧ OR w.heap.size W wv (cN D (-1)) ∧ OF w.heap.size W lv fs ∧ ∀ i, i < k → FVc (w.heap.size + 1) W wv (R i) i (fs.getD i undef) ∧ NF (w.heap.size + 1 + 1) (fs.getD i undef)
theorem WI.cs {w W : World} {D f : Ded} (h : WI w D f W) : CS w.heap.size (w.heap.size + 1) W (.slice none 0 0) [] := ⟨h.c1, ⟨rfl, .inl ⟨rfl, rfl⟩⟩, by omega⟩
theorem WI.below {w W W' : World} {D f : Ded} (h : WI w D f W) (hb : Below W.heap.size W W') : WI w D f W' :=
  ⟨h.bel.trans (hb.mono h.bel.size), (hb.block _ (Array.getElem?_eq_some_iff.1 h.c0).1).trans h.c0, (hb.block _ (Array.getElem?_eq_some_iff.1 h.c1).1).trans h.c1, (hb.block _ (Array.getElem?_eq_some_iff.1 h.c2).1).trans h.c2⟩
theorem L1.below {w W W' : World} {D f : Ded} {wv lv : Value} {R : Nat → Ded} {k : Nat} (h : L1 w D f wv R k lv W) (hb : Below W.heap.size W W') : L1 w D f wv R k lv W' := by
  obtain ⟨fs, h1, h2, h3, h4, h5⟩ := h
  exact ⟨fs, h1, h2.below hb, owns_keep h3 fun b cur e => hb.block _ (Array.getElem?_eq_some_iff.1 e).1, owns_keep h4 fun b cur e => hb.block _ (Array.getElem?_eq_some_iff.1 e).1, fun i hi => ⟨(h5 i hi).1.cells fun b cur t _ e => (hb.block _ (Array.getElem?_eq_some_iff.1 e).1).trans e, (h5 i hi).2⟩⟩
theorem L1.snoc {w W W' : World} {D f : Ded} {wv lv lv' fv : Value} {R : Nat → Ded} {k : Nat} {fs : List Value} (h1 : fs.length = k) (h2 : WI w D f W) (h3 : OR w.heap.size W wv (cN D (-1))) (h4 : OF w.heap.size W lv fs) (h5 : ∀ i, i < k → FVc (w.heap.size + 1) W wv (R i) i (fs.getD i undef) ∧ NF (w.heap.size + 1 + 1) (fs.getD i undef))
    (hf : FVc (w.heap.size + 1) W wv (R k) k fv) (hnf : NF (w.heap.size + 1 + 1) fv) (ho : OF w.heap.size W' lv' (fs ++ [fv])) (hb : Below w.heap.size W W') (hs : Stays lv W W') : L1 w D f wv R (k + 1) lv' W' := by
  have hk : ∀ (b : Nat) (cur : Array Value) (t : TypeId) (fr : Nat × Nat), t ≠ 46 → W.heap[b]? = some (.cells cur t fr) → W'.heap[b]? = some (.cells cur t fr) := fun b cur t fr ht e => hs b _ e (h4.ne e ht)
  have hk' : ∀ (b : Nat) (cur : Array Value) (t : TypeId), t = 42 ∨ t = 3 ∨ t = 48 → W.heap[b]? = some (.cells cur t (0, 0)) → W'.heap[b]? = some (.cells cur t (0, 0)) := fun b cur t ht e => hk b cur t _ (by rcases ht with rfl | rfl | rfl <;> decide) e
  refine ⟨fs ++ [fv], by simp [h1], ⟨h2.bel.trans hb, hk _ _ _ _ (by decide) h2.c0, hk _ _ _ _ (by decide) h2.c1, hk _ _ _ _ (by decide) h2.c2⟩, owns_keep h3 fun b cur e => by rw [hk b cur 3 _ (by decide) e, e], ho, fun i hi => ?_⟩
  by_cases hik : i < k
  · rw [List.getD, List.getElem?_append_left (by omega)]
    exact ⟨(h5 i hik).1.cells hk', (h5 i hik).2⟩
  · obtain rfl : i = k := by omega
    rw [List.getD, List.getElem?_append_right (by omega), h1, Nat.sub_self]
    exact ⟨hf.cells hk', hnf⟩
/-- The second loop: what is wanted. -/
structure L2 (w : World) (D f : Ded) (g : Bool) (wv : Value) (L : List Ded) (fs : List Value) (j : Nat) (lv : Value) (W : World) : Prop where
  rr : RR (accL L (sT D (0, Pan.none), cN D (-1)) (dn L.length j)).1 f g
  wi : WI w D f W
  or : OR w.heap.size W wv (accL L (sT D (0, Pan.none), cN D (-1)) (dn L.length j)).2
  of : OF w.heap.size W lv fs
  fv : ∀ i, i < L.length → FVc (w.heap.size + 1) W wv (L.getD i default) i (fs.getD i undef)
  nf : ∀ i, i < L.length → NF (w.heap.size + 1 + 1) (fs.getD i undef)
theorem L2.below {w W W' : World} {D f : Ded} {g : Bool} {wv lv : Value} {L : List Ded} {fs : List Value} {j : Nat} (h : L2 w D f g wv L fs j lv W) (hb : Below W.heap.size W W') : L2 w D f g wv L fs j lv W' :=
  ⟨h.rr, h.wi.below hb, owns_keep h.or fun b cur e => hb.block _ (Array.getElem?_eq_some_iff.1 e).1, owns_keep h.of fun b cur e => hb.block _ (Array.getElem?_eq_some_iff.1 e).1, fun i hi => (h.fv i hi).cells fun b cur t _ e => (hb.block _ (Array.getElem?_eq_some_iff.1 e).1).trans e, h.nf⟩
/-- A place passed over. -/
theorem L2.skip {w W : World} {D f : Ded} {g : Bool} {wv lv : Value} {L : List Ded} {fs : List Value} {j : Nat} (h : L2 w D f g wv L fs (j + 1) lv W) (hj : j < L.length) (h4 : (L.getD j default).kind = 4) : L2 w D f g wv L fs j lv W := by
  have e : accL L (sT D (0, Pan.none), cN D (-1)) (dn L.length j) = accL L (sT D (0, Pan.none), cN D (-1)) (dn L.length (j + 1)) := by
    rw [dn_pred hj, accL_snoc]
    show (sT (L.getD j default) _, _ ++ cN (L.getD j default) _) = _
    unfold sT cN
    rw [if_pos h4, if_pos h4, List.append_nil]
  exact ⟨by rw [e]; exact h.rr, h.wi, by rw [e]; exact h.or, h.of, h.fv, h.nf⟩
/-- A place noted. -/
theorem L2.note {w W W' : World} {D f : Ded} {g : Bool} {wv wv' lv : Value} {L : List Ded} {fs : List Value} {j : Nat} (h : L2 w D f g wv L fs (j + 1) lv W) (hj : j < L.length) (h4 : (L.getD j default).kind ≠ 4)
    (ho : OR w.heap.size W' wv' ((accL L (sT D (0, Pan.none), cN D (-1)) (dn L.length (j + 1))).2 ++ [(j : Int)])) (hb : Below w.heap.size W W') (hs : Stays wv W W') (hpl : ∀ b, wv'.ownBlock = some b → wv.ownBlock = some b ∨ W.heap.size ≤ b) :
    RR (accL L (sT D (0, Pan.none), cN D (-1)) (dn L.length j)).1 (if (!g && badD (L.getD j default)) = true then L.getD j default else f) (g || badD (L.getD j default)) ∧ WI w D f W' ∧ OR w.heap.size W' wv' (accL L (sT D (0, Pan.none), cN D (-1)) (dn L.length j)).2 ∧ OF w.heap.size W' lv fs ∧ ∀ i, i < L.length → FVc (w.heap.size + 1) W' wv' (L.getD i default) i (fs.getD i undef) := by
  have e : accL L (sT D (0, Pan.none), cN D (-1)) (dn L.length j) = (sT (L.getD j default) (accL L (sT D (0, Pan.none), cN D (-1)) (dn L.length (j + 1))).1, (accL L (sT D (0, Pan.none), cN D (-1)) (dn L.length (j + 1))).2 ++ cN (L.getD j default) j) := by
    rw [dn_pred hj, accL_snoc]
  refine ⟨by rw [e]; exact rr_step h.rr h4, h.wi.stays h.or hb hs, by rw [e]; unfold cN at *; rw [if_neg h4]; exact ho, owns_keep h.of fun b cur e => by rw [hs b _ e (h.or.ne e (by decide)), e], fun i hi => ?_⟩
  rcases h.fv i hi with hn | ⟨e1, b3, b4, b5, e2, hcl⟩
  · exact .inl hn
  · refine .inr ⟨e1, b3, b4, b5, e2, hs _ _ hcl.c3 (h.or.ne hcl.c3 (by decide)), hs _ _ hcl.c4 hcl.ne, hs _ _ hcl.c5 (h.or.ne hcl.c5 (by decide)), fun e3 => ?_⟩
    rcases hpl _ e3 with h6 | h6
    · exact hcl.ne h6
    · have := (Array.getElem?_eq_some_iff.1 hcl.c4).1; omega
theorem L2.store {w W : World} {D f : Ded} {g : Bool} {wv lv : Value} {L : List Ded} {fs : List Value} {j : Nat} {h : Ded} (hr : RR (accL L (sT D (0, Pan.none), cN D (-1)) (dn L.length j)).1 h g) (h1 : WI w D f W) (h2 : OR w.heap.size W wv (accL L (sT D (0, Pan.none), cN D (-1)) (dn L.length j)).2) (h3 : OF w.heap.size W lv fs) (h4 : ∀ i, i < L.length → FVc (w.heap.size + 1) W wv (L.getD i default) i (fs.getD i undef)) (hnf : ∀ i, i < L.length → NF (w.heap.size + 1 + 1) (fs.getD i undef)) : L2 w D h g wv L fs j lv (set3 (w.heap.size + 1 + 1) h W) := by
  refine ⟨hr, h1.store h, h2.store h1.c2, owns_keep h3 fun k cur e => set3_other (by rintro rfl; have := h1.c2; rw [this] at e; cases e), fun i hi => ?_, hnf⟩
  rcases h4 i hi with hn | ⟨e1, b3, b4, b5, e2, hcl⟩
  · exact .inl hn
  · refine .inr ⟨e1, b3, b4, b5, e2, (set3_other (by have := hnf i hi b3 b4 b5 e2; omega)).trans hcl.c3, (set3_other (by rintro rfl; have := hcl.c4; rw [h1.c2] at this; simp only [Option.some.injEq, Obj.cells.injEq] at this; exact absurd this.2.1 (by decide))).trans hcl.c4, (set3_other (by rintro rfl; have := hcl.c5; rw [h1.c2] at this; simp only [Option.some.injEq, Obj.cells.injEq] at this; exact absurd this.2.1 (by decide))).trans hcl.c5, hcl.ne⟩
theorem FVc.toNone {cb : Nat} {w : World} {v f : Value} {D : Ded} {n : Int} (h : FVc cb w v D n f) : FVc cb w (.slice none 0 0) D n f := by
  rcases h with h | ⟨h1, b3, b4, b5, h2, h⟩
  · exact .inl h
  · exact .inr ⟨h1, b3, b4, b5, h2, h.c3, h.c4, h.c5, by intro e; cases e⟩
theorem OF.form {base k lc : Nat} {W : World} {la : Option Addr} {fs : List Value} (h : OF base W (.slice la k lc) fs) (hk : fs.length = k) (h0 : 0 < W.heap.size) : ∃ (LB : Nat) (cur : Array Value), LB < W.heap.size ∧ (0 < k → la = some ⟨LB, 0, none⟩ ∧ W.heap[LB]? = some (.cells cur 46 (0, 0))) ∧ ∀ i, i < k → cur[i]? = some (fs.getD i undef) := by
  rcases h.2 with ⟨e, _⟩ | ⟨o, cap, c, e, _, hh, _, _, _, ht⟩
  · cases e
    exact ⟨0, #[], h0, fun h => by omega, fun i hi => by omega⟩
  · cases e
    refine ⟨o, c, (Array.getElem?_eq_some_iff.1 hh).1, fun _ => ⟨rfl, hh⟩, fun i hi => ?_⟩
    have e2 : fs[i]? = c.toList[i]? := by rw [← ht, List.getElem?_take, if_pos (by omega)]
    rw [← Array.getElem?_toList, ← e2, List.getD, List.getElem?_eq_getElem (by omega)]; rfl
theorem or_cell {base m uc : Nat} {W : World} {ua : Option Addr} {ys : List Int} (h : OR base W (.slice ua m uc) ys) {j : Nat} (hj : j < ys.length) : ∃ g, ua = some ⟨g, 0, none⟩ ∧ W.cell? ⟨g, j, none⟩ = some (.int .i64 (ys.getD j 0)) := by
  rcases h.2 with ⟨_, e⟩ | ⟨o, cap, c, e, _, hh, _, _, _, ht⟩
  · omega
  · cases e
    refine ⟨o, rfl, ?_⟩
    have e2 : (ys.map (Value.int .i64))[j]? = c.toList[j]? := by rw [← ht, List.getElem?_take, if_pos (by omega)]
    rw [cell_of_block hh, ← Array.getElem?_toList, ← e2]
    simp [List.getD, hj]
/-- WALK -/
def R1 (w : World) (D : Ded) (wv s9 : Value) (W : World) : Prop := ∃ f g, s9 = .bool g ∧ RR (sT D (0, Pan.none)) f g ∧ OR w.heap.size W wv (cN D (-1)) ∧ WI w D f W
set_option maxRecDepth 100000 in
set_option maxHeartbeats 4000000 in
theorem closes_any (w : World) (htab : Lib.TabIs Tryd.prog w "internal/strconv.uint64pow10" .u64 Lib.pow10Tab) (hw0 : 0 < w.heap.size) (D : Ded) (ca : Option Addr) (n cap : Nat) (R : Nat → Ded) (hin : DeedsIn w ca n R) (hnl : n ≤ maxLen) :
    Calls Tryd.prog 4 #[.agg #[.int .i64 D.kind, .int .i64 D.e, .string D.word], .slice ca n cap] w fun e w' => e = .returned (.bool true) ∧ Below w.heap.size w w' := by
  obtain ⟨WS, hWS⟩ : ∃ WS, WS = ((w.alloc (.cells #[.int .i64 D.kind, .int .i64 D.e, .string D.word] 42)).alloc (.cells #[.slice none 0 0] 44)).alloc (.cells #[.int .i64 0, .int .i64 0, .string ⟨#[]⟩] 42) := ⟨_, rfl⟩
  have hWI : WI w D ⟨0, 0, ⟨#[]⟩⟩ WS := ⟨by rw [hWS]; exact (((Below.refl _ _).alloc (Nat.le_refl _) _).alloc (by simp) _).alloc (by simp <;> omega) _,
    by rw [hWS]; exact (alloc_old _ _ _ (by simp <;> omega)).trans ((alloc_old _ _ _ (by simp)).trans (alloc_at _ _)), by rw [hWS]; exact (alloc_old _ _ _ (by simp)).trans (alloc_at' _ _ _ (by simp)), by rw [hWS]; exact alloc_at' _ _ _ (by simp)⟩
  have HT := Lib.hid (And.intro htab (And.intro hin hnl))
  have HW := Lib.hid (And.intro hWI hWS)
  clear htab hin hnl hWI hWS
  go_enter Tryd.func4, Tryd.ntmps4
  go_upto_if 18 with fail
  go_cut [6, 9] from 16 to 35 (fun s6 s9 wx => R1 w D s6 s9 wx)
  case first =>
    by_cases h4 : D.kind = 4
    · have z : (D.kind != 4) = false := by simp [h4]
      have H4 := Lib.hid h4
      clear h4
      go_wp2_with fail
      go_meet
      refine ⟨⟨0, 0, ⟨#[]⟩⟩, false, rfl, rr_none H4.out, ?_, by rw [← HW.out.2]; exact HW.out.1⟩
      unfold cN; rw [if_pos H4.out]; exact or_nil _ _
    · have z : (D.kind != 4) = true := by simpa using h4
      have hc : cN D (-1) = [-1] := by unfold cN; rw [if_neg h4]
      have hr := rr_first h4
      by_cases hbad : badD D = true
      · rw [hbad, if_pos rfl] at hr
        have HR := Lib.hid (And.intro hr hc)
        rcases (show (1 ≤ D.kind ∧ D.kind ≤ 3) ∨ (D.kind < 1 ∧ D.e ≠ 0) ∨ (3 < D.kind ∧ D.e ≠ 0) by
          simp [badD] at hbad; omega) with hk | hk | hk
        · have y1 : decide (D.kind ≥ 1) = true := by simp; omega
          have y2 : decide (D.kind ≤ 3) = true := by simp; omega
          clear hk hbad hr hc h4
          go_wp2_with (first | (at_builtin; refine app3 rfl (.tmp 19) (.tmp 20) rfl (or_nil w.heap.size _) rfl rfl (by simp) (by simp) (by simp <;> omega) ?_; intro wv w1 hown hb1 hst1 hsz1; have hwi := HW.out.1.stays (by rw [HW.out.2]; exact or_nil _ _) (by rw [HW.out.2]; exact hb1) (by rw [HW.out.2]; exact hst1); have d0 : w1.cell? ⟨w.heap.size, 0, none⟩ = some (.int .i64 D.kind) := (by rw [cell_of_block hwi.c0]; rfl); have d1 : w1.cell? ⟨w.heap.size, 1, none⟩ = some (.int .i64 D.e) := (by rw [cell_of_block hwi.c0]; rfl); have d2 : w1.cell? ⟨w.heap.size, 2, none⟩ = some (.string D.word) := (by rw [cell_of_block hwi.c0]; rfl); have g0 : w1.cell? ⟨w.heap.size + 1 + 1, 0, none⟩ = some (.int .i64 0) := (by rw [cell_of_block hwi.c2]; rfl); have g1 : w1.cell? ⟨w.heap.size + 1 + 1, 1, none⟩ = some (.int .i64 0) := (by rw [cell_of_block hwi.c2]; rfl); have g2 : w1.cell? ⟨w.heap.size + 1 + 1, 2, none⟩ = some (.string ⟨#[]⟩) := (by rw [cell_of_block hwi.c2]; rfl); have gf : ∀ i, w1.frozen? ⟨w.heap.size + 1 + 1, i, none⟩ = false := fun i => frozen_of_block hwi.c2 i; have HV := Lib.hid (And.intro hown hwi); clear hown hb1 hst1 hwi))
          go_meet
          exact ⟨D, true, rfl, HR.out.1, by rw [HR.out.2]; exact HV.out.1.store HV.out.2.c2, HV.out.2.store D⟩
        · have y1 : decide (D.kind ≥ 1) = false := by simp; omega
          have y3 : (D.e != 0) = true := by simpa using hk.2
          clear hk hbad hr hc h4
          go_wp2_with (first | (at_builtin; refine app3 rfl (.tmp 19) (.tmp 20) rfl (or_nil w.heap.size _) rfl rfl (by simp) (by simp) (by simp <;> omega) ?_; intro wv w1 hown hb1 hst1 hsz1; have hwi := HW.out.1.stays (by rw [HW.out.2]; exact or_nil _ _) (by rw [HW.out.2]; exact hb1) (by rw [HW.out.2]; exact hst1); have d0 : w1.cell? ⟨w.heap.size, 0, none⟩ = some (.int .i64 D.kind) := (by rw [cell_of_block hwi.c0]; rfl); have d1 : w1.cell? ⟨w.heap.size, 1, none⟩ = some (.int .i64 D.e) := (by rw [cell_of_block hwi.c0]; rfl); have d2 : w1.cell? ⟨w.heap.size, 2, none⟩ = some (.string D.word) := (by rw [cell_of_block hwi.c0]; rfl); have g0 : w1.cell? ⟨w.heap.size + 1 + 1, 0, none⟩ = some (.int .i64 0) := (by rw [cell_of_block hwi.c2]; rfl); have g1 : w1.cell? ⟨w.heap.size + 1 + 1, 1, none⟩ = some (.int .i64 0) := (by rw [cell_of_block hwi.c2]; rfl); have g2 : w1.cell? ⟨w.heap.size + 1 + 1, 2, none⟩ = some (.string ⟨#[]⟩) := (by rw [cell_of_block hwi.c2]; rfl); have gf : ∀ i, w1.frozen? ⟨w.heap.size + 1 + 1, i, none⟩ = false := fun i => frozen_of_block hwi.c2 i; have HV := Lib.hid (And.intro hown hwi); clear hown hb1 hst1 hwi))
          go_meet
          exact ⟨D, true, rfl, HR.out.1, by rw [HR.out.2]; exact HV.out.1.store HV.out.2.c2, HV.out.2.store D⟩
        · have y1 : decide (D.kind ≥ 1) = true := by simp; omega
          have y2 : decide (D.kind ≤ 3) = false := by simp; omega
          have y3 : (D.e != 0) = true := by simpa using hk.2
          clear hk hbad hr hc h4
          go_wp2_with (first | (at_builtin; refine app3 rfl (.tmp 19) (.tmp 20) rfl (or_nil w.heap.size _) rfl rfl (by simp) (by simp) (by simp <;> omega) ?_; intro wv w1 hown hb1 hst1 hsz1; have hwi := HW.out.1.stays (by rw [HW.out.2]; exact or_nil _ _) (by rw [HW.out.2]; exact hb1) (by rw [HW.out.2]; exact hst1); have d0 : w1.cell? ⟨w.heap.size, 0, none⟩ = some (.int .i64 D.kind) := (by rw [cell_of_block hwi.c0]; rfl); have d1 : w1.cell? ⟨w.heap.size, 1, none⟩ = some (.int .i64 D.e) := (by rw [cell_of_block hwi.c0]; rfl); have d2 : w1.cell? ⟨w.heap.size, 2, none⟩ = some (.string D.word) := (by rw [cell_of_block hwi.c0]; rfl); have g0 : w1.cell? ⟨w.heap.size + 1 + 1, 0, none⟩ = some (.int .i64 0) := (by rw [cell_of_block hwi.c2]; rfl); have g1 : w1.cell? ⟨w.heap.size + 1 + 1, 1, none⟩ = some (.int .i64 0) := (by rw [cell_of_block hwi.c2]; rfl); have g2 : w1.cell? ⟨w.heap.size + 1 + 1, 2, none⟩ = some (.string ⟨#[]⟩) := (by rw [cell_of_block hwi.c2]; rfl); have gf : ∀ i, w1.frozen? ⟨w.heap.size + 1 + 1, i, none⟩ = false := fun i => frozen_of_block hwi.c2 i; have HV := Lib.hid (And.intro hown hwi); clear hown hb1 hst1 hwi))
          go_meet
          exact ⟨D, true, rfl, HR.out.1, by rw [HR.out.2]; exact HV.out.1.store HV.out.2.c2, HV.out.2.store D⟩
      · have hb0 : badD D = false := by simpa using hbad
        rw [hb0, if_neg (by simp)] at hr
        have HR := Lib.hid (And.intro hr hc)
        have he : D.e = 0 := by simp [badD] at hb0; exact hb0.2
        have hk : D.kind < 1 ∨ 3 < D.kind := by simp [badD] at hb0; omega
        have y3 : (D.e != 0) = false := by simp [he]
        rcases hk with hk | hk
        · have y1 : decide (D.kind ≥ 1) = false := by simp; omega
          clear hk hbad hr hc h4 hb0 he
          go_wp2_with (first | (at_builtin; refine app3 rfl (.tmp 19) (.tmp 20) rfl (or_nil w.heap.size _) rfl rfl (by simp) (by simp) (by simp <;> omega) ?_; intro wv w1 hown hb1 hst1 hsz1; have hwi := HW.out.1.stays (by rw [HW.out.2]; exact or_nil _ _) (by rw [HW.out.2]; exact hb1) (by rw [HW.out.2]; exact hst1); have d0 : w1.cell? ⟨w.heap.size, 0, none⟩ = some (.int .i64 D.kind) := (by rw [cell_of_block hwi.c0]; rfl); have d1 : w1.cell? ⟨w.heap.size, 1, none⟩ = some (.int .i64 D.e) := (by rw [cell_of_block hwi.c0]; rfl); have d2 : w1.cell? ⟨w.heap.size, 2, none⟩ = some (.string D.word) := (by rw [cell_of_block hwi.c0]; rfl); have g0 : w1.cell? ⟨w.heap.size + 1 + 1, 0, none⟩ = some (.int .i64 0) := (by rw [cell_of_block hwi.c2]; rfl); have g1 : w1.cell? ⟨w.heap.size + 1 + 1, 1, none⟩ = some (.int .i64 0) := (by rw [cell_of_block hwi.c2]; rfl); have g2 : w1.cell? ⟨w.heap.size + 1 + 1, 2, none⟩ = some (.string ⟨#[]⟩) := (by rw [cell_of_block hwi.c2]; rfl); have gf : ∀ i, w1.frozen? ⟨w.heap.size + 1 + 1, i, none⟩ = false := fun i => frozen_of_block hwi.c2 i; have HV := Lib.hid (And.intro hown hwi); clear hown hb1 hst1 hwi))
          go_meet
          exact ⟨_, false, rfl, HR.out.1, by rw [HR.out.2]; exact HV.out.1, HV.out.2⟩
        · have y1 : decide (D.kind ≥ 1) = true := by simp; omega
          have y2 : decide (D.kind ≤ 3) = false := by simp; omega
          clear hk hbad hr hc h4 hb0 he
          go_wp2_with (first | (at_builtin; refine app3 rfl (.tmp 19) (.tmp 20) rfl (or_nil w.heap.size _) rfl rfl (by simp) (by simp) (by simp <;> omega) ?_; intro wv w1 hown hb1 hst1 hsz1; have hwi := HW.out.1.stays (by rw [HW.out.2]; exact or_nil _ _) (by rw [HW.out.2]; exact hb1) (by rw [HW.out.2]; exact hst1); have d0 : w1.cell? ⟨w.heap.size, 0, none⟩ = some (.int .i64 D.kind) := (by rw [cell_of_block hwi.c0]; rfl); have d1 : w1.cell? ⟨w.heap.size, 1, none⟩ = some (.int .i64 D.e) := (by rw [cell_of_block hwi.c0]; rfl); have d2 : w1.cell? ⟨w.heap.size, 2, none⟩ = some (.string D.word) := (by rw [cell_of_block hwi.c0]; rfl); have g0 : w1.cell? ⟨w.heap.size + 1 + 1, 0, none⟩ = some (.int .i64 0) := (by rw [cell_of_block hwi.c2]; rfl); have g1 : w1.cell? ⟨w.heap.size + 1 + 1, 1, none⟩ = some (.int .i64 0) := (by rw [cell_of_block hwi.c2]; rfl); have g2 : w1.cell? ⟨w.heap.size + 1 + 1, 2, none⟩ = some (.string ⟨#[]⟩) := (by rw [cell_of_block hwi.c2]; rfl); have gf : ∀ i, w1.frozen? ⟨w.heap.size + 1 + 1, i, none⟩ = false := fun i => frozen_of_block hwi.c2 i; have HV := Lib.hid (And.intro hown hwi); clear hown hb1 hst1 hwi))
          go_meet
          exact ⟨_, false, rfl, HR.out.1, by rw [HR.out.2]; exact HV.out.1, HV.out.2⟩
  case rest =>
    obtain ⟨f, g, rfl, hRR, hOR, hWI⟩ := hcut
    have HC := Lib.hid (And.intro hRR (And.intro hOR hWI))
    clear hRR hOR hWI HW
    go_upto_block 0 with fail
    go_cut [7, 10] from 36 to 54 (fun lv s10 wx => ∃ k : Nat, k ≤ n ∧ k ≤ 20 ∧ L1 w D f u6 R k lv wx)
    case first =>
      go_wp2_with fail
      go_loopw [7, 10] (fun lv i wr => ∃ k : Nat, k ≤ n ∧ k ≤ 20 ∧ i = .int .i64 k ∧ L1 w D f u6 R k lv wr) (fun lv i wr => 20 - (intOf i).toNat)
      case atStart => exact ⟨0, Nat.zero_le _, Nat.zero_le _, rfl, [], rfl, HC.out.2.2, HC.out.2.1, of_nil _ _, fun i hi => by omega⟩
      case round =>
        obtain ⟨k, hkn, hk20, rfl, hL⟩ := hrel
        by_cases hlt : k < n ∧ k < 20
        · have y1 : decide ((k : Int) < (n : Int)) = true := decide_eq_true (by omega)
          have y2 : decide ((k : Int) < 20) = true := decide_eq_true (by omega)
          obtain ⟨q, rfl, hq⟩ := HT.out.2.1 (by omega)
          obtain ⟨e0, e1, e2⟩ := hq k hlt.1
          clear hq
          obtain ⟨fs, h1, h2, h3, h4, h5⟩ := hL
          have e0' := (h2.bel.cell (block_lt e0)).trans e0
          have e1' := (h2.bel.cell (block_lt e1)).trans e1
          have e2' := (h2.bel.cell (block_lt e2)).trans e2
          have hlt1 := hlt.1
          have hlt20 := hlt.2
          have hdeed := deed_any (cb := w.heap.size + 1) (w := wr) (D := R k) (n := k)
          have HL := Lib.hid (And.intro h1 (And.intro h2 (And.intro h3 (And.intro h4 (And.intro h5 hlt)))))
          clear h1 h2 h3 h4 h5 hlt e0 e1 e2
          go_wp2_with fail
          refine hdeed.mono ?_
          clear hdeed e0' e1' e2' y1 y2
          rintro e w2 ⟨fv, rfl, hfa, hb2, hs2, hnf⟩
          have HNF := Lib.hid (show NF (w.heap.size + 1 + 1) fv from fun b3 b4 b5 h => by have h1 := hnf b3 b4 b5 h; have h2 := (Array.getElem?_eq_some_iff.1 HL.out.2.1.c2).1; omega)
          clear hnf
          have hfv := hfa u6 (fun b hb => OR.lt HL.out.2.2.1 hb)
          clear hfa
          obtain ⟨fs2, k1, k2, k3, k4, k5⟩ := L1.below ⟨fs, HL.out.1, HL.out.2.1, HL.out.2.2.1, HL.out.2.2.2.1, HL.out.2.2.2.2.1⟩ hb2
          have HK := Lib.hid (And.intro k1 (And.intro k2 (And.intro k3 (And.intro k4 (And.intro k5 HL.out.2.2.2.2.2)))))
          clear k1 k2 k3 k4 k5 HL hb2
          have HF := Lib.hid hfv
          rcases hfv with ⟨_, rfl⟩ | ⟨_, b3, b4, b5, rfl, _⟩
          · go_wp2_with (at_builtin; refine app46 rfl (.tmp 46) (.tmp 53) rfl (HK.out.2.2.2.1) rfl rfl (by simp) (by rfl) (by have := HK.out.1; omega) (by have := HK.out.2.1.bel.size; omega) ?_; intro lv' w3 hown3 hb3 hst3 hsz3; have H3 := Lib.hid (And.intro hown3 (And.intro hb3 hst3)); clear hown3 hb3 hst3)
            go_roundw
            case rel => exact ⟨k + 1, by omega, by omega, by go_num, L1.snoc HK.out.1 HK.out.2.1 HK.out.2.2.1 HK.out.2.2.2.1 HK.out.2.2.2.2.1 HF.out HNF.out H3.out.1 H3.out.2.1 H3.out.2.2⟩
            case measure => simp [intOf] <;> omega

          · unfold cloV
            go_wp2_with (at_builtin; refine app46 rfl (.tmp 46) (.tmp 53) rfl (HK.out.2.2.2.1) rfl rfl (by simp) (by rfl) (by have := HK.out.1; omega) (by have := HK.out.2.1.bel.size; omega) ?_; intro lv' w3 hown3 hb3 hst3 hsz3; have H3 := Lib.hid (And.intro hown3 (And.intro hb3 hst3)); clear hown3 hb3 hst3)
            go_roundw
            case rel => exact ⟨k + 1, by omega, by omega, by go_num, L1.snoc HK.out.1 HK.out.2.1 HK.out.2.2.1 HK.out.2.2.2.1 HK.out.2.2.2.2.1 HF.out HNF.out H3.out.1 H3.out.2.1 H3.out.2.2⟩
            case measure => simp [intOf] <;> omega

        · by_cases hkn2 : k < n
          · have y1 : decide ((k : Int) < (n : Int)) = true := decide_eq_true (by omega)
            have y2 : decide ((k : Int) < 20) = false := decide_eq_false (by omega)
            have HL := Lib.hid hL
            clear hL hlt
            go_wp2_with fail
            go_meet
            exact ⟨k, hkn, hk20, HL.out⟩
          · have y1 : decide ((k : Int) < (n : Int)) = false := decide_eq_false (by omega)
            have HL := Lib.hid hL
            clear hL hlt
            go_wp2_with fail
            go_meet
            exact ⟨k, hkn, hk20, HL.out⟩
    case rest =>
      obtain ⟨k, hkn, hk20, hL⟩ := hcut
      obtain ⟨fs, hfl, hWI, hOR, hOF, hFV⟩ := hL
      obtain ⟨la, lc, hlv⟩ := own_form (show World.ownsRow _ _ _ _ _ _ _ from hOF)
      subst hlv
      obtain ⟨L, hLd⟩ : ∃ L, L = (List.range k).map R := ⟨_, rfl⟩
      have hLl : L.length = k := by rw [hLd]; simp
      have hLg : ∀ i, i < k → L.getD i default = R i := fun i hi => by rw [hLd]; simp [List.getD, hi]
      have h2 : L2 w D f g u6 L fs k (.slice la fs.length lc) wc := by
        have e : dn L.length k = [] := by rw [← hLl]; exact dn_len _
        exact ⟨by rw [e]; exact HC.out.1, hWI, by rw [e]; exact hOR, hOF, fun i hi => by rw [hLg i (by omega)]; exact (hFV i (by omega)).1, fun i hi => (hFV i (by omega)).2⟩
      rw [hfl] at h2 ⊢
      have HL := Lib.hid (And.intro h2 (And.intro hLl (And.intro hLg hfl)))
      clear hWI hOR hOF hFV h2 hLd hLl hLg hfl HC
      go_upto_block 2 with fail
      go_cut [6, 9, 11, 12] from 58 to 90 (fun wv s9 s11 s12 wx => ∃ f g, s9 = .bool g ∧ L2 w D f g wv L fs 0 (.slice la k lc) wx)
      case first =>
        go_wp2_with fail
        go_loopw [6, 9, 11, 12] (fun wv s9 i s12 wr => ∃ (j : Nat) (f : Ded) (g : Bool), j ≤ k ∧ i = .int .i64 ((j : Int) - 1) ∧ s9 = .bool g ∧ L2 w D f g wv L fs j (.slice la k lc) wr) (fun wv s9 i s12 wr => (intOf i + 1).toNat)
        case atStart => exact ⟨k, f, g, Nat.le_refl _, rfl, rfl, HL.out.1⟩
        case round =>
          obtain ⟨j, f, g, hj, rfl, rfl, hL2⟩ := hrel
          cases j with
          | zero =>
            have H2 := Lib.hid hL2
            clear hL2
            go_wp2_with fail
            go_meet
            exact ⟨f, g, rfl, H2.out⟩
          | succ j =>
            have e1 : ((j + 1 : Nat) : Int) - 1 = (j : Int) := by omega
            rw [e1]
            obtain ⟨q, rfl, hq⟩ := HT.out.2.1 (by omega)
            obtain ⟨e0, e1', e2⟩ := hq j (by omega)
            clear hq
            have x0 := (hL2.wi.bel.cell (block_lt e0)).trans e0
            have x1 := (hL2.wi.bel.cell (block_lt e1')).trans e1'
            have x2 := (hL2.wi.bel.cell (block_lt e2)).trans e2
            have hjn : j < n := by omega
            have H2 := Lib.hid hL2
            clear hL2 e0 e1' e2
            by_cases h4 : (R j).kind = 4
            · have z : ((R j).kind == 4) = true := by simp [h4]
              have H4 := Lib.hid h4
              clear h4
              go_wp2_with fail
              go_roundw
              case rel => exact ⟨j, f, g, by omega, by rfl, by rfl, L2.skip (H2.out.below ((Below.refl _ _).alloc (Nat.le_refl _) _)) (by have := HL.out.2.1; omega) (by rw [HL.out.2.2.1 _ (by omega)]; exact H4.out)⟩
              case measure => simp [intOf] <;> omega
            · have z : ((R j).kind == 4) = false := by simpa using h4
              have hal := accL_len L (sT D (0, Pan.none), cN D (-1)) (dn L.length (j + 1))
              have hcl := cN_len D (-1)
              have hdl : (dn L.length (j + 1)).length ≤ 20 := by rw [dn_length]; have := HL.out.2.1; omega
              have HN := Lib.hid (show j < L.length ∧ (L.getD j default).kind ≠ 4 ∧ (accL L (sT D (0, Pan.none), cN D (-1)) (dn L.length (j + 1))).2.length ≤ 30 from ⟨by have := HL.out.2.1; omega, by rw [HL.out.2.2.1 _ (by omega)]; exact h4, by simp only at hal; omega⟩)
              have hLj : L.getD j default = R j := HL.out.2.2.1 _ (by omega)
              have HA := Lib.hid (L2.below H2.out ((Below.refl wr.heap.size wr).alloc (Nat.le_refl _) (.cells #[.int .i64 (R j).kind, .int .i64 (R j).e, .string (R j).word] 42)))
              clear hal hcl hdl h4
              cases g with
              | true =>
                have HN2 := Lib.hid hLj
                clear hLj
                go_wp2_with (first | (at_builtin; refine app3 rfl (.tmp 69) (.tmp 71) rfl HA.out.or rfl rfl (by simp) (by have := HN.out.2.2; omega) (by have := HA.out.wi.bel.size; omega) ?_; intro wv' w1 hown hb1 hst1 hsz1; have n2 := HA.out.note HN.out.1 HN.out.2.1 hown hb1 hst1 hsz1.2; have hx := hst1 _ _ (alloc_at wr (.cells #[.int .i64 (R j).kind, .int .i64 (R j).e, .string (R j).word] 42)) (HA.out.or.ne (alloc_at wr (.cells #[.int .i64 (R j).kind, .int .i64 (R j).e, .string (R j).word] 42)) (by decide)); have d0 : w1.cell? ⟨wr.heap.size, 0, none⟩ = some (.int .i64 (R j).kind) := (by rw [cell_of_block hx]; rfl); have d1 : w1.cell? ⟨wr.heap.size, 1, none⟩ = some (.int .i64 (R j).e) := (by rw [cell_of_block hx]; rfl); have d2 : w1.cell? ⟨wr.heap.size, 2, none⟩ = some (.string (R j).word) := (by rw [cell_of_block hx]; rfl); have g0 : w1.cell? ⟨w.heap.size + 1 + 1, 0, none⟩ = some (.int .i64 f.kind) := (by rw [cell_of_block n2.2.1.c2]; rfl); have g1 : w1.cell? ⟨w.heap.size + 1 + 1, 1, none⟩ = some (.int .i64 f.e) := (by rw [cell_of_block n2.2.1.c2]; rfl); have g2 : w1.cell? ⟨w.heap.size + 1 + 1, 2, none⟩ = some (.string f.word) := (by rw [cell_of_block n2.2.1.c2]; rfl); have gf : ∀ i, w1.frozen? ⟨w.heap.size + 1 + 1, i, none⟩ = false := fun i => frozen_of_block n2.2.1.c2 i; have HV := Lib.hid n2; clear n2 hown hb1 hst1 hx))
                go_roundw
                case rel => exact ⟨j, f, true, by omega, by rfl, by rfl, ⟨by have := HV.out.1; rw [HN2.out] at this; simpa using this, HV.out.2.1, HV.out.2.2.1, HV.out.2.2.2.1, HV.out.2.2.2.2, HA.out.nf⟩⟩
                case measure => simp [intOf] <;> omega

              | false =>
                have HN2 := Lib.hid hLj
                clear hLj
                by_cases hbad : badD (R j) = true
                · have HBD := Lib.hid hbad
                  rcases (show (1 ≤ (R j).kind ∧ (R j).kind ≤ 3) ∨ ((R j).kind < 1 ∧ (R j).e ≠ 0) ∨ (3 < (R j).kind ∧ (R j).e ≠ 0) by
                    simp [badD] at hbad; omega) with hk | hk | hk
                  · have y1 : decide ((R j).kind ≥ 1) = true := by simp; omega
                    have y2 : decide ((R j).kind ≤ 3) = true := by simp; omega
                    clear hk hbad
                    go_wp2_with (first | (at_builtin; refine app3 rfl (.tmp 69) (.tmp 71) rfl HA.out.or rfl rfl (by simp) (by have := HN.out.2.2; omega) (by have := HA.out.wi.bel.size; omega) ?_; intro wv' w1 hown hb1 hst1 hsz1; have n2 := HA.out.note HN.out.1 HN.out.2.1 hown hb1 hst1 hsz1.2; have hx := hst1 _ _ (alloc_at wr (.cells #[.int .i64 (R j).kind, .int .i64 (R j).e, .string (R j).word] 42)) (HA.out.or.ne (alloc_at wr (.cells #[.int .i64 (R j).kind, .int .i64 (R j).e, .string (R j).word] 42)) (by decide)); have d0 : w1.cell? ⟨wr.heap.size, 0, none⟩ = some (.int .i64 (R j).kind) := (by rw [cell_of_block hx]; rfl); have d1 : w1.cell? ⟨wr.heap.size, 1, none⟩ = some (.int .i64 (R j).e) := (by rw [cell_of_block hx]; rfl); have d2 : w1.cell? ⟨wr.heap.size, 2, none⟩ = some (.string (R j).word) := (by rw [cell_of_block hx]; rfl); have g0 : w1.cell? ⟨w.heap.size + 1 + 1, 0, none⟩ = some (.int .i64 f.kind) := (by rw [cell_of_block n2.2.1.c2]; rfl); have g1 : w1.cell? ⟨w.heap.size + 1 + 1, 1, none⟩ = some (.int .i64 f.e) := (by rw [cell_of_block n2.2.1.c2]; rfl); have g2 : w1.cell? ⟨w.heap.size + 1 + 1, 2, none⟩ = some (.string f.word) := (by rw [cell_of_block n2.2.1.c2]; rfl); have gf : ∀ i, w1.frozen? ⟨w.heap.size + 1 + 1, i, none⟩ = false := fun i => frozen_of_block n2.2.1.c2 i; have HV := Lib.hid n2; clear n2 hown hb1 hst1 hx))
                    go_roundw
                    case rel => exact ⟨j, R j, true, by omega, by rfl, by rfl, L2.store (h := R j) (by have := HV.out.1; rw [HN2.out] at this; simpa [HBD.out] using this) HV.out.2.1 HV.out.2.2.1 HV.out.2.2.2.1 HV.out.2.2.2.2 HA.out.nf⟩
                    case measure => simp [intOf] <;> omega
                  · have y1 : decide ((R j).kind ≥ 1) = false := by simp; omega
                    have y3 : ((R j).e != 0) = true := by simpa using hk.2
                    clear hk hbad
                    go_wp2_with (first | (at_builtin; refine app3 rfl (.tmp 69) (.tmp 71) rfl HA.out.or rfl rfl (by simp) (by have := HN.out.2.2; omega) (by have := HA.out.wi.bel.size; omega) ?_; intro wv' w1 hown hb1 hst1 hsz1; have n2 := HA.out.note HN.out.1 HN.out.2.1 hown hb1 hst1 hsz1.2; have hx := hst1 _ _ (alloc_at wr (.cells #[.int .i64 (R j).kind, .int .i64 (R j).e, .string (R j).word] 42)) (HA.out.or.ne (alloc_at wr (.cells #[.int .i64 (R j).kind, .int .i64 (R j).e, .string (R j).word] 42)) (by decide)); have d0 : w1.cell? ⟨wr.heap.size, 0, none⟩ = some (.int .i64 (R j).kind) := (by rw [cell_of_block hx]; rfl); have d1 : w1.cell? ⟨wr.heap.size, 1, none⟩ = some (.int .i64 (R j).e) := (by rw [cell_of_block hx]; rfl); have d2 : w1.cell? ⟨wr.heap.size, 2, none⟩ = some (.string (R j).word) := (by rw [cell_of_block hx]; rfl); have g0 : w1.cell? ⟨w.heap.size + 1 + 1, 0, none⟩ = some (.int .i64 f.kind) := (by rw [cell_of_block n2.2.1.c2]; rfl); have g1 : w1.cell? ⟨w.heap.size + 1 + 1, 1, none⟩ = some (.int .i64 f.e) := (by rw [cell_of_block n2.2.1.c2]; rfl); have g2 : w1.cell? ⟨w.heap.size + 1 + 1, 2, none⟩ = some (.string f.word) := (by rw [cell_of_block n2.2.1.c2]; rfl); have gf : ∀ i, w1.frozen? ⟨w.heap.size + 1 + 1, i, none⟩ = false := fun i => frozen_of_block n2.2.1.c2 i; have HV := Lib.hid n2; clear n2 hown hb1 hst1 hx))
                    go_roundw
                    case rel => exact ⟨j, R j, true, by omega, by rfl, by rfl, L2.store (h := R j) (by have := HV.out.1; rw [HN2.out] at this; simpa [HBD.out] using this) HV.out.2.1 HV.out.2.2.1 HV.out.2.2.2.1 HV.out.2.2.2.2 HA.out.nf⟩
                    case measure => simp [intOf] <;> omega
                  · have y1 : decide ((R j).kind ≥ 1) = true := by simp; omega
                    have y2 : decide ((R j).kind ≤ 3) = false := by simp; omega
                    have y3 : ((R j).e != 0) = true := by simpa using hk.2
                    clear hk hbad
                    go_wp2_with (first | (at_builtin; refine app3 rfl (.tmp 69) (.tmp 71) rfl HA.out.or rfl rfl (by simp) (by have := HN.out.2.2; omega) (by have := HA.out.wi.bel.size; omega) ?_; intro wv' w1 hown hb1 hst1 hsz1; have n2 := HA.out.note HN.out.1 HN.out.2.1 hown hb1 hst1 hsz1.2; have hx := hst1 _ _ (alloc_at wr (.cells #[.int .i64 (R j).kind, .int .i64 (R j).e, .string (R j).word] 42)) (HA.out.or.ne (alloc_at wr (.cells #[.int .i64 (R j).kind, .int .i64 (R j).e, .string (R j).word] 42)) (by decide)); have d0 : w1.cell? ⟨wr.heap.size, 0, none⟩ = some (.int .i64 (R j).kind) := (by rw [cell_of_block hx]; rfl); have d1 : w1.cell? ⟨wr.heap.size, 1, none⟩ = some (.int .i64 (R j).e) := (by rw [cell_of_block hx]; rfl); have d2 : w1.cell? ⟨wr.heap.size, 2, none⟩ = some (.string (R j).word) := (by rw [cell_of_block hx]; rfl); have g0 : w1.cell? ⟨w.heap.size + 1 + 1, 0, none⟩ = some (.int .i64 f.kind) := (by rw [cell_of_block n2.2.1.c2]; rfl); have g1 : w1.cell? ⟨w.heap.size + 1 + 1, 1, none⟩ = some (.int .i64 f.e) := (by rw [cell_of_block n2.2.1.c2]; rfl); have g2 : w1.cell? ⟨w.heap.size + 1 + 1, 2, none⟩ = some (.string f.word) := (by rw [cell_of_block n2.2.1.c2]; rfl); have gf : ∀ i, w1.frozen? ⟨w.heap.size + 1 + 1, i, none⟩ = false := fun i => frozen_of_block n2.2.1.c2 i; have HV := Lib.hid n2; clear n2 hown hb1 hst1 hx))
                    go_roundw
                    case rel => exact ⟨j, R j, true, by omega, by rfl, by rfl, L2.store (h := R j) (by have := HV.out.1; rw [HN2.out] at this; simpa [HBD.out] using this) HV.out.2.1 HV.out.2.2.1 HV.out.2.2.2.1 HV.out.2.2.2.2 HA.out.nf⟩
                    case measure => simp [intOf] <;> omega
                · have hb0 : badD (R j) = false := by simpa using hbad
                  have HBD := Lib.hid hb0
                  have he : (R j).e = 0 := by simp [badD] at hb0; exact hb0.2
                  have hk : (R j).kind < 1 ∨ 3 < (R j).kind := by simp [badD] at hb0; omega
                  have y3 : ((R j).e != 0) = false := by simp [he]
                  rcases hk with hk | hk
                  · have y1 : decide ((R j).kind ≥ 1) = false := by simp; omega
                    clear hk hbad hb0 he
                    go_wp2_with (first | (at_builtin; refine app3 rfl (.tmp 69) (.tmp 71) rfl HA.out.or rfl rfl (by simp) (by have := HN.out.2.2; omega) (by have := HA.out.wi.bel.size; omega) ?_; intro wv' w1 hown hb1 hst1 hsz1; have n2 := HA.out.note HN.out.1 HN.out.2.1 hown hb1 hst1 hsz1.2; have hx := hst1 _ _ (alloc_at wr (.cells #[.int .i64 (R j).kind, .int .i64 (R j).e, .string (R j).word] 42)) (HA.out.or.ne (alloc_at wr (.cells #[.int .i64 (R j).kind, .int .i64 (R j).e, .string (R j).word] 42)) (by decide)); have d0 : w1.cell? ⟨wr.heap.size, 0, none⟩ = some (.int .i64 (R j).kind) := (by rw [cell_of_block hx]; rfl); have d1 : w1.cell? ⟨wr.heap.size, 1, none⟩ = some (.int .i64 (R j).e) := (by rw [cell_of_block hx]; rfl); have d2 : w1.cell? ⟨wr.heap.size, 2, none⟩ = some (.string (R j).word) := (by rw [cell_of_block hx]; rfl); have g0 : w1.cell? ⟨w.heap.size + 1 + 1, 0, none⟩ = some (.int .i64 f.kind) := (by rw [cell_of_block n2.2.1.c2]; rfl); have g1 : w1.cell? ⟨w.heap.size + 1 + 1, 1, none⟩ = some (.int .i64 f.e) := (by rw [cell_of_block n2.2.1.c2]; rfl); have g2 : w1.cell? ⟨w.heap.size + 1 + 1, 2, none⟩ = some (.string f.word) := (by rw [cell_of_block n2.2.1.c2]; rfl); have gf : ∀ i, w1.frozen? ⟨w.heap.size + 1 + 1, i, none⟩ = false := fun i => frozen_of_block n2.2.1.c2 i; have HV := Lib.hid n2; clear n2 hown hb1 hst1 hx))
                    go_roundw
                    case rel => exact ⟨j, f, false, by omega, by rfl, by rfl, ⟨by have := HV.out.1; rw [HN2.out] at this; simpa [HBD.out] using this, HV.out.2.1, HV.out.2.2.1, HV.out.2.2.2.1, HV.out.2.2.2.2, HA.out.nf⟩⟩
                    case measure => simp [intOf] <;> omega
                  · have y1 : decide ((R j).kind ≥ 1) = true := by simp; omega
                    have y2 : decide ((R j).kind ≤ 3) = false := by simp; omega
                    clear hk hbad hb0 he
                    go_wp2_with (first | (at_builtin; refine app3 rfl (.tmp 69) (.tmp 71) rfl HA.out.or rfl rfl (by simp) (by have := HN.out.2.2; omega) (by have := HA.out.wi.bel.size; omega) ?_; intro wv' w1 hown hb1 hst1 hsz1; have n2 := HA.out.note HN.out.1 HN.out.2.1 hown hb1 hst1 hsz1.2; have hx := hst1 _ _ (alloc_at wr (.cells #[.int .i64 (R j).kind, .int .i64 (R j).e, .string (R j).word] 42)) (HA.out.or.ne (alloc_at wr (.cells #[.int .i64 (R j).kind, .int .i64 (R j).e, .string (R j).word] 42)) (by decide)); have d0 : w1.cell? ⟨wr.heap.size, 0, none⟩ = some (.int .i64 (R j).kind) := (by rw [cell_of_block hx]; rfl); have d1 : w1.cell? ⟨wr.heap.size, 1, none⟩ = some (.int .i64 (R j).e) := (by rw [cell_of_block hx]; rfl); have d2 : w1.cell? ⟨wr.heap.size, 2, none⟩ = some (.string (R j).word) := (by rw [cell_of_block hx]; rfl); have g0 : w1.cell? ⟨w.heap.size + 1 + 1, 0, none⟩ = some (.int .i64 f.kind) := (by rw [cell_of_block n2.2.1.c2]; rfl); have g1 : w1.cell? ⟨w.heap.size + 1 + 1, 1, none⟩ = some (.int .i64 f.e) := (by rw [cell_of_block n2.2.1.c2]; rfl); have g2 : w1.cell? ⟨w.heap.size + 1 + 1, 2, none⟩ = some (.string f.word) := (by rw [cell_of_block n2.2.1.c2]; rfl); have gf : ∀ i, w1.frozen? ⟨w.heap.size + 1 + 1, i, none⟩ = false := fun i => frozen_of_block n2.2.1.c2 i; have HV := Lib.hid n2; clear n2 hown hb1 hst1 hx))
                    go_roundw
                    case rel => exact ⟨j, f, false, by omega, by rfl, by rfl, ⟨by have := HV.out.1; rw [HN2.out] at this; simpa [HBD.out] using this, HV.out.2.1, HV.out.2.2.1, HV.out.2.2.2.1, HV.out.2.2.2.2, HA.out.nf⟩⟩
                    case measure => simp [intOf] <;> omega
      case rest =>
        obtain ⟨f, g, rfl, hL2⟩ := hcut
        have d0 : wc.cell? ⟨w.heap.size, 0, none⟩ = some (.int .i64 D.kind) := by rw [cell_of_block hL2.wi.c0]; rfl
        have d1 : wc.cell? ⟨w.heap.size, 1, none⟩ = some (.int .i64 D.e) := by rw [cell_of_block hL2.wi.c0]; rfl
        have d2 : wc.cell? ⟨w.heap.size, 2, none⟩ = some (.string D.word) := by rw [cell_of_block hL2.wi.c0]; rfl
        have hdeed := deed_any (cb := w.heap.size + 1) (w := wc) (D := D) (n := -1)
        have H2 := Lib.hid (And.intro hL2 HL.out.2)
        clear hL2 HL
        go_wp2_with fail
        refine hdeed.mono ?_
        clear hdeed d0 d1 d2
        rintro e w2 ⟨f0, rfl, hfa, hb2, hs2, -⟩
        have hL3 := H2.out.1.below hb2
        obtain ⟨LB, cur, hLB, hla, hcur⟩ := hL3.of.form H2.out.2.2.2 (by omega)
        have hLl := H2.out.2.1
        have hclose := closing_any (cap := lc) hL3.wi.cs (by have := hL3.wi.bel.size; omega) (by simp; omega) (hfa (.slice none 0 0) (fun b h => by cases h)) (fun i hi => (hL3.fv i hi).toNone) (sa := la) (LB := LB) (cur := cur) (by rw [hLl]; exact hla) hLB (by rw [hLl]; exact hcur)
        rw [hLl] at hclose
        have H3 := Lib.hid (And.intro hL3 H2.out.2)
        clear hL3 hla hcur hfa hb2 hs2 H2
        go_wp2_with fail
        refine hclose.mono ?_
        clear hclose
        rintro e w3 ⟨a, v', ha, rfl, hcs, hft⟩
        have hL3 := H3.out.1
        have hcs2 := hL3.wi.cs
        have q0 : w3.heap[w.heap.size]? = some (.cells (dc D) 42 (0, 0)) := hft.cells hcs2 hL3.wi.c0 (by simp [TT]) (by decide)
        have q2 : w3.heap[w.heap.size + 1 + 1]? = some (.cells (dc f) 42 (0, 0)) := hft.cells hcs2 hL3.wi.c2 (by simp [TT]) (by decide)
        have ha' : a = accL L (sT D (0, Pan.none), cN D (-1)) (dn L.length 0) := by rw [ha]; rfl
        have hor : OR w.heap.size w3 u6 a.2 := by
          rw [ha']
          exact owns_keep hL3.or fun b cur e => hft.block b _ e (by intro _ _ _ e2; cases e2; simp [TT]) (by intro e3; cases e3)
        have hrr : RR a.1 f g := by rw [ha']; exact hL3.rr
        have hal : a.2.length ≤ 100 := by
          have h1 := accL_len L (sT D (0, Pan.none), cN D (-1)) (dn L.length 0)
          have h2 := cN_len D (-1)
          rw [← ha', dn_length] at h1
          simp only at h1
          omega
        have hbw : Below w.heap.size w w3 := hL3.wi.bel.trans hft.below
        obtain ⟨ua, uc, hu⟩ := own_form (show World.ownsRow _ _ _ _ _ _ _ from hor)
        obtain ⟨va, vc, hv⟩ := own_form (show World.ownsRow _ _ _ _ _ _ _ from hcs.2.1)
        subst hu hv
        have l0 := (Array.getElem?_eq_some_iff.1 q0).1
        have l2 := (Array.getElem?_eq_some_iff.1 q2).1
        have l1 := (Array.getElem?_eq_some_iff.1 hcs.1).1
        have n0 : ¬ w.heap.size = w3.heap.size := by omega
        have n1 : ¬ w.heap.size + 1 = w3.heap.size := by omega
        have n2 : ¬ w.heap.size + 1 + 1 = w3.heap.size := by omega
        have d0 : w3.cell? ⟨w.heap.size, 0, none⟩ = some (.int .i64 D.kind) := by rw [cell_of_block q0]; rfl
        have d1 : w3.cell? ⟨w.heap.size, 1, none⟩ = some (.int .i64 D.e) := by rw [cell_of_block q0]; rfl
        have d2 : w3.cell? ⟨w.heap.size, 2, none⟩ = some (.string D.word) := by rw [cell_of_block q0]; rfl
        have f0 : w3.cell? ⟨w.heap.size + 1 + 1, 0, none⟩ = some (.int .i64 f.kind) := by rw [cell_of_block q2]; rfl
        have f1 : w3.cell? ⟨w.heap.size + 1 + 1, 1, none⟩ = some (.int .i64 f.e) := by rw [cell_of_block q2]; rfl
        have f2 : w3.cell? ⟨w.heap.size + 1 + 1, 2, none⟩ = some (.string f.word) := by rw [cell_of_block q2]; rfl
        have kc : w3.cell? ⟨w.heap.size + 1, 0, none⟩ = some (.slice va a.2.length vc) := by rw [cell_of_block hcs.1]; rfl
        have H4 := Lib.hid (And.intro hcs (And.intro hor (And.intro hrr hbw)))
        clear hcs hor hrr hbw q0 q2 hft hcs2 hL3 ha ha' H3
        unfold pc
        go_wp2_with fail
        obtain ⟨W4, hW4⟩ : ∃ W4, W4 = w3.alloc (.cells #[.int .i64 a.1.2.sort, .string a.1.2.word, .int .i64 0] 29) := ⟨_, rfl⟩
        have hB4 : Below w3.heap.size w3 W4 := by rw [hW4]; exact (Below.refl _ _).alloc (Nat.le_refl _) _
        have hp4 : W4.heap[w3.heap.size]? = some (.cells (pc a.1.2) 29 (0, 0)) := by rw [hW4]; exact alloc_at _ _
        have H5 := Lib.hid (And.intro hB4 hp4)
        rw [← hW4]
        clear hB4 hp4 hW4
        go_loopw [15] (fun i wr => ∃ j : Nat, j ≤ a.2.length ∧ i = .int .i64 j ∧ Below W4.heap.size W4 wr) (fun i wr => a.2.length - (intOf i).toNat)
        case atStart => exact ⟨0, Nat.zero_le _, rfl, Below.refl _ _⟩
        case round =>
          obtain ⟨j, hj, rfl, hbr⟩ := hrel
          have hb3 : Below w3.heap.size w3 wr := H5.out.1.trans (hbr.mono H5.out.1.size)
          by_cases hlt : j < a.2.length
          · obtain ⟨gu, rfl, cu⟩ := or_cell H4.out.2.1 hlt
            obtain ⟨gv, rfl, cv⟩ := or_cell (show OR w.heap.size w3 _ a.2 from H4.out.1.2.1) hlt
            have cu' := (hb3.cell (block_lt cu)).trans cu
            have cv' := (hb3.cell (block_lt cv)).trans cv
            have kc' := (hb3.cell (block_lt kc)).trans kc
            have hj2 : a.2.length ≤ 1000000 := by omega
            clear cu cv kc d0 d1 d2 f0 f1 f2
            go_wp2_with fail
            go_region
            all_goals go_wp2_with fail
            go_roundw
            case rel => exact ⟨j + 1, by omega, by go_num, below_dN (n := 1) hbr⟩
            case measure => simp [intOf] <;> omega
          · obtain rfl : j = a.2.length := by omega
            have d0' := (hb3.cell (block_lt d0)).trans d0
            have d1' := (hb3.cell (block_lt d1)).trans d1
            have d2' := (hb3.cell (block_lt d2)).trans d2
            have f0' := (hb3.cell (block_lt f0)).trans f0
            have f1' := (hb3.cell (block_lt f1)).trans f1
            have f2' := (hb3.cell (block_lt f2)).trans f2
            have hpw : wr.heap[w3.heap.size]? = some (.cells (pc a.1.2) 29 (0, 0)) := (hbr.block _ (Array.getElem?_eq_some_iff.1 H5.out.2).1).trans H5.out.2
            have p0 : wr.cell? ⟨w3.heap.size, 0, none⟩ = some (.int .i64 a.1.2.sort) := by rw [cell_of_block hpw]; rfl
            have p1 : wr.cell? ⟨w3.heap.size, 1, none⟩ = some (.string a.1.2.word) := by rw [cell_of_block hpw]; rfl
            have p2 : wr.cell? ⟨w3.heap.size, 2, none⟩ = some (.int .i64 0) := by rw [cell_of_block hpw]; rfl
            have hbw4 : Below w.heap.size w wr := H4.out.2.2.2.trans (hb3.mono H4.out.2.2.2.size)
            have htw : ∀ W, Below wr.heap.size wr W → Lib.TabIs Tryd.prog W "internal/strconv.uint64pow10" .u64 Lib.pow10Tab := fun W hW => tab_keep HT.out.1 ((hbw4.trans (hW.mono hbw4.size)).block 0 hw0)
            have HZ := Lib.hid (And.intro hbw4 htw)
            have hpe := pan_eql_true
            clear d0 d1 d2 f0 f1 f2 kc hpw hb3 hbr hbw4 htw
            rcases H4.out.2.2.1 with ⟨rfl, hs⟩ | ⟨rfl, hs⟩
            · rw [hs] at p0 p1 ⊢
              dsimp only [Pan.none] at p0 p1 ⊢
              go_wp2_with (first | (go_at_call 11; refine (guarded_any D _).mono ?_; rintro e w5 ⟨rfl, hb5⟩) | (go_at_call 8; refine (awake_any _ (HZ.out.2 _ hb5) (by have := hb5.size; have := HZ.out.1.size; omega)).mono ?_; rintro e w6 ⟨rfl, hb6⟩))
              go_ret
              exact ⟨rfl, (HZ.out.1.trans (hb5.mono HZ.out.1.size)).trans (hb6.mono (Nat.le_trans HZ.out.1.size hb5.size))⟩
            · rcases rr_end (.inr ⟨rfl, hs⟩ : RR a.1 f true) with ⟨hk, e⟩ | ⟨hk, e⟩ | ⟨h1, h2, h3, e⟩
              · rw [e] at p0 p1 ⊢
                dsimp only [Pan.own] at p0 p1 ⊢
                have z1 : (f.kind == 1) = true := by simp [hk]
                clear hk e hs
                go_wp2_with (first | (go_at_call 11; refine (guarded_any D _).mono ?_; rintro e w5 ⟨rfl, hb5⟩) | (go_at_call 8; refine (awake_any _ (HZ.out.2 _ hb5) (by have := hb5.size; have := HZ.out.1.size; omega)).mono ?_; rintro e w6 ⟨rfl, hb6⟩))
                go_ret
                exact ⟨rfl, (HZ.out.1.trans (hb5.mono HZ.out.1.size)).trans (hb6.mono (Nat.le_trans HZ.out.1.size hb5.size))⟩
              · rw [e] at p0 p1 ⊢
                dsimp only [Pan.rt] at p0 p1 ⊢
                have z1 : (f.kind == 1) = false := by simp; omega
                rcases hk with hk | hk
                · have z2 : (f.kind == 2) = true := by simp [hk]
                  clear hk e hs
                  go_wp2_with (first | (go_at_call 11; refine (guarded_any D _).mono ?_; rintro e w5 ⟨rfl, hb5⟩) | (go_at_call 8; refine (awake_any _ (HZ.out.2 _ hb5) (by have := hb5.size; have := HZ.out.1.size; omega)).mono ?_; rintro e w6 ⟨rfl, hb6⟩))
                  go_ret
                  exact ⟨rfl, (HZ.out.1.trans (hb5.mono HZ.out.1.size)).trans (hb6.mono (Nat.le_trans HZ.out.1.size hb5.size))⟩
                · have z2 : (f.kind == 2) = false := by simp [hk]
                  have z3 : (f.kind == 3) = true := by simp [hk]
                  clear hk e hs
                  go_wp2_with (first | (go_at_call 11; refine (guarded_any D _).mono ?_; rintro e w5 ⟨rfl, hb5⟩) | (go_at_call 8; refine (awake_any _ (HZ.out.2 _ hb5) (by have := hb5.size; have := HZ.out.1.size; omega)).mono ?_; rintro e w6 ⟨rfl, hb6⟩))
                  go_ret
                  exact ⟨rfl, (HZ.out.1.trans (hb5.mono HZ.out.1.size)).trans (hb6.mono (Nat.le_trans HZ.out.1.size hb5.size))⟩
              · rw [e] at p0 p1 ⊢
                dsimp only [Pan.none] at p0 p1 ⊢
                have z1 : (f.kind == 1) = false := by simpa using h1
                have z2 : (f.kind == 2) = false := by simpa using h2
                have z3 : (f.kind == 3) = false := by simpa using h3
                clear h1 h2 h3 e hs
                go_wp2_with (first | (go_at_call 11; refine (guarded_any D _).mono ?_; rintro e w5 ⟨rfl, hb5⟩) | (go_at_call 8; refine (awake_any _ (HZ.out.2 _ hb5) (by have := hb5.size; have := HZ.out.1.size; omega)).mono ?_; rintro e w6 ⟨rfl, hb6⟩))
                go_ret
                exact ⟨rfl, (HZ.out.1.trans (hb5.mono HZ.out.1.size)).trans (hb6.mono (Nat.le_trans HZ.out.1.size hb5.size))⟩
end Go.Proofs.YtokfnlfadofmnaaDoor
