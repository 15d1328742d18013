/- catch: plain steps. -/
import Derived.Test.YtokfnlfadofmnaaDoorCc
import Derived.Test.YtokfnlfadofmnaaDoorShelf
namespace Go.Proofs.YtokfnlfadofmnaaDoor
open Go.RowKit
set_option linter.unusedVariables false

/-- Where a frame, a call, or a plain step has come to. -/
def FPost (c : Cx) (R d : Nat) (q : Option Pan) (m : Mst) (r : Res) (w : World) (e : Ending) (w' : World) : Prop :=
  EndOk q e ∧ Inv c d m w' ∧ RS R r w' ∧ Chg c.base c.M R w w'

theorem RS.lt {R : Nat} {r : Res} {w : World} (h : RS R r w) : R < w.heap.size := (Array.getElem?_eq_some_iff.1 h).1
theorem RS.below {R : Nat} {r : Res} {w w' : World} (h : RS R r w) (hb : Below w.heap.size w w') : RS R r w' := by
  show w'.heap[R]? = _; rw [hb.block _ h.lt]; exact h
theorem RS.set0 {R : Nat} {r : Res} {w : World} (h : RS R r w) (n : Int) : RS R { r with number := n } (w.setCell ⟨R, 0, none⟩ (.int .i16 n)) := by
  unfold RS at h ⊢; rw [heap_setCell_same _ _ _ _ _ _ h]; rfl

/-- What follows the last change, in new blocks alone. -/
theorem FPost.then_ {c : Cx} {R d : Nat} {q : Option Pan} {m : Mst} {r : Res} {w w1 w' : World} {e : Ending} (he : EndOk q e) (hi : Inv c d m w1) (hr : RS R r w1) (hc : Chg c.base c.M R w w1) (hb : Below w1.heap.size w1 w') : FPost c R d q m r w e w' :=
  ⟨he, hi.below hb, hr.below hb, hc.trans (.of_below hb) (.inl rfl)⟩
theorem FPost.keep {c : Cx} {R d : Nat} {q : Option Pan} {m : Mst} {r : Res} {w w' : World} {e : Ending} (he : EndOk q e) (hi : Inv c d m w) (hr : RS R r w) (hb : Below w.heap.size w w') : FPost c R d q m r w e w' :=
  ⟨he, hi.below hb, hr.below hb, .of_below hb⟩
theorem FPost.set0 {c : Cx} {R d : Nat} {m : Mst} {r : Res} {w w' : World} (hi : Inv c d m w) (hr : RS R r w) (hbR : c.base ≤ R) (n : Int) (hb : Below w.heap.size (w.setCell ⟨R, 0, none⟩ (.int .i16 n)) w') : FPost c R d none m { r with number := n } w (.returned (.tuple #[])) w' :=
  .then_ rfl (hi.setR hr hbR 0 _) (hr.set0 n) (.setR 0 _) (by simpa using hb)
theorem endRt {v : Value} (h : IsRt v) : EndOk (some Pan.rt) (.panicked [{ v := v, recovered := false }]) := ⟨v, [], rfl, .inr ⟨h, rfl⟩, by intro x hx; cases hx⟩
theorem endOwn (s : ByteArray) : EndOk (some (Pan.own s)) (.panicked [{ v := .iface 65 (.string s), recovered := false }]) := ⟨_, [], rfl, .inl ⟨s, rfl, rfl⟩, by intro x hx; cases hx⟩

theorem below_grow {B : Nat} {a w : World} (h : Below B a w) (os : Array Obj) (hB : B ≤ w.heap.size) : Below B a (Go.Sort.grow w os) :=
  ⟨h.os, h.tape, h.output, Nat.le_trans h.size (by simp [Go.Sort.grow]), fun b hb => by
    show (w.heap ++ os)[b]? = _
    rw [Array.getElem?_append_left (by omega)]; exact h.block b hb⟩
theorem RS.set1 {R : Nat} {r : Res} {w : World} (h : RS R r w) : RS R r (w.setCell ⟨R, 1, none⟩ (.int .i64 0)) := by
  unfold RS at h ⊢; rw [heap_setCell_same _ _ _ _ _ _ h]; rfl

def spc (op : Nat) (n : Int) (f : Int) : Value := .agg #[.int .u8 op, .int .i16 n, .int .i64 f, .int .i64 0]
set_option maxRecDepth 100000 in
theorem plain_set {c : Cx} {d R : Nat} {m : Mst} {r : Res} {w : World} {n fi : Int} (hi : Inv c d m w) (hr : RS R r w) (hbR : c.base ≤ R) :
    Calls Tryd.prog 28 #[.pointer (some ⟨c.M, 0, none⟩), spc 1 n fi, .pointer (some ⟨R, 0, none⟩)] w (FPost c R d none m { r with number := n } w) := by
  have c0 : w.cell? ⟨R, 0, none⟩ = some (.int .i16 r.number) := by rw [cell_of_block hr]; rfl
  have f0 : w.frozen? ⟨R, 0, none⟩ = false := frozen_of_block hr 0
  have hl := hr.lt
  have hln : ¬ R = w.heap.size := by omega
  unfold spc
  go_enter Tryd.func28, Tryd.ntmps28
  go_wp2
  go_end0
  exact FPost.set0 hi hr hbR n ((Below.refl _ _).alloc (by simp) _)
set_option maxRecDepth 100000 in
theorem plain_add {c : Cx} {d R : Nat} {m : Mst} {r : Res} {w : World} {n fi : Int} (hi : Inv c d m w) (hr : RS R r w) (hbR : c.base ≤ R) :
    Calls Tryd.prog 28 #[.pointer (some ⟨c.M, 0, none⟩), spc 2 n fi, .pointer (some ⟨R, 0, none⟩)] w (FPost c R d none m { r with number := IntKind.i16.wrap (r.number + n) } w) := by
  have c0 : w.cell? ⟨R, 0, none⟩ = some (.int .i16 r.number) := by rw [cell_of_block hr]; rfl
  have f0 : w.frozen? ⟨R, 0, none⟩ = false := frozen_of_block hr 0
  have hl := hr.lt
  have hln : ¬ R = w.heap.size := by omega
  unfold spc
  go_enter Tryd.func28, Tryd.ntmps28
  go_wp2
  go_region
  all_goals
    go_end0
    exact FPost.set0 hi hr hbR _ (below_dN (n := 1) ((Below.refl _ _).alloc (by simp) _))
set_option maxRecDepth 100000 in
theorem plain_fault {c : Cx} {d R : Nat} {m : Mst} {r : Res} {w : World} {n fi : Int} (hi : Inv c d m w) (hr : RS R r w) (hbR : c.base ≤ R) (hn : -32768 ≤ n) (hn2 : n ≤ 32767) :
    Calls Tryd.prog 28 #[.pointer (some ⟨c.M, 0, none⟩), spc 10 n fi, .pointer (some ⟨R, 0, none⟩)] w (FPost c R d (some Pan.rt) m r w) := by
  unfold spc
  go_enter Tryd.func28, Tryd.ntmps28
  go_wp2_with (go_at_call 32; refine (fault_any _ _).mono ?_; rintro e w' ⟨v, rfl, hv, hb⟩)
  exact ⟨rfl, FPost.keep (endRt hv) hi hr (((Below.refl _ _).alloc (Nat.le_refl _) _).trans (hb.mono (by simp)))⟩
set_option maxRecDepth 100000 in
theorem plain_word {c : Cx} {d R : Nat} {m : Mst} {r : Res} {w : World} {n fi : Int} (hi : Inv c d m w) (hr : RS R r w) (hbR : c.base ≤ R) (hn : -32768 ≤ n) (hn2 : n ≤ 32767) :
    Calls Tryd.prog 28 #[.pointer (some ⟨c.M, 0, none⟩), spc 9 n fi, .pointer (some ⟨R, 0, none⟩)] w (FPost c R d (some (Pan.own (itoaB n))) m r w) := by
  have htab := (hi.below ((Below.refl _ _).alloc (Nat.le_refl _) (.cells #[.int .u8 9, .int .i16 n, .int .i64 fi, .int .i64 0] 27))).tab
  unfold spc
  go_enter Tryd.func28, Tryd.ntmps28
  go_wp2_with (go_at_call 31; refine (Tryd.strconv_Itoa n (by omega) (by omega) _ htab).mono ?_; rintro e w' ⟨rfl, k, os, rfl⟩)
  exact ⟨rfl, FPost.keep (endOwn _) hi hr (((Below.refl _ _).alloc (Nat.le_refl _) _).trans (below_grow (below_dN (Below.refl _ _)) os (by simp)))⟩

set_option maxRecDepth 100000 in
theorem call_deep {c : Cx} {d R f : Nat} {m : Mst} {r : Res} {w : World} (hi : Inv c d m w) (hr : RS R r w) (hd : 64 ≤ d) :
    Calls Tryd.prog 29 #[.pointer (some ⟨c.M, 0, none⟩), .int .i64 f, .pointer (some ⟨R, 0, none⟩)] w (FPost c R d (some Pan.rt) m r w) := by
  obtain ⟨ov, hm, _⟩ := hi.ms
  have c2 : w.cell? ⟨c.M, 2, none⟩ = some (.int .i64 (d : Int)) := by rw [cell_of_block hm]; rfl
  have hge : decide ((64 : Int) ≤ (d : Int)) = true := decide_eq_true (by omega)
  have HI := Lib.hid hi
  have HR := Lib.hid hr
  clear hi hr hm
  go_enter Tryd.func29, Tryd.ntmps29
  go_wp2_with (go_at_call 32; refine (fault_any _ _).mono ?_; rintro e w' ⟨v, rfl, hv, hb⟩)
  exact ⟨rfl, FPost.keep (endRt hv) HI.out HR.out hb⟩

set_option maxRecDepth 100000 in
theorem call_panics {c : Cx} {d R f : Nat} {m m' : Mst} {r r' : Res} {w : World} {p : Pan} (hi : Inv c d m w) (hr : RS R r w) (hbR : c.base ≤ R) (hd : d < 64)
    (hF : ∀ w1 R1, Inv c d m w1 → RS R1 Res.new w1 → c.base ≤ R1 → Calls Tryd.prog 23 #[.pointer (some ⟨c.M, 0, none⟩), .int .i64 f, .pointer (some ⟨R1, 0, none⟩)] w1 (FPost c R1 d (some p) m' r' w1)) :
    Calls Tryd.prog 29 #[.pointer (some ⟨c.M, 0, none⟩), .int .i64 f, .pointer (some ⟨R, 0, none⟩)] w (FPost c R d (some p) m' r w) := by
  obtain ⟨ov, hm, _⟩ := hi.ms
  have c2 : w.cell? ⟨c.M, 2, none⟩ = some (.int .i64 (d : Int)) := by rw [cell_of_block hm]; rfl
  have hge : decide ((64 : Int) ≤ (d : Int)) = false := decide_eq_false (by omega)
  have hb1 : Below w.heap.size w (w.alloc (.cells (rc Res.new) 63)) := (Below.refl _ _).alloc (Nat.le_refl _) _
  have hF1 := hF (w.alloc (.cells (rc Res.new) 63)) w.heap.size (hi.below hb1) (alloc_at _ _) hi.baseS
  have hR1 := hr.below hb1
  have HI := Lib.hid (And.intro hi (And.intro hr (And.intro hb1 (And.intro hm hR1))))
  clear hi hr hm hb1 hF hR1
  go_enter Tryd.func29, Tryd.ntmps29
  go_wp2_with (go_at_call 23; refine hF1.mono ?_; rintro e w' ⟨⟨v, older, rfl, hv, ho⟩, h2, h3, h4⟩)
  obtain ⟨hi, hr, hb1, hm, hR1⟩ := HI.out
  refine ⟨rfl, ⟨v, older, rfl, hv, ho⟩, h2, ?_, (Chg.of_below hb1).trans h4 (.inr (Nat.le_refl _))⟩
  exact hR1.keep h4 (by rw [hb1.block _ (Array.getElem?_eq_some_iff.1 hm).1]; exact hm) (by have := hr.lt; omega)

theorem fpost_01 {c : Cx} {d R : Nat} {m : Mst} {r : Res} {w w2 : World} (hi : Inv c d m w2) (hr : RS R r w2) (hbR : c.base ≤ R) (hc : Chg c.base c.M R w w2) (n : Int) :
    FPost c R d none m { r with number := n } w (.returned (.tuple #[])) ((w2.setCell ⟨R, 0, none⟩ (.int .i16 n)).setCell ⟨R, 1, none⟩ (.int .i64 0)) :=
  ⟨rfl, (hi.setR hr hbR 0 _).setR (hr.set0 n) hbR 1 _, (hr.set0 n).set1, (hc.trans (.setR 0 _) (.inl rfl)).trans (.setR 1 _) (.inl rfl)⟩
theorem fpost_10 {c : Cx} {d R : Nat} {m : Mst} {r : Res} {w w2 : World} (hi : Inv c d m w2) (hr : RS R r w2) (hbR : c.base ≤ R) (hc : Chg c.base c.M R w w2) (n : Int) :
    FPost c R d none m { r with number := n } w (.returned (.tuple #[])) ((w2.setCell ⟨R, 1, none⟩ (.int .i64 0)).setCell ⟨R, 0, none⟩ (.int .i16 n)) :=
  ⟨rfl, (hi.setR hr hbR 1 _).setR hr.set1 hbR 0 _, hr.set1.set0 n, (hc.trans (.setR 1 _) (.inl rfl)).trans (.setR 0 _) (.inl rfl)⟩
theorem FPost.drew {c : Cx} {R d : Nat} {q : Option Pan} {m : Mst} {r : Res} {w w' : World} {e : Ending} (h : FPost c R d q m r w e w') : FPost c R d q m r w e w'.drew :=
  .then_ h.1 h.2.1 h.2.2.1 h.2.2.2 (below_dN (n := 1) (Below.refl _ _))

set_option maxRecDepth 100000 in
theorem call_returns {c : Cx} {d R f : Nat} {m m' : Mst} {r r' : Res} {w : World} (hi : Inv c d m w) (hr : RS R r w) (hbR : c.base ≤ R) (hd : d < 64)
    (hF : ∀ w1 R1, Inv c d m w1 → RS R1 Res.new w1 → c.base ≤ R1 → Calls Tryd.prog 23 #[.pointer (some ⟨c.M, 0, none⟩), .int .i64 f, .pointer (some ⟨R1, 0, none⟩)] w1 (FPost c R1 d none m' r' w1)) :
    Calls Tryd.prog 29 #[.pointer (some ⟨c.M, 0, none⟩), .int .i64 f, .pointer (some ⟨R, 0, none⟩)] w (FPost c R d none m' (givenR m'.spent r r') w) := by
  obtain ⟨ov, hm, _⟩ := hi.ms
  have c2 : w.cell? ⟨c.M, 2, none⟩ = some (.int .i64 (d : Int)) := by rw [cell_of_block hm]; rfl
  have hge : decide ((64 : Int) ≤ (d : Int)) = false := decide_eq_false (by omega)
  have hb1 : Below w.heap.size w (w.alloc (.cells (rc Res.new) 63)) := (Below.refl _ _).alloc (Nat.le_refl _) _
  have hF1 := hF (w.alloc (.cells (rc Res.new) 63)) w.heap.size (hi.below hb1) (alloc_at _ _) hi.baseS
  have hR1 := hr.below hb1
  have HI := Lib.hid (And.intro hi (And.intro hr (And.intro hb1 (And.intro hm hR1))))
  clear hi hr hm hb1 hF hR1
  go_enter Tryd.func29, Tryd.ntmps29
  go_wp2_with (go_at_call 23; refine hF1.mono ?_; rintro e w2 ⟨rfl, h2, h3, h4⟩; obtain ⟨ov2, hm2, _⟩ := h2.ms; have d4 : w2.cell? ⟨c.M, 4, none⟩ = some (.bool m'.spent) := (by rw [cell_of_block hm2]; rfl); have H2 := Lib.hid (And.intro h2 (And.intro h3 h4)); clear h2 h3 h4 hm2)
  · have hs : m'.spent = false := by simp_all
    obtain ⟨hi, hr, hb1, hm, hR1⟩ := HI.out
    obtain ⟨h2, h3, h4⟩ := H2.out
    have hRl := hr.lt
    have hRR : ¬ R = w.heap.size := by omega
    have hRR' : ¬ w.heap.size = R := by omega
    have hR2 := hR1.keep h4 (by rw [hb1.block _ (Array.getElem?_eq_some_iff.1 hm).1]; exact hm) hRR
    have hc2 : Chg c.base c.M R w w2 := (Chg.of_below hb1).trans h4 (.inr (Nat.le_refl _))
    have k0 : w2.cell? ⟨w.heap.size, 0, none⟩ = some (.int .i16 r'.number) := by rw [cell_of_block h3]; rfl
    have k1 : w2.cell? ⟨w.heap.size, 1, none⟩ = some (.int .i64 0) := by rw [cell_of_block h3]; rfl
    have q0 : w2.cell? ⟨R, 0, none⟩ = some (.int .i16 r.number) := by rw [cell_of_block hR2]; rfl
    have q1 : w2.cell? ⟨R, 1, none⟩ = some (.int .i64 0) := by rw [cell_of_block hR2]; rfl
    have fR : ∀ i, w2.frozen? ⟨R, i, none⟩ = false := fun i => frozen_of_block hR2 i
    have HX := Lib.hid (And.intro h2 (And.intro hR2 (And.intro hc2 hs)))
    clear hi hr hb1 hm hR1 h2 h3 h4 hR2 hc2 hs hF1 d4 c2 HI H2
    go_region
    all_goals
      go_end0
      obtain ⟨h2, hR2, hc2, hs⟩ := HX.out
      rw [hs]
      first
        | exact (fpost_01 h2 hR2 hbR hc2 _).drew
        | exact (fpost_10 h2 hR2 hbR hc2 _).drew
  · have hs : m'.spent = true := by simp_all
    obtain ⟨hi, hr, hb1, hm, hR1⟩ := HI.out
    obtain ⟨h2, h3, h4⟩ := H2.out
    go_end0
    rw [hs]
    exact ⟨rfl, h2, hR1.keep h4 (by rw [hb1.block _ (Array.getElem?_eq_some_iff.1 hm).1]; exact hm) (by have := hr.lt; omega), (Chg.of_below hb1).trans h4 (.inr (Nat.le_refl _))⟩
end Go.Proofs.YtokfnlfadofmnaaDoor
