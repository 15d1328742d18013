/- catch: the first function, and the panic that it leaves with. -/
import Derived.Test.YtokfnlfadofmnaaDoorCk
namespace Go.Proofs.YtokfnlfadofmnaaDoor
open Go.RowKit
set_option linter.unusedVariables false

def setP (pb : Nat) (p : Pan) (w : World) : World := ((w.setCell ⟨pb, 0, none⟩ (.int .i64 p.sort)).setCell ⟨pb, 1, none⟩ (.string p.word)).setCell ⟨pb, 2, none⟩ (.int .i64 0)
set_option maxRecDepth 100000 in
theorem top1_run {w : World} {pb : Nat} {u : FrameMode} {q : Option Pan} {cp : Array Value} (hu : ModeIn u q) (hp : w.heap[pb]? = some (.cells cp 29 (0, 0))) (hc : cp.size = 3) :
    CallsD Tryd.prog 21 #[.pointer (some ⟨pb, 0, none⟩)] u w fun e u' w' => ModeIn u' none ∧ e = .returned (.tuple #[]) ∧ ∃ w2, Below w.heap.size w w2 ∧ w' = setP pb (q.getD Pan.none) w2 := by
  refine callsD_of_wpK Tryd.func21 rfl fun c0 cs hc0 => ?_
  have hB : Bn .deferred (c0 :: cs) (c0 :: cs) q := .inr ⟨rfl, c0, cs, u, rfl, by rw [← hc0], hu⟩
  obtain ⟨v, cs', hrec, hB'⟩ : ∃ v cs', Recs .deferred (c0 :: cs) cs' v (q.getD Pan.none) ∧ Bn .deferred (c0 :: cs) cs' none := by
    cases q with
    | none => exact ⟨.nilIface, c0 :: cs, .inr ⟨hB.rec_none, rfl, rfl, rfl⟩, hB⟩
    | some p => obtain ⟨v, cs', e, hv, hb⟩ := hB.rec_some; exact ⟨v, cs', .inl ⟨e, hv⟩, hb⟩
  obtain ⟨p, hpq⟩ : ∃ p, q.getD Pan.none = p := ⟨_, rfl⟩
  rw [hpq] at hrec ⊢
  refine wpK_region (.inr rfl) ?_
  change wpOpsK _ _ _ _ [0, 1, 2] _ _ _
  rw [Tryd.ntmps21]
  simp only [Array.size, List.length]
  refine hrec.op (d := some 1) rfl rfl (by rfl) (by rfl) ?_
  refine wpOpsK_op rfl (by rfl) (fun K hK => ?_)
  go_simp
  go_at_call 22
  refine (told_any hrec.val _).mono ?_
  rintro e w2 ⟨rfl, hb⟩
  have hp2 : w2.heap[pb]? = some (.cells cp 29 (0, 0)) := by rw [hb.block _ (Array.getElem?_eq_some_iff.1 hp).1]; exact hp
  refine hK.out _ _ ?_
  clear hK K
  obtain ⟨x0, hx0⟩ : ∃ x, cp[0]? = some x := ⟨cp[0]'(by omega), by simp [hc]⟩
  obtain ⟨x1, hx1⟩ : ∃ x, cp[1]? = some x := ⟨cp[1]'(by omega), by simp [hc]⟩
  obtain ⟨x2, hx2⟩ : ∃ x, cp[2]? = some x := ⟨cp[2]'(by omega), by simp [hc]⟩
  have k0 : w2.cell? ⟨pb, 0, none⟩ = some x0 := by rw [cell_of_block hp2]; exact hx0
  have k1 : w2.cell? ⟨pb, 1, none⟩ = some x1 := by rw [cell_of_block hp2]; exact hx1
  have k2 : w2.cell? ⟨pb, 2, none⟩ = some x2 := by rw [cell_of_block hp2]; exact hx2
  have kf : ∀ i, w2.frozen? ⟨pb, i, none⟩ = false := fun i => frozen_of_block hp2 i
  refine wpOpsK_op rfl (by rfl) (fun K hK => ?_)
  unfold pc
  go_simp
  refine hK.out _ _ ?_
  clear hK K
  rcases hB' with ⟨h, _⟩ | ⟨_, c1, rest, u', h1, h2, h3⟩
  · cases h
  · cases h1
    exact ⟨.tuple #[], results_none rfl _ _ _, u', h2, h3, rfl, w2, hb, rfl⟩

theorem setP_at {pb : Nat} {p : Pan} {w : World} {cp : Array Value} (hp : w.heap[pb]? = some (.cells cp 29 (0, 0))) (hc : cp.size = 3) : (setP pb p w).heap[pb]? = some (.cells (pc p) 29 (0, 0)) := by
  unfold setP
  rw [heap_setCell_same _ _ _ _ _ _ (heap_setCell_same _ _ _ _ _ _ (heap_setCell_same _ _ _ _ _ _ hp))]
  obtain ⟨l⟩ := cp
  match l, hc with
  | [a, b, c], _ => rfl
theorem setP_other {pb b : Nat} {p : Pan} {w : World} (h : b ≠ pb) : (setP pb p w).heap[b]? = w.heap[b]? := by
  unfold setP
  rw [Below.heap_setCell _ _ _ _ h, Below.heap_setCell _ _ _ _ h, Below.heap_setCell _ _ _ _ h]
theorem setP_below {pb B : Nat} {p : Pan} {w0 w : World} (h : Below B w0 w) (hB : B ≤ pb) : Below B w0 (setP pb p w) := ((h.setCell hB _).setCell hB _).setCell hB _

/-- Of the first function: the panic that it leaves with. -/
def TopPost (c : Cx) (R : Nat) (x : Fin) (w : World) (e : Ending) (w' : World) : Prop :=
  e = .returned (.agg (pc (x.p.getD Pan.none))) ∧ Inv c 0 x.m w' ∧ RS R x.r w' ∧ Chg c.base c.M R w w'
theorem top_close {c : Cx} {R pb : Nat} {x : Fin} {w w2 w3 : World} {q : Pan} {cp : Array Value} (hpb : w.heap.size ≤ pb) (hi : Inv c 0 x.m w2) (hr : RS R x.r w2) (hc : Chg c.base c.M R w w2) (hp : w2.heap[pb]? = some (.cells cp 29 (0, 0))) (hb : Below w2.heap.size w2 w3) (hbase : c.base ≤ w.heap.size) (hR : R < w.heap.size) (hM : c.M < w.heap.size) :
    Inv c 0 x.m (setP pb q w3) ∧ RS R x.r (setP pb q w3) ∧ Chg c.base c.M R w (setP pb q w3) := by
  have hi3 := hi.below hb
  have hr3 := hr.below hb
  have hc3 := hc.trans (.of_below hb) (.inl rfl)
  have hp3 : w3.heap[pb]? = some (.cells cp 29 (0, 0)) := by rw [hb.block _ (Array.getElem?_eq_some_iff.1 hp).1]; exact hp
  refine ⟨hi3.keep (by simp [setP]) (fun b cur ty fr ht ht2 e => ?_) (setP_other (by have := hi.base0; omega)), ?_, ?_⟩
  · by_cases h : b = pb
    · subst h
      rw [hp3] at e
      simp only [Option.some.injEq, Obj.cells.injEq] at e
      exact absurd e.2.1.symm ht2
    · exact setP_other h
  · show (setP pb q w3).heap[R]? = _
    rw [setP_other (by omega)]; exact hr3
  · exact ⟨hc3.os, hc3.tape, hc3.output, by have := hc3.size; simpa [setP] using this, fun b h1 h2 h3 h4 => by rw [setP_other (by omega)]; exact hc3.block b h1 h2 h3 h4⟩

theorem top_end {c : Cx} {R pb : Nat} {x : Fin} {w W : World} {u : FrameMode} {t : Array Value} {cp : Array Value} (hu : ModeOut u x.p) (ht : t.getD 4 undef = .pointer (some ⟨pb, 0, none⟩)) (hpb : w.heap.size ≤ pb) (hi : Inv c 0 x.m W) (hr : RS R x.r W) (hc : Chg c.base c.M R w W) (hp : W.heap[pb]? = some (.cells cp 29 (0, 0))) (hcp : cp.size = 3)
    (hbase : c.base ≤ w.heap.size) (hR : R < w.heap.size) (hM : c.M < w.heap.size) : Leaves Tryd.prog Tryd.f13 t (TopPost c R x w) [{ target := .fn (.func 21) #[.pointer (some ⟨pb, 0, none⟩)], args := #[] }] u W := by
  refine leaves_cons (f := 21) (args := #[.pointer (some ⟨pb, 0, none⟩)]) hu.ne (by rfl) ((top1_run hu.inn hp hcp).mono ?_)
  rintro e u' w' ⟨hm, rfl, w3, hb, rfl⟩
  have h2 : settle u' = .returning := settle_out hm
  show Leaves _ _ _ _ [] (settle u') _
  rw [h2]
  have hp3 : w3.heap[pb]? = some (.cells cp 29 (0, 0)) := by rw [hb.block _ (Array.getElem?_eq_some_iff.1 hp).1]; exact hp
  exact ⟨_, results_cell_row rfl t _ pb 29 (pc (x.p.getD Pan.none)) (0, 0) _ ht (setP_at hp3 hcp) Tryd.underlying29 rfl (by kernel_rfl), rfl, top_close hpb hi hr hc hp hb hbase hR hM⟩

set_option maxRecDepth 100000 in
theorem top_run {c : Cx} (hP : progOk c.F = true) (hlen : ∀ f, (c.F.getD f []).length ≤ 1000000) (hn : c.F.length ≤ 1000000) (h0 : 0 < c.F.length) {n R : Nat} {m : Mst} {x : Fin} {w : World} (h : runL c.F itoaB n 1 0 0 Res.new none [] m = some x) (hinv : Inv c 0 m w) (hrs : RS R Res.new w) (hbR : c.base ≤ R) (hd : 1 + n ≤ 100000000) :
    Calls Tryd.prog 13 #[.pointer (some ⟨c.M, 0, none⟩), .pointer (some ⟨R, 0, none⟩)] w (TopPost c R x w) := by
  have hmf : ∀ (fn : Fn) (first cap : Array Value) (w : World), (Instr.makeFunc fn first cap).run Tryd.prog w = .ok (.func fn first cap) w := fun _ _ _ _ => rfl
  have hb1 : Below w.heap.size w (w.alloc (.cells (pc Pan.none) 29)) := (Below.refl _ _).alloc (Nat.le_refl _) _
  obtain ⟨ov, hm, _⟩ := hinv.ms
  have hMl := (Array.getElem?_eq_some_iff.1 hm).1
  have hRl := hrs.lt
  have hm1 : (w.alloc (.cells (pc Pan.none) 29)).heap[c.M]? = some (.cells (mc c.vb c.vf 0 m ov) 60 (0, 0)) := by rw [hb1.block _ hMl]; exact hm
  have hf := (frame_run hP hlen hn n 0 0 R Res.new none m x (w.alloc (.cells (pc Pan.none) 29)) h h0 (hinv.below hb1) (hrs.below hb1) hbR (by omega)).1 rfl
  have hbase := hinv.baseS
  have HX := Lib.hid (And.intro hb1 (And.intro hm1 (And.intro (hrs.below hb1) (And.intro hMl (And.intro hRl hbase)))))
  unfold fargs at hf
  clear hb1 hm hMl hRl hm1 hinv hrs hbase
  cases hxp : x.p with
  | none =>
    rw [hxp] at hf
    go_enter_defers Tryd.func13, Tryd.ntmps13
    go_wp2_with (go_at_call 23; refine hf.mono ?_; rintro e w2 ⟨rfl, h2, h3, h4⟩; have hpb2 := h4.keep HX.out.2.1 HX.out.2.2.1 (alloc_at w (.cells (pc Pan.none) 29)) (by decide) (by decide) (by decide); have k0 : w2.cell? ⟨w.heap.size, 0, none⟩ = some (.int .i64 0) := (by rw [cell_of_block hpb2]; rfl); have k1 : w2.cell? ⟨w.heap.size, 1, none⟩ = some (.string ⟨#[]⟩) := (by rw [cell_of_block hpb2]; rfl); have k2 : w2.cell? ⟨w.heap.size, 2, none⟩ = some (.int .i64 0) := (by rw [cell_of_block hpb2]; rfl); have kf : ∀ i, w2.frozen? ⟨w.heap.size, i, none⟩ = false := fun i => frozen_of_block hpb2 i; have H2 := Lib.hid (And.intro h2 (And.intro h3 (And.intro h4 hpb2))); clear h2 h3 h4 hpb2)
    obtain ⟨hb1, hm1, hr1, hMl, hRl, hbase⟩ := HX.out
    obtain ⟨h2, h3, h4, hpb2⟩ := H2.out
    refine top_end (W := setP w.heap.size Pan.none w2) (cp := pc Pan.none) (by rw [hxp]; rfl) rfl (Nat.le_refl _) ?_ ?_ ?_ (setP_at hpb2 rfl) rfl hbase hRl hMl
    all_goals have hcl := top_close (q := Pan.none) (Nat.le_refl _) h2 h3 ((Chg.of_below hb1).trans h4 (.inl rfl)) hpb2 (Below.refl w2.heap.size w2) hbase hRl hMl
    · exact hcl.1
    · exact hcl.2.1
    · exact hcl.2.2
  | some p =>
    rw [hxp] at hf
    go_enter_defers Tryd.func13, Tryd.ntmps13
    go_wp2_with (go_at_call 23; refine hf.mono ?_; rintro e w2 ⟨⟨v, o, rfl, hv, ho⟩, h2, h3, h4⟩; have hpb2 := h4.keep HX.out.2.1 HX.out.2.2.1 (alloc_at w (.cells (pc Pan.none) 29)) (by decide) (by decide) (by decide); have k0 : w2.cell? ⟨w.heap.size, 0, none⟩ = some (.int .i64 0) := (by rw [cell_of_block hpb2]; rfl); have k1 : w2.cell? ⟨w.heap.size, 1, none⟩ = some (.string ⟨#[]⟩) := (by rw [cell_of_block hpb2]; rfl); have k2 : w2.cell? ⟨w.heap.size, 2, none⟩ = some (.int .i64 0) := (by rw [cell_of_block hpb2]; rfl); have kf : ∀ i, w2.frozen? ⟨w.heap.size, i, none⟩ = false := fun i => frozen_of_block hpb2 i; have H2 := Lib.hid (And.intro h2 (And.intro h3 (And.intro h4 hpb2))); clear h2 h3 h4 hpb2)
    obtain ⟨hb1, hm1, hr1, hMl, hRl, hbase⟩ := HX.out
    obtain ⟨h2, h3, h4, hpb2⟩ := H2.out
    exact top_end (cp := pc Pan.none) (by rw [hxp]; exact ⟨v, o, rfl, hv, ho⟩) rfl (Nat.le_refl _) h2 h3 ((Chg.of_below hb1).trans h4 (.inl rfl)) hpb2 rfl hbase hRl hMl
end Go.Proofs.YtokfnlfadofmnaaDoor
