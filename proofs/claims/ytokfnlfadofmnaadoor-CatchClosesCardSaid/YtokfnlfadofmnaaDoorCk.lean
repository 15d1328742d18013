/- catch: one round more. -/
import Derived.Test.YtokfnlfadofmnaaDoorCj
namespace Go.Proofs.YtokfnlfadofmnaaDoor
open Go.RowKit
set_option linter.unusedVariables false

theorem RS.setM {R M i : Nat} {r : Res} {w : World} {v : Value} {cm : Array Value} (h : RS R r w) (hm : w.heap[M]? = some (.cells cm 60 (0, 0))) : RS R r (w.setCell ⟨M, i, none⟩ v) := by
  show (w.setCell _ _).heap[R]? = _
  rw [Below.heap_setCell _ _ _ _ (show R ≠ M by rintro rfl; have e := (show w.heap[R]? = _ from h).symm.trans hm; simp at e)]; exact h
theorem RS.setLast {R : Nat} {r : Res} {p : Pan} {w : World} (h : RS R r w) : RS R { r with last := p } ((((w.setCell ⟨R, 2, none⟩ (.int .i64 p.sort)).setCell ⟨R, 3, none⟩ (.string p.word)).setCell ⟨R, 4, none⟩ (.int .i64 0)).setCell ⟨R, 1, none⟩ (.int .i64 0)) := by
  unfold RS at h ⊢
  rw [heap_setCell_same _ _ _ _ _ _ (heap_setCell_same _ _ _ _ _ _ (heap_setCell_same _ _ _ _ _ _ (heap_setCell_same _ _ _ _ _ _ h)))]; rfl

theorem step_ok {F : List (List Stp)} (h : progOk F = true) {f k : Nat} (hf : f < F.length) (hk : k < (F.getD f []).length) : stepOk F.length (F.getD f []).length ((F.getD f []).getD k default) = true := by
  unfold progOk at h
  rw [List.all_eq_true] at h
  have e : F.getD f [] = F[f] := by simp [List.getD, hf]
  rw [e] at hk ⊢
  have h2 := h F[f] (List.getElem_mem _)
  rw [List.all_eq_true] at h2
  have e2 : F[f].getD k default = F[f][k] := by simp [List.getD, hk]
  rw [e2]
  exact h2 _ (List.getElem_mem _)

structure Pre (c : Cx) (d R mb : Nat) (r : Res) (m : Mst) (ov : Value) (w W : World) : Prop where
  inv : Inv c d m W
  rs : RS R r W
  chg : Chg c.base c.M R w W
  ms : W.heap[c.M]? = some (.cells (mc c.vb c.vf d m ov) 60 (0, 0))
  own : W.ownsRow c.base 38 7 ov m.out.length (oc m.out)
  box : W.heap[mb]? = some (.cells #[.pointer (some ⟨c.M, 0, none⟩)] 58 (0, 0))
theorem Pre.below {c : Cx} {d R mb : Nat} {r : Res} {m : Mst} {ov : Value} {w W W2 : World} (h : Pre c d R mb r m ov w W) (hb : Below W.heap.size W W2) : Pre c d R mb r m ov w W2 :=
  ⟨h.inv.below hb, h.rs.below hb, h.chg.trans (.of_below hb) (.inl rfl), by rw [hb.block _ (Array.getElem?_eq_some_iff.1 h.ms).1]; exact h.ms, owns_keep h.own fun b cur e => hb.block _ (Array.getElem?_eq_some_iff.1 e).1, by rw [hb.block _ (Array.getElem?_eq_some_iff.1 h.box).1]; exact h.box⟩

theorem pre_tick {c : Cx} {w0 : World} {d f R mb at_ : Nat} {sv : Value} {r : Res} {ds : List Dfr} {m : Mst} {t : Array Value} {df : List Deferred} {w : World} {ov : Value} (h : Hd c w0 d f R mb at_ sv r ds m t df w) (h1 : w.heap[c.M]? = some (.cells (mc c.vb c.vf d m ov) 60 (0, 0))) (h2 : w.ownsRow c.base 38 7 ov m.out.length (oc m.out)) (hlt : m.steps ≠ 10000) (hs : m.spent = false) (cs27 : Array Value) :
    Pre c d R mb r (tick m) ov w ((w.setCell ⟨c.M, 3, none⟩ (.int .i64 ((m.steps : Int) + 1))).alloc (.cells cs27 27)) := by
  have hb : Below (w.setCell ⟨c.M, 3, none⟩ (.int .i64 ((m.steps : Int) + 1))).heap.size (w.setCell ⟨c.M, 3, none⟩ (.int .i64 ((m.steps : Int) + 1))) ((w.setCell ⟨c.M, 3, none⟩ (.int .i64 ((m.steps : Int) + 1))).alloc (.cells cs27 27)) := (Below.refl _ _).alloc (Nat.le_refl _) _
  refine Pre.below ⟨tick_inv h.inv h1 h2 hlt hs, h.rs.setM h1, .setM 3 _, ?_, ?_, ?_⟩ hb
  · rw [heap_setCell_same _ _ _ _ _ _ h1]; rfl
  · exact owns_keep h2 fun b cur e => Below.heap_setCell _ _ _ _ (by rintro rfl; rw [h1] at e; cases e)
  · rw [Below.heap_setCell _ _ _ _ (show mb ≠ c.M by rintro rfl; have e := h1.symm.trans h.box; simp at e)]; exact h.box

set_option maxHeartbeats 4000000 in
theorem lh_succ {c : Cx} {n : Nat} (hP : progOk c.F = true) (hlen : ∀ f, (c.F.getD f []).length ≤ 1000000) (hF : FC c n) (hLV : LV c n) (hLH : LH c n) : LH c (n + 1) := by
  intro d f at_ R mb sv r q ds m x w0 w t df kind bs cs Rf h hf H hB hbs hd hpost
  obtain ⟨ov, hm, hown⟩ := H.inv.ms
  have leave : ∀ (p : Option Pan) (m' : Mst) (W : World) (u : FrameMode) (t' : Array Value), leaveL c.F itoaB n (d + 1) r q ds p m' = some x → Inv c (d + 1) m' W → RS R r W → Chg c.base c.M R w W → ModeOut u p → Leaves Tryd.prog Tryd.f23 t' (fun e w' => Rf e cs w') df u W := by
    intro p m' W u t' h hi hr hc hu
    have hbox := hc.keep hm H.rs H.box (by decide) (by decide) (by decide)
    have hb := (hLV d R mb w.heap.size r q ds p m' x w0 W df u t' (fun _ _ => True) h hi hr hbox (H.dlk hc) (H.chg.trans hc (.inl rfl)) H.hR H.bR hbs (by omega) hu (fun _ _ _ => trivial)).1
    exact (hLV d R mb w.heap.size r q ds p m' x w0 W df u t' _ h hi hr hbox (H.dlk hc) (H.chg.trans hc (.inl rfl)) H.hR H.bR hbs (by omega) hu (fun e w' hp => hpost e cs w' (by rw [hb]; exact hB) hp)).2
  have next : ∀ {at' : Nat} {r' : Res} {q' : Option Pan} {ds' : List Dfr} {m' : Mst} {t' : Array Value} {df' : List Deferred} {W : World} {cs' : List Frame}, runL c.F itoaB n (d + 1) f at' r' q' ds' m' = some x → Chg c.base c.M R w W → Slots c.M f R mb at' sv t' → Inv c (d + 1) m' W → RS R r' W → DL c.M R mb w0.heap.size c.F.length W W.heap.size ds' df' → Bn kind bs cs' q' →
      (loopOf Tryd.f23).wpL Tryd.prog kind (Exit.inBlockS 0 (Exit.noGotoS (bodyPostK Tryd.prog Tryd.f23 Rf))) ⟨t', df'⟩ cs' W :=
    fun h1 h2 h3 h4 h5 h6 h7 => hLH d f _ R mb sv _ _ _ _ x w0 _ _ _ kind bs _ Rf h1 hf (H.next h2 h3 h4 h5 h6) h7 hbs (by omega) hpost
  have c0 : w.cell? ⟨mb, 0, none⟩ = some (.pointer (some ⟨c.M, 0, none⟩)) := by rw [cell_of_block H.box]; rfl
  have fM : ∀ i, w.frozen? ⟨c.M, i, none⟩ = false := fun i => frozen_of_block hm i
  have hne : c.M ≠ mb := by rintro rfl; have e := hm.symm.trans H.box; simp at e
  refine wpL_round ?_
  simp only [runL] at h
  by_cases hat : at_ < (c.F.getD f []).length
  · rw [if_pos hat] at h
    cases hsp : (spend m).spent
    · obtain ⟨hse, hst, hsn⟩ := spend_not hsp
      simp only [hse, hsn, Bool.false_eq_true, if_false] at h
      obtain ⟨s, hs⟩ : ∃ s, (c.F.getD f []).getD at_ default = s := ⟨_, rfl⟩
      rw [hs] at h
      have hok := step_ok hP hf hat
      rw [hs] at hok
      obtain ⟨SB, cap, cur, rfl, hSB, g0, g1, g2, g3⟩ := row_at H.own hat hs
      have hat' : decide (at_ < (c.F.getD f []).length) = true := decide_eq_true hat
      have c3 : w.cell? ⟨c.M, 3, none⟩ = some (.int .i64 (m.steps : Int)) := by rw [cell_of_block hm]; rfl
      have c4 : w.cell? ⟨c.M, 4, none⟩ = some (.bool false) := by rw [cell_of_block hm]; exact congrArg (fun b => some (Value.bool b)) hsn
      have c5 : w.cell? ⟨c.M, 5, none⟩ = some ov := by rw [cell_of_block hm]; rfl
      have hk : ((m.steps : Int) == 10000) = false := by simp; omega
      have hk2 : m.steps ≤ 10000 := H.inv.mb.steps
      have hne2 : c.M ≠ SB := by rintro rfl; have e := hm.symm.trans hSB; simp at e
      have hL := hlen f
      have pre := pre_tick H hm hown hst hsn
      have hsz : ∀ cs27, ((w.setCell ⟨c.M, 3, none⟩ (.int .i64 ((m.steps : Int) + 1))).alloc (.cells cs27 27)).heap.size = w.heap.size + 1 := fun cs27 => by simp
      have hdl : ∀ {W : World}, Chg c.base c.M R w W → DL c.M R mb w0.heap.size c.F.length W W.heap.size ds df := fun hc => (H.dlk hc).mono hc.size
      by_cases h16 : s.op = 16
      · rw [if_pos h16] at h
        have hn : 0 ≤ s.n ∧ s.n ≤ 32767 := by
          simp [stepOk, h16] at hok; omega
        obtain ⟨j, hj⟩ : ∃ j : Nat, s.n = j := ⟨s.n.toNat, by omega⟩
        rw [hj] at g1 h
        refine round_jump H.sl hat' c0 hk hk2 c3 c4 fM hne hne2 hL (by omega) (by rw [g0, h16]; rfl) g1 g2 g3 ?_
        rintro t' W hsl rfl
        exact next (by simpa using h) (pre _).chg hsl (pre _).inv (pre _).rs (hdl (pre _).chg) hB
      rw [if_neg h16] at h
      by_cases h6 : s.op = 6
      · rw [if_pos h6] at h
        have hn : s.f < c.F.length := by simp [stepOk, h6] at hok; exact hok.2
        refine round_defer H.sl hat' c0 hk hk2 c3 c4 fM hne hne2 hL (by rw [g0, h6]; rfl) g1 g2 g3 ?_
        rintro t' W hsl rfl
        have hb2 := fun cs27 => (Below.refl ((w.setCell ⟨c.M, 3, none⟩ (.int .i64 ((m.steps : Int) + 1))).alloc (.cells cs27 27)).heap.size _).alloc (Nat.le_refl _) (.cells (rc Res.new) 63)
        have p2 := (pre #[.int .u8 6, .int .i16 s.n, .int .i64 s.f, .int .i64 0]).below (hb2 #[.int .u8 6, .int .i16 s.n, .int .i64 s.f, .int .i64 0])
        refine next h p2.chg hsl p2.inv p2.rs ⟨w.heap.size + 1, df, rfl, hn, ?_⟩ hB
        rw [if_neg (by simp)]
        refine ⟨by have := H.chg.size; omega, by simp, alloc_at' _ _ _ (hsz _).symm, (H.dlk p2.chg).mono (by omega)⟩
      rw [if_neg h6] at h
      by_cases h7 : s.op = 7
      · rw [if_pos h7] at h
        have hn : s.f < c.F.length := by simp [stepOk, h7] at hok; exact hok.2
        refine round_later H.sl hat' c0 hk hk2 c3 c4 fM hne hne2 hL (by rw [g0, h7]; rfl) g1 g2 g3 ?_
        rintro t' W hsl rfl
        refine next h (pre _).chg hsl (pre _).inv (pre _).rs ⟨R, df, rfl, hn, ?_⟩ hB
        rw [if_pos rfl]
        exact ⟨rfl, hdl (pre _).chg⟩
      rw [if_neg h7] at h
      have hRM : c.M ≠ R := by rintro e; have e2 := hm.symm.trans (e ▸ H.rs); simp at e2
      have hRb : mb ≠ R := by rintro rfl; have e := (show w.heap[mb]? = _ from H.rs).symm.trans H.box; simp at e
      have r0 : w.cell? ⟨R, 0, none⟩ = some (.int .i16 r.number) := by rw [cell_of_block H.rs]; rfl
      have r1 : w.cell? ⟨R, 1, none⟩ = some (.int .i64 0) := by rw [cell_of_block H.rs]; rfl
      by_cases h11 : s.op = 11
      · rw [if_pos h11] at h
        obtain ⟨v, cs', hrec, hB'⟩ : ∃ v cs', Recs kind cs cs' v (q.getD Pan.none) ∧ Bn kind bs cs' none := by
          cases q with
          | none => exact ⟨.nilIface, cs, .inr ⟨hB.rec_none, rfl, rfl, rfl⟩, hB⟩
          | some p => obtain ⟨v, cs', e, hv, hb⟩ := hB.rec_some; exact ⟨v, cs', .inl ⟨e, hv⟩, hb⟩
        obtain ⟨p, hp⟩ : ∃ p, q.getD Pan.none = p := ⟨_, rfl⟩
        rw [hp] at hrec h
        have p1 := pre #[.int .u8 11, .int .i16 s.n, .int .i64 s.f, .int .i64 0]
        refine round_recover H.sl hat' c0 hk hk2 c3 c4 fM hne hne2 hL hRM hRb hB.kind hrec r0 (xs := r.last.sort) (xw := r.last.word) (by rw [g0, h11]; rfl) g1 g2 g3 ?_
        intro w2 hb2
        have p2 := p1.below hb2
        have hbX : Below w2.heap.size w2 ((w2.alloc (.cells #[.int .i64 p.sort, .string p.word, .int .i64 0] 29)).alloc (.cells (oc1 ⟨f, at_, 0, p⟩).toArray 38)).drew := below_dN (n := 1) (((Below.refl _ _).alloc (Nat.le_refl _) _).alloc (by simp) _)
        have pX := p2.below hbX
        have hpb : (((w2.alloc (.cells #[.int .i64 p.sort, .string p.word, .int .i64 0] 29)).alloc (.cells (oc1 ⟨f, at_, 0, p⟩).toArray 38)).drew).heap[w2.heap.size]? = some (.cells #[.int .i64 p.sort, .string p.word, .int .i64 0] 29 (0, 0)) :=
          (alloc_old _ _ _ (by simp)).trans (alloc_at _ _)
        obtain ⟨va, vn, vc, w3, happ, hch3, hm3, hi3⟩ := append_out (g := w2.heap.size + 1) (o := ⟨f, at_, 0, p⟩) pX.inv (by show m.out.length < m.steps + 1; have := H.inv.mb.outs; omega) pX.ms pX.own (alloc_at' _ _ _ (by simp))
        have hb3 := (hch3 R).keep pX.ms pX.rs pX.box (by decide) (by decide) (by decide)
        have hpb3 := (hch3 R).keep pX.ms pX.rs hpb (by decide) (by decide) (by decide)
        have hr3 : RS R r w3 := pX.rs.keep (hch3 (R + 1)) pX.ms (by omega)
        have l1 := (Array.getElem?_eq_some_iff.1 p2.ms).1
        have l2 := (Array.getElem?_eq_some_iff.1 p2.box).1
        have l3 := p2.rs.lt
        have hcW : Chg c.base c.M R w (w3.setCell ⟨c.M, 5, none⟩ (.slice va vn vc)) := (pX.chg.trans (hch3 R) (.inl rfl)).trans (.setM 5 _) (.inl rfl)
        have hr4 := hr3.setM (i := 5) (v := .slice va vn vc) hm3
        refine ⟨ov, va, vn, vc, w3, by rw [cell_of_block p2.box]; rfl, by rw [cell_of_block p2.ms]; rfl, happ, by rw [cell_of_block hb3]; rfl, by rw [cell_of_block hm3]; rfl, frozen_of_block hm3 5, by rw [cell_of_block hpb3]; rfl, by rw [cell_of_block hpb3]; rfl, by rw [cell_of_block hpb3]; rfl,
          by rw [cell_of_block hr3]; rfl, by rw [cell_of_block hr3]; rfl, by rw [cell_of_block hr3]; rfl, by rw [cell_of_block hr3]; rfl, by rw [cell_of_block hr3]; rfl, by omega, by omega, by omega, fun i => frozen_of_block hr3 i, ?_, ?_⟩
        · intro h0 t' hsl
          have e : caughtR p r = r := by unfold caughtR; rw [if_pos (by simpa using h0)]
          rw [e] at h
          exact next h hcW hsl hi3 hr4 (hdl hcW) hB'
        · intro h0 t' hsl
          have e : caughtR p r = { r with last := p } := by unfold caughtR; rw [if_neg (by simpa using h0)]
          rw [e] at h
          have i1 := hi3.setR hr4 H.bR 2 (.int .i64 p.sort)
          have i2 := i1.setR (heap_setCell_same _ _ _ _ _ _ hr4) H.bR 3 (.string p.word)
          have i3 := i2.setR (heap_setCell_same _ _ _ _ _ _ (heap_setCell_same _ _ _ _ _ _ hr4)) H.bR 4 (.int .i64 0)
          have i4 := i3.setR (heap_setCell_same _ _ _ _ _ _ (heap_setCell_same _ _ _ _ _ _ (heap_setCell_same _ _ _ _ _ _ hr4))) H.bR 1 (.int .i64 0)
          have hc4 := (((hcW.trans (.setR 2 (.int .i64 p.sort)) (.inl rfl)).trans (.setR 3 (.string p.word)) (.inl rfl)).trans (.setR 4 (.int .i64 0)) (.inl rfl)).trans (.setR 1 (.int .i64 0)) (.inl rfl)
          obtain ⟨W5, hW5⟩ : ∃ W5, W5 = (((((w3.setCell ⟨c.M, 5, none⟩ (.slice va vn vc)).setCell ⟨R, 2, none⟩ (.int .i64 p.sort)).setCell ⟨R, 3, none⟩ (.string p.word)).setCell ⟨R, 4, none⟩ (.int .i64 0)).setCell ⟨R, 1, none⟩ (.int .i64 0)) := ⟨_, rfl⟩
          rw [← hW5] at i4 hc4 ⊢
          have hr5 := hr4.setLast (p := p)
          rw [← hW5] at hr5
          have hbd : Below W5.heap.size W5 W5.drew := below_dN (n := 1) (Below.refl _ _)
          have hc5 := hc4.trans (.of_below hbd) (.inl rfl)
          exact next h hc5 hsl (i4.below hbd) (hr5.below hbd) (hdl hc5) hB'
      rw [if_neg h11] at h
      by_cases h4 : s.op = 4
      · rw [if_pos h4] at h
        have p1 := pre #[.int .u8 4, .int .i16 s.n, .int .i64 s.f, .int .i64 0]
        have hz1 := hsz #[.int .u8 4, .int .i16 s.n, .int .i64 s.f, .int .i64 0]
        obtain ⟨W1, hW1⟩ : ∃ W1, W1 = (w.setCell ⟨c.M, 3, none⟩ (.int .i64 ((m.steps : Int) + 1))).alloc (.cells #[.int .u8 4, .int .i16 s.n, .int .i64 s.f, .int .i64 0] 27) := ⟨_, rfl⟩
        rw [← hW1] at p1 hz1
        have pX := p1.below (below_dN (n := 1) ((Below.refl _ _).alloc (Nat.le_refl _) (.cells (oc1 ⟨f, at_, r.number, Pan.none⟩).toArray 38)))
        obtain ⟨va, vn, vc, w3, happ, hch3, hm3, hi3⟩ := append_out (g := w.heap.size + 1) (o := ⟨f, at_, r.number, Pan.none⟩) pX.inv (by show m.out.length < m.steps + 1; have := H.inv.mb.outs; omega) pX.ms pX.own (alloc_at' _ _ _ hz1.symm)
        have hb3 := (hch3 R).keep pX.ms pX.rs pX.box (by decide) (by decide) (by decide)
        have hr3 : RS R r w3 := pX.rs.keep (hch3 (R + 1)) pX.ms (by omega)
        subst hW1
        refine round_tell H.sl hat' c0 hk hk2 c3 c4 fM hne hne2 hL hRM hRb c5 r0 r1 happ (by rw [cell_of_block hb3]; rfl) (by rw [cell_of_block hm3]; rfl) (frozen_of_block hm3 5) (by rw [cell_of_block hr3]; rfl) (by rw [cell_of_block hr3]; rfl) (by rw [g0, h4]; rfl) g1 g2 g3 ?_
        intro t' hsl
        have hcW : Chg c.base c.M R w (w3.setCell ⟨c.M, 5, none⟩ (.slice va vn vc)) := (pX.chg.trans (hch3 R) (.inl rfl)).trans (.setM 5 _) (.inl rfl)
        exact next h hcW hsl hi3 (hr3.setM hm3) (hdl hcW) hB
      rw [if_neg h4] at h
      have p1 := pre #[.int .u8 s.op, .int .i16 s.n, .int .i64 s.f, .int .i64 0]
      have hops : s.op = 1 ∨ s.op = 2 ∨ s.op = 5 ∨ s.op = 9 ∨ s.op = 10 := by
        simp [stepOk, h16, h6, h7, h11, h4] at hok; omega
      have hn16 : -32768 ≤ s.n ∧ s.n ≤ 32767 := by
        simp [stepOk] at hok; omega
      have b14 : ((s.op : Int) == 14) = false := by simp; omega
      have b15 : ((s.op : Int) == 15) = false := by simp; omega
      have b16 : ((s.op : Int) == 16) = false := by simp; omega
      have b6 : ((s.op : Int) == 6) = false := by simp; omega
      have b7 : ((s.op : Int) == 7) = false := by simp; omega
      have b11 : ((s.op : Int) == 11) = false := by simp; omega
      have b4 : ((s.op : Int) == 4) = false := by simp; omega
      have goOn : ∀ (m' : Mst) (r' : Res), runL c.F itoaB n (d + 1) f (at_ + 1) r' q ds m' = some x →
          Calls Tryd.prog 28 #[.pointer (some ⟨c.M, 0, none⟩), spc s.op s.n s.f, .pointer (some ⟨R, 0, none⟩)] ((w.setCell ⟨c.M, 3, none⟩ (.int .i64 ((m.steps : Int) + 1))).alloc (.cells #[.int .u8 s.op, .int .i16 s.n, .int .i64 s.f, .int .i64 0] 27)) (FPost c R (d + 1) none m' r' ((w.setCell ⟨c.M, 3, none⟩ (.int .i64 ((m.steps : Int) + 1))).alloc (.cells #[.int .u8 s.op, .int .i16 s.n, .int .i64 s.f, .int .i64 0] 27))) →
          (loopOf Tryd.f23).wpK Tryd.prog kind (Exit.thenS (fun a cs w => (loopOf Tryd.f23).wpL Tryd.prog kind (Exit.inBlockS 0 (Exit.noGotoS (bodyPostK Tryd.prog Tryd.f23 Rf))) a cs w) (Exit.inBlockS 0 (Exit.noGotoS (bodyPostK Tryd.prog Tryd.f23 Rf)))) ⟨t, df⟩ cs w := by
        intro m' r' h2 hp
        refine round_plain H.sl hat' c0 hk hk2 c3 c4 fM hne hne2 hL (c := c) rfl b14 b15 b16 b6 b7 b11 b4 hp g0 g1 g2 g3 ?_
        intro t' W hsl hfp
        have hcW := p1.chg.trans hfp.2.2.2 (.inl rfl)
        exact next h2 hcW hsl hfp.2.1 hfp.2.2.1 (hdl hcW) hB
      have breakOff : ∀ (m' : Mst) (p : Pan), leaveL c.F itoaB n (d + 1) r q ds (some p) m' = some x →
          Calls Tryd.prog 28 #[.pointer (some ⟨c.M, 0, none⟩), spc s.op s.n s.f, .pointer (some ⟨R, 0, none⟩)] ((w.setCell ⟨c.M, 3, none⟩ (.int .i64 ((m.steps : Int) + 1))).alloc (.cells #[.int .u8 s.op, .int .i16 s.n, .int .i64 s.f, .int .i64 0] 27)) (FPost c R (d + 1) (some p) m' r ((w.setCell ⟨c.M, 3, none⟩ (.int .i64 ((m.steps : Int) + 1))).alloc (.cells #[.int .u8 s.op, .int .i16 s.n, .int .i64 s.f, .int .i64 0] 27))) →
          (loopOf Tryd.f23).wpK Tryd.prog kind (Exit.thenS (fun a cs w => (loopOf Tryd.f23).wpL Tryd.prog kind (Exit.inBlockS 0 (Exit.noGotoS (bodyPostK Tryd.prog Tryd.f23 Rf))) a cs w) (Exit.inBlockS 0 (Exit.noGotoS (bodyPostK Tryd.prog Tryd.f23 Rf)))) ⟨t, df⟩ cs w := by
        intro m' p h2 hp
        refine round_panic H.sl hat' c0 hk hk2 c3 c4 fM hne hne2 hL (c := c) rfl b14 b15 b16 b6 b7 b11 b4 hp g0 g1 g2 g3 ?_
        intro t' chain W hfp
        have hcW := p1.chg.trans hfp.2.2.2 (.inl rfl)
        obtain ⟨v, o, hv, hvp, ho⟩ := hfp.1
        cases hv
        exact leave (some p) m' W (.panicking _) t' h2 hfp.2.1 hfp.2.2.1 hcW ⟨v, o, rfl, hvp, ho⟩
      rcases hops with h1 | h1 | h1 | h1 | h1
      · simp [h1, plainS] at h
        exact goOn _ _ h (by rw [h1]; rw [h1] at p1; exact plain_set p1.inv p1.rs H.bR)
      · simp [h1, plainS] at h
        exact goOn _ _ h (by rw [h1]; rw [h1] at p1; exact plain_add p1.inv p1.rs H.bR)
      · have hfn : s.f < c.F.length := by simp [stepOk, h1] at hok; exact hok.2
        rw [if_pos h1] at h
        by_cases hd64 : 64 ≤ d + 1
        · rw [if_pos hd64] at h
          refine breakOff _ _ h ?_
          rw [h1]; rw [h1] at p1
          exact plain_call p1.inv p1.rs fun w1 hi hr => call_deep hi hr hd64
        · rw [if_neg hd64] at h
          cases hrun : runL c.F itoaB n (d + 1 + 1) s.f 0 Res.new none [] (tick m) with
          | none => simp [hrun] at h
          | some y =>
            simp only [hrun] at h
            have hcall : ∀ w1 R1, Inv c (d + 1) (tick m) w1 → RS R1 Res.new w1 → c.base ≤ R1 → Calls Tryd.prog 23 (fargs c.M s.f R1) w1 (FPost c R1 (d + 1) y.p y.m y.r w1) :=
              fun w1 R1 hi hr hb => (hF (d + 1) s.f R1 Res.new none (tick m) y w1 hrun hfn hi hr hb (by omega)).1 rfl
            cases hyp : y.p with
            | none =>
              rw [hyp] at hcall
              simp only [hyp] at h
              refine goOn _ _ h ?_
              rw [h1]; rw [h1] at p1
              exact plain_call p1.inv p1.rs fun w1 hi hr => call_returns hi hr H.bR (by omega) hcall
            | some p =>
              rw [hyp] at hcall
              simp only [hyp] at h
              refine breakOff _ _ h ?_
              rw [h1]; rw [h1] at p1
              exact plain_call p1.inv p1.rs fun w1 hi hr => call_panics hi hr H.bR (by omega) hcall
      · simp [h1, plainS] at h
        exact breakOff _ _ h (by rw [h1]; rw [h1] at p1; exact plain_word p1.inv p1.rs H.bR hn16.1 hn16.2)
      · simp [h1, plainS] at h
        exact breakOff _ _ h (by rw [h1]; rw [h1] at p1; exact plain_fault p1.inv p1.rs H.bR hn16.1 hn16.2)
    · simp only [hsp, if_true] at h
      have he : m.steps = 10000 := by
        by_cases e : m.steps = 10000
        · exact e
        · unfold spend at hsp; rw [if_neg e] at hsp
          rcases H.inv.mb.spent with g | g
          · rw [g] at hsp; cases hsp
          · exact g
      have hse : spend m = { m with spent := true } := by unfold spend; rw [if_pos he]
      rw [hse] at h
      obtain ⟨sa, sp, rfl⟩ := own_form H.own
      refine head_spent H.sl (decide_eq_true hat) c0 (by rw [cell_of_block hm]; exact congrArg (fun k : Nat => some (Value.int .i64 k)) he) (x := m.spent) (by rw [cell_of_block hm]; rfl) fM hne fun t' => ?_
      exact leave none _ _ .returning t' h (spent_inv H.inv hm hown he) (H.rs.setM hm) (.setM 4 _) rfl
  · rw [if_neg hat] at h
    obtain ⟨sa, sp, rfl⟩ := own_form H.own
    refine head_end H.sl (decide_eq_false hat) fun t' => ?_
    exact leave none m w .returning t' h H.inv H.rs (.refl _ _ _ _) rfl

theorem frames {c : Cx} (hP : progOk c.F = true) (hlen : ∀ f, (c.F.getD f []).length ≤ 1000000) (hn : c.F.length ≤ 1000000) : ∀ n, LH c n ∧ LV c n
  | 0 => ⟨by intro d f at_ R mb sv r q ds m x w0 w t df kind bs cs Rf h; simp [runL] at h, lv_zero c⟩
  | n + 1 => by
    obtain ⟨h1, h2⟩ := frames hP hlen hn n
    exact ⟨lh_succ hP hlen (fc_of_lh hn h1) h2 h1, lv_succ c n (fc_of_lh hn h1) h2⟩
/-- A frame does what the plain machine says. -/
theorem frame_run {c : Cx} (hP : progOk c.F = true) (hlen : ∀ f, (c.F.getD f []).length ≤ 1000000) (hn : c.F.length ≤ 1000000) (n : Nat) : FC c n := fc_of_lh hn (frames hP hlen hn n).1
end Go.Proofs.YtokfnlfadofmnaaDoor
