/- catch: a round of a frame, told over the plain machine. -/
import Derived.Test.YtokfnlfadofmnaaDoorCh
namespace Go.Proofs.YtokfnlfadofmnaaDoor
open Go.RowKit
set_option linter.unusedVariables false

theorem info38 : ∃ i : TypeInfo, Tryd.prog.info? 38 = some i ∧ i.zero = some (.agg #[.int .i64 0, .int .i64 0, .int .i16 0, .int .i64 0, .int .i64 0, .string ⟨#[]⟩, .int .i64 0]) ∧ i.size = 7 ∧ i.bytes = 64 := info_parts (by kernel_rfl)
theorem own_form {w : World} {base : Nat} {e : TypeId} {size n : Nat} {v : Value} {xs : List Value} (h : w.ownsRow base e size v n xs) : ∃ a c, v = .slice a n c := by
  rcases h.2 with ⟨rfl, rfl⟩ | ⟨g, cap, cur, rfl, _⟩
  · exact ⟨none, 0, rfl⟩
  · exact ⟨_, cap, rfl⟩

/-- What is told, appended. -/
theorem append_out {c : Cx} {d g : Nat} {m : Mst} {o : OutE} {X : World} {ov : Value} (hi : Inv c d m X) (hlt : m.out.length < m.steps) (h1 : X.heap[c.M]? = some (.cells (mc c.vb c.vf d m ov) 60 (0, 0))) (h2 : X.ownsRow c.base 38 7 ov m.out.length (oc m.out))
    (hg : X.heap[g]? = some (.cells (oc1 o).toArray 38 (0, 0))) :
    ∃ va vn vc w3, (Builtin.append_ #[30, 30] 30 #[ov, .slice (some ⟨g, 0, none⟩) 1 1]).run Tryd.prog X = .ok (.slice va vn vc) w3 ∧ (∀ R, Chg c.base c.M R X w3) ∧ w3.heap[c.M]? = some (.cells (mc c.vb c.vf d m ov) 60 (0, 0)) ∧ Inv c d (say o m) (w3.setCell ⟨c.M, 5, none⟩ (.slice va vn vc)) := by
  obtain ⟨i0, hi0, hz0, hz1, hz2⟩ := info38
  have hb := hi.mb.steps
  obtain ⟨v1, w1, k1, k2, k3, _⟩ := run_append_own (P := Tryd.prog) X c.base 30 30 38 i0 _ 7 64 Tryd.underlying30 hi0 hz0 hz1 hz2 rfl (by decide) ov m.out.length (oc m.out) h2 ⟨g, 0, none⟩ 1 1 (oc1 o) rfl
    (fun j u hj => by rw [show (⟨g, 0, none⟩ : Addr).add j = ⟨g, 0 + j, none⟩ from Go.WideShapes.add_plain _ _ _, Nat.zero_add, cell_of_block hg]; simpa using hj)
    (by intro u hu; simp [oc1] at hu; rcases hu with rfl | rfl | rfl | rfl | rfl | rfl | rfl <;> rfl) (by simp only [maxLen]; omega) (by omega) hi.baseS
  obtain ⟨va, vc, rfl⟩ := own_form k2
  have hM : some c.M ≠ ov.ownBlock := by
    intro e
    rcases h2.2 with ⟨rfl, _⟩ | ⟨o, cap, cur, rfl, ho, hh, _⟩
    · cases e
    · simp only [Value.ownBlock, Option.some.injEq] at e
      subst e
      rw [h1] at hh; cases hh
  have hm1 : w1.heap[c.M]? = some (.cells (mc c.vb c.vf d m ov) 60 (0, 0)) := by rw [k3.block _ (Array.getElem?_eq_some_iff.1 h1).1 hM]; exact h1
  have hch : ∀ R, Chg c.base c.M R X w1 := fun R => Chg.grown h2 k3
  have kk : ∀ (b : Nat) (cur : Array Value) (ty : TypeId) (fr : Nat × Nat), ty ≠ 60 → ty ≠ 38 → X.heap[b]? = some (.cells cur ty fr) → (w1.setCell ⟨c.M, 5, none⟩ (.slice va (m.out.length + 1) vc)).heap[b]? = X.heap[b]? := fun b cur ty fr t1 t2 hb => by
    rw [Below.heap_setCell _ _ _ _ (show b ≠ c.M by rintro rfl; rw [h1] at hb; cases hb; exact t1 rfl)]
    exact k3.block _ (Array.getElem?_eq_some_iff.1 hb).1 (by
      intro e
      rcases h2.2 with ⟨rfl, _⟩ | ⟨o, cap, cur, rfl, ho, hh, _⟩
      · cases e
      · simp only [Value.ownBlock, Option.some.injEq] at e
        subst e
        rw [hb] at hh; cases hh; exact t2 rfl)
  refine ⟨va, _, vc, w1, k1, hch, hm1, ⟨.slice va (m.out.length + 1) vc, ?_, ?_⟩, ⟨hi.mb.steps, by show (m.out ++ [o]).length ≤ m.steps; simp; omega, hi.mb.spent⟩, hi.fn.keep fun b cur ty ht hb => kk b cur ty _ (by rcases ht with rfl | rfl <;> decide) (by rcases ht with rfl | rfl <;> decide) hb, ?_, hi.base0, hi.baseM, ?_⟩
  · rw [heap_setCell_same _ _ _ _ _ _ hm1]; rfl
  · show World.ownsRow _ _ _ _ _ (m.out ++ [o]).length (oc (m.out ++ [o]))
    rw [oc_snoc, List.length_append]
    refine owns_keep k2 fun b cur hb => Below.heap_setCell _ _ _ _ ?_
    rintro rfl
    rw [hm1] at hb; cases hb
  · refine tab_keep hi.tab ?_
    have h0 := hi.base0; have hbm := hi.baseM; have hbs := hi.baseS
    rw [Below.heap_setCell _ _ _ _ (show 0 ≠ c.M by omega)]
    exact (hch c.M).block 0 (by omega) (by omega) (by omega) (fun _ _ _ => by omega)
  · have := k3.size; have := hi.baseS; simp; omega

theorem tick_inv {c : Cx} {d : Nat} {m : Mst} {w : World} {ov : Value} (h : Inv c d m w) (h1 : w.heap[c.M]? = some (.cells (mc c.vb c.vf d m ov) 60 (0, 0))) (h2 : w.ownsRow c.base 38 7 ov m.out.length (oc m.out)) (hlt : m.steps ≠ 10000) (hs : m.spent = false) :
    Inv c d (tick m) (w.setCell ⟨c.M, 3, none⟩ (.int .i64 ((m.steps : Int) + 1))) :=
  h.setM h1 h2 3 _ rfl rfl ⟨by show m.steps + 1 ≤ 10000; have := h.mb.steps; omega, by show m.out.length ≤ m.steps + 1; have := h.mb.outs; omega, .inl hs⟩
theorem spent_inv {c : Cx} {d : Nat} {m : Mst} {w : World} {ov : Value} (h : Inv c d m w) (h1 : w.heap[c.M]? = some (.cells (mc c.vb c.vf d m ov) 60 (0, 0))) (h2 : w.ownsRow c.base 38 7 ov m.out.length (oc m.out)) (he : m.steps = 10000) :
    Inv c d { m with spent := true } (w.setCell ⟨c.M, 4, none⟩ (.bool true)) :=
  h.setM h1 h2 4 _ rfl rfl ⟨h.mb.steps, h.mb.outs, .inr he⟩

/-- A row of steps, opened at one. -/
theorem row_at {w : World} {sv : Value} {l : List Stp} (h : w.ownsRow 0 27 4 sv l.length (sc l)) {k : Nat} (hk : k < l.length) {s : Stp} (hs : l.getD k default = s) :
    ∃ SB cap cur, sv = .slice (some ⟨SB, 0, none⟩) l.length cap ∧ w.heap[SB]? = some (.cells cur 27 (0, 0)) ∧ w.cell? ⟨SB, k * 4, none⟩ = some (.int .u8 s.op) ∧ w.cell? ⟨SB, k * 4 + 1, none⟩ = some (.int .i16 s.n) ∧ w.cell? ⟨SB, k * 4 + 2, none⟩ = some (.int .i64 s.f) ∧ w.cell? ⟨SB, k * 4 + 3, none⟩ = some (.int .i64 0) := by
  rcases h.2 with ⟨_, h0⟩ | ⟨SB, cap, cur, rfl, _, hb, hn, hm, hc, ht⟩
  · omega
  · have key : ∀ j, j < 4 → w.cell? ⟨SB, k * 4 + j, none⟩ = (sc1 s)[j]? := fun j hj => by
      rw [cell_of_block hb, ← hs, ← sc_get l k j hk hj, ← ht, List.getElem?_take, if_pos (by omega)]
      simp
    exact ⟨SB, cap, cur, rfl, hb, key 0 (by omega), key 1 (by omega), key 2 (by omega), key 3 (by omega)⟩

/-- What is known at a round's head. -/
structure Hd (c : Cx) (w0 : World) (d f R mb at_ : Nat) (sv : Value) (r : Res) (ds : List Dfr) (m : Mst) (t : Array Value) (df : List Deferred) (w : World) : Prop where
  sl : Slots c.M f R mb at_ sv t
  own : w.ownsRow 0 27 4 sv (c.F.getD f []).length (sc (c.F.getD f []))
  inv : Inv c d m w
  rs : RS R r w
  box : w.heap[mb]? = some (.cells #[.pointer (some ⟨c.M, 0, none⟩)] 58 (0, 0))
  dl : DL c.M R mb w0.heap.size c.F.length w w.heap.size ds df
  chg : Chg c.base c.M R w0 w
  hM : c.M < w0.heap.size
  hR : R < w0.heap.size
  bR : c.base ≤ R
theorem dl_chg {M R R2 mb lo n hi base : Nat} {w W : World} {ds : List Dfr} {df : List Deferred} {cm : Array Value} (h : DL M R mb lo n w hi ds df) (hc : Chg base M R2 w W) (hM : w.heap[M]? = some (.cells cm 60 (0, 0))) (hR : R2 < lo ∨ hi ≤ R2) : DL M R mb lo n W hi ds df :=
  h.keep fun b h1 h2 hb => hb.keep hc hM (by omega)
theorem Hd.dlk {c : Cx} {w0 : World} {d f R mb at_ : Nat} {sv : Value} {r : Res} {ds : List Dfr} {m : Mst} {t : Array Value} {df : List Deferred} {w W : World} (h : Hd c w0 d f R mb at_ sv r ds m t df w) (hc : Chg c.base c.M R w W) : DL c.M R mb w0.heap.size c.F.length W w.heap.size ds df := by
  obtain ⟨ov, hm, _⟩ := h.inv.ms
  exact dl_chg h.dl hc hm (.inl h.hR)
theorem Hd.next {c : Cx} {w0 : World} {d f R mb at_ at' : Nat} {sv : Value} {r r' : Res} {ds ds' : List Dfr} {m m' : Mst} {t t' : Array Value} {df df' : List Deferred} {w W : World} (h : Hd c w0 d f R mb at_ sv r ds m t df w) (hc : Chg c.base c.M R w W)
    (hs : Slots c.M f R mb at' sv t') (hi : Inv c d m' W) (hr : RS R r' W) (hd : DL c.M R mb w0.heap.size c.F.length W W.heap.size ds' df') : Hd c w0 d f R mb at' sv r' ds' m' t' df' W := by
  obtain ⟨ov, hm, _⟩ := h.inv.ms
  exact ⟨hs, owns_keep h.own fun b cur hb => by rw [hc.keep hm h.rs hb (by decide) (by decide) (by decide)]; exact hb.symm, hi, hr, hc.keep hm h.rs h.box (by decide) (by decide) (by decide), hd, h.chg.trans hc (.inl rfl), h.hM, h.hR, h.bR⟩
end Go.Proofs.YtokfnlfadofmnaaDoor
