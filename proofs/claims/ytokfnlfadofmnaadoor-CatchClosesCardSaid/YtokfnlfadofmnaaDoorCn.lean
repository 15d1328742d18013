/- catch.Run. -/
import Derived.Test.YtokfnlfadofmnaaDoorCm
namespace Go.Proofs.YtokfnlfadofmnaaDoor
open Go.RowKit
set_option linter.unusedVariables false

def resC (en : Nat) (num : Int) (p : Pan) (ov : Value) (steps : Nat) : Array Value := #[.int .u8 en, .int .i16 num, .int .i64 0, .int .i64 p.sort, .string p.word, .int .i64 0, ov, .int .i64 steps]
def m0 : Mst := ⟨0, false, []⟩
/-- A run's result, in cells. -/
def outC (x : Fin) (ov : Value) : Array Value :=
  if x.m.spent then resC 3 0 Pan.none ov x.m.steps
  else if (x.p.getD Pan.none).sort = 0 then resC 1 x.r.number Pan.none ov x.m.steps
  else resC 2 0 (x.p.getD Pan.none) ov x.m.steps
def RunPost (x : Fin) (w : World) (e : Ending) (w' : World) : Prop :=
  ∃ ov, e = .returned (.tuple #[.agg (outC x ov), .int .i64 0]) ∧ w'.ownsRow w.heap.size 38 7 ov x.m.out.length (oc x.m.out) ∧ Below w.heap.size w w'

theorem results_row_tmp {P : Program} {fn : Func} {p u : Tmp} {ty : TypeId} (h : fn.results = #[.cell p ty, .tmp u]) (tmps : Array Value) (w : World) (g : Nat) (t : TypeId) (cs : Array Value) (fr : Nat × Nat) (d : TypeDesc)
    (hp : tmps.getD p undef = .pointer (some ⟨g, 0, none⟩)) (hg : w.heap[g]? = some (.cells cs t fr))
    (hu : P.underlying ty = some d) (hd : (match d with | .struct _ | .array _ _ => true | _ => false) = true) (hi : (P.info? ty).map (·.size) = some cs.size) :
    (results fn tmps).run P w = .ok (.tuple #[.agg cs, tmps.getD u undef]) w := by
  rw [results_cell_tmp h, hp]
  simp [asAddr, run_loadVar_row w g t ty cs fr d hg hu hd hi, Result.andThen]

/-- One block alone has turned, and new ones. -/
structure Gg (g : Nat) (w w' : World) : Prop where
  os : w'.os = w.os
  tape : w'.tape = w.tape
  output : w'.output = w.output
  size : w.heap.size ≤ w'.heap.size
  block : ∀ b, b < w.heap.size → b ≠ g → w'.heap[b]? = w.heap[b]?
theorem Gg.refl (g : Nat) (w : World) : Gg g w w := ⟨rfl, rfl, rfl, Nat.le_refl _, fun _ _ _ => rfl⟩
theorem Gg.set {g i : Nat} {w W : World} {v : Value} (h : Gg g w W) : Gg g w (W.setCell ⟨g, i, none⟩ v) :=
  ⟨h.os, h.tape, h.output, by have := h.size; simpa using this, fun b h1 h2 => by rw [Below.heap_setCell _ _ _ _ h2]; exact h.block b h1 h2⟩
theorem Gg.alloc {g : Nat} {w W : World} {o : Obj} (h : Gg g w W) : Gg g w (W.alloc o) :=
  ⟨h.os, h.tape, h.output, by have := h.size; simp; omega, fun b h1 h2 => by rw [alloc_old _ _ _ (Nat.lt_of_lt_of_le h1 h.size)]; exact h.block b h1 h2⟩
theorem Gg.drew {g : Nat} {w W : World} (h : Gg g w W) : Gg g w W.drew := ⟨h.os, h.tape, h.output, h.size, h.block⟩
theorem heap_alloc_keep {w : World} {o x : Obj} {g : Nat} (h : w.heap[g]? = some x) : (w.alloc o).heap[g]? = some x := by rw [alloc_old _ _ _ (Array.getElem?_eq_some_iff.1 h).1]; exact h
theorem heap_drew_keep {w : World} {x : Obj} {g : Nat} (h : w.heap[g]? = some x) : w.drew.heap[g]? = some x := h
theorem run_close {x : Fin} {w w5 W : World} {ov : Value} {cs cs' : Array Value} (hov : w5.ownsRow w.heap.size 38 7 ov x.m.out.length (oc x.m.out)) (hb : Below w.heap.size w w5) (hres : w5.heap[w.heap.size]? = some (.cells cs' 32 (0, 0))) (hG : Gg w.heap.size w5 W) (he : cs = outC x ov) : RunPost x w (.returned (.tuple #[.agg cs, .int .i64 0])) W := by
  subst he
  refine ⟨ov, rfl, owns_keep hov fun b cur e => hG.block b (Array.getElem?_eq_some_iff.1 e).1 (by rintro rfl; rw [hres] at e; cases e), ⟨hG.os.trans hb.os, hG.tape.trans hb.tape, hG.output.trans hb.output, Nat.le_trans hb.size hG.size, fun b h1 => ?_⟩⟩
  rw [hG.block b (Nat.lt_of_lt_of_le h1 hb.size) (by omega)]; exact hb.block b h1

theorem run_ret {x : Fin} {w w5 W : World} {ov : Value} {cs' : Array Value} {t : Array Value} (hp : t.getD 4 undef = .pointer (some ⟨w.heap.size, 0, none⟩)) (h5 : t.getD 5 undef = .int .i64 0) (hh : ∃ cs, W.heap[w.heap.size]? = some (.cells cs 32 (0, 0)) ∧ cs = outC x ov)
    (hov : w5.ownsRow w.heap.size 38 7 ov x.m.out.length (oc x.m.out)) (hb : Below w.heap.size w w5) (hres : w5.heap[w.heap.size]? = some (.cells cs' 32 (0, 0))) (hG : Gg w.heap.size w5 W) : bodyPost Tryd.prog Tryd.f7 (RunPost x w) .ret ⟨t, []⟩ W := by
  obtain ⟨cs, h1, h2⟩ := hh
  have hsz : cs.size = 8 := by rw [h2]; unfold outC; split <;> (try split) <;> rfl
  have hr := results_row_tmp (P := Tryd.prog) (fn := Tryd.f7) (p := 4) (u := 5) (ty := 32) rfl t W w.heap.size 32 cs (0, 0) _ hp h1 Tryd.underlying32 rfl (by rw [hsz]; kernel_rfl)
  rw [h5] at hr
  exact bodyPost_ret hr rfl (run_close hov hb hres hG h2)

theorem mb0 : MB m0 := ⟨by decide, by decide, .inl rfl⟩

theorem inv_fn {w : World} {FB cap : Nat} {F : List (List Stp)} (h : FV w FB cap F) (base M : Nat) (vb : Value) : FN ⟨base, M, vb, .slice (some ⟨FB, 0, none⟩) F.length cap, F⟩ w := by
  obtain ⟨cur, h1, h2, h3, h4⟩ := h
  exact ⟨FB, cap, cur, rfl, h1, h2, h3, h4⟩

/-- The first function, run in the world that Run has made. -/
theorem top_at {w w2 : World} {FB cap n : Nat} {F : List (List Stp)} {bb : Addr} {x : Fin} {c32 : Array Value} (hF : FV w FB cap F) (h0 : 0 < F.length) (h64 : F.length ≤ 64) (hlen : ∀ f, (F.getD f []).length ≤ 1000000) (hP : progOk F = true)
    (h : runL F itoaB n 1 0 0 Res.new none [] m0 = some x) (hn : n ≤ 10000000) (htab : Lib.TabIs Tryd.prog w "internal/strconv.uint64pow10" .u64 Lib.pow10Tab) (hw0 : 0 < w.heap.size) (hb : Below w.heap.size w w2) (hres : w2.heap[w.heap.size]? = some (.cells c32 32 (0, 0))) :
    Calls Tryd.prog 13 #[.pointer (some ⟨w2.heap.size, 0, none⟩), .pointer (some ⟨w2.heap.size + 1, 0, none⟩)]
      ((w2.alloc (.cells (mc (.pointer (some bb)) (.slice (some ⟨FB, 0, none⟩) F.length cap) 0 m0 (.slice none 0 0)) 60)).alloc (.cells (rc Res.new) 63)) fun e w5 =>
      e = .returned (.agg (pc (x.p.getD Pan.none))) ∧ ∃ ov, w5.heap[w2.heap.size]? = some (.cells (mc (.pointer (some bb)) (.slice (some ⟨FB, 0, none⟩) F.length cap) 0 x.m ov) 60 (0, 0)) ∧ w5.heap[w2.heap.size + 1]? = some (.cells (rc x.r) 63 (0, 0)) ∧ w5.ownsRow w.heap.size 38 7 ov x.m.out.length (oc x.m.out) ∧ Below w.heap.size w w5 ∧ w5.heap[w.heap.size]? = some (.cells c32 32 (0, 0)) := by
  have hsz := hb.size
  have hb4 : Below w2.heap.size w2 ((w2.alloc (.cells (mc (.pointer (some bb)) (.slice (some ⟨FB, 0, none⟩) F.length cap) 0 m0 (.slice none 0 0)) 60)).alloc (.cells (rc Res.new) 63)) := ((Below.refl _ _).alloc (Nat.le_refl _) _).alloc (by simp) _
  obtain ⟨W4, hW4⟩ : ∃ W4, W4 = ((w2.alloc (.cells (mc (.pointer (some bb)) (.slice (some ⟨FB, 0, none⟩) F.length cap) 0 m0 (.slice none 0 0)) 60)).alloc (.cells (rc Res.new) 63)) := ⟨_, rfl⟩
  have hM : W4.heap[w2.heap.size]? = some (.cells (mc (.pointer (some bb)) (.slice (some ⟨FB, 0, none⟩) F.length cap) 0 m0 (.slice none 0 0)) 60 (0, 0)) := by rw [hW4, alloc_old _ _ _ (by simp)]; exact alloc_at _ _
  have hR : W4.heap[w2.heap.size + 1]? = some (.cells (rc Res.new) 63 (0, 0)) := by rw [hW4]; exact alloc_at' _ _ _ (by simp)
  rw [← hW4] at hb4 ⊢
  have hbw : Below w.heap.size w W4 := hb.trans (hb4.mono hsz)
  have hres4 : W4.heap[w.heap.size]? = some (.cells c32 32 (0, 0)) := by rw [hb4.block _ (Array.getElem?_eq_some_iff.1 hres).1]; exact hres
  have hinv : Inv ⟨w.heap.size, w2.heap.size, .pointer (some bb), .slice (some ⟨FB, 0, none⟩) F.length cap, F⟩ 0 m0 W4 :=
    ⟨⟨_, hM, rfl, .inl ⟨rfl, rfl⟩⟩, mb0, inv_fn (hF.below hbw) _ _ _, tab_keep htab (hbw.block 0 hw0), hw0, hsz, hbw.size⟩
  refine (top_run (c := ⟨w.heap.size, w2.heap.size, .pointer (some bb), .slice (some ⟨FB, 0, none⟩) F.length cap, F⟩) hP hlen (by show F.length ≤ 1000000; omega) h0 h hinv hR (by show w.heap.size ≤ w2.heap.size + 1; omega) (by omega)).mono ?_
  rintro e w5 ⟨he, hi5, hr5, hc5⟩
  obtain ⟨ov, hm5, ho5⟩ := hi5.ms
  exact ⟨he, ov, hm5, hr5, ho5, hbw.trans (hc5.below hsz (by show w.heap.size ≤ w2.heap.size + 1; omega) hbw.size), hc5.keep hM hR hres4 (by decide) (by decide) (by decide)⟩

set_option maxRecDepth 100000 in
set_option maxHeartbeats 4000000 in
theorem run_ok {w : World} {FB cap n : Nat} {F : List (List Stp)} {bb : Addr} {x : Fin} (hF : FV w FB cap F) (h0 : 0 < F.length) (h64 : F.length ≤ 64) (htot : totL F F.length ≤ 10000) (hP : progOk F = true)
    (h : runL F itoaB n 1 0 0 Res.new none [] m0 = some x) (hn : n ≤ 10000000) (htab : Lib.TabIs Tryd.prog w "internal/strconv.uint64pow10" .u64 Lib.pow10Tab) (hw0 : 0 < w.heap.size) :
    Calls Tryd.prog 7 #[.pointer (some bb), .slice (some ⟨FB, 0, none⟩) F.length cap] w (RunPost x w) := by
  have hlen : ∀ f, (F.getD f []).length ≤ 1000000 := by
    intro f
    by_cases hf : f < F.length
    · have := totL_mono F (j := f + 1) (k := F.length) (by omega)
      rw [totL] at this; omega
    · simp [List.getD, List.getElem?_eq_none (Nat.le_of_not_lt hf)]
  have hb1 : Below w.heap.size w (w.alloc (.cells (resC 0 0 Pan.none (.slice none 0 0) 0) 32)) := (Below.refl _ _).alloc (Nat.le_refl _) _
  have hchk := check_ok (bb := bb) (hF.below hb1) h0 h64 htot hP
  have HX := Lib.hid (And.intro hF (And.intro htab hb1))
  have HP := Lib.hid (And.intro h0 (And.intro h64 (And.intro htot (And.intro hP (And.intro h (And.intro hlen hw0))))))
  clear hF htab hb1 h0 h64 htot hP h hlen
  go_enter Tryd.func7, Tryd.ntmps7
  go_wp2_with (go_at_call 12; refine hchk.mono ?_; rintro e w2 ⟨rfl, hb2⟩)
  obtain ⟨hF, htab, hb1⟩ := HX.out
  obtain ⟨h0, h64, htot, hP, h, hlen, hw0⟩ := HP.out
  have hbw2 : Below w.heap.size w w2 := hb1.trans (hb2.mono (by simp))
  have hres : w2.heap[w.heap.size]? = some (.cells (resC 0 0 Pan.none (.slice none 0 0) 0) 32 (0, 0)) := by rw [hb2.block _ (by simp)]; exact alloc_at _ _
  have hlt := (Array.getElem?_eq_some_iff.1 hres).1
  have htop := top_at (bb := bb) hF h0 h64 hlen hP h hn htab hw0 hbw2 hres
  clear hF htab hb1 h0 h64 htot hP h hlen hw0 hchk HX HP hb2 hres
  refine htop.mono ?_
  rintro e w5 ⟨rfl, ov, hM5, hR5, hov5, hb5, hres5⟩
  clear htop
  have k3 : w5.cell? ⟨w2.heap.size, 3, none⟩ = some (.int .i64 (x.m.steps : Int)) := by rw [cell_of_block hM5]; rfl
  have k4 : w5.cell? ⟨w2.heap.size, 4, none⟩ = some (.bool x.m.spent) := by rw [cell_of_block hM5]; rfl
  have k5 : w5.cell? ⟨w2.heap.size, 5, none⟩ = some ov := by rw [cell_of_block hM5]; rfl
  have q0 : w5.cell? ⟨w2.heap.size + 1, 0, none⟩ = some (.int .i16 x.r.number) := by rw [cell_of_block hR5]; rfl
  have q1 : w5.cell? ⟨w2.heap.size + 1, 1, none⟩ = some (.int .i64 0) := by rw [cell_of_block hR5]; rfl
  have fr : ∀ i, w5.frozen? ⟨w.heap.size, i, none⟩ = false := fun i => frozen_of_block hres5 i
  have l1 : w.heap.size ≤ w2.heap.size := hbw2.size
  have l2 := (Array.getElem?_eq_some_iff.1 hR5).1
  have x0 : w5.cell? ⟨w.heap.size, 0, none⟩ = some (.int .u8 0) := by rw [cell_of_block hres5]; rfl
  have x1 : w5.cell? ⟨w.heap.size, 1, none⟩ = some (.int .i16 0) := by rw [cell_of_block hres5]; rfl
  have x2 : w5.cell? ⟨w.heap.size, 2, none⟩ = some (.int .i64 0) := by rw [cell_of_block hres5]; rfl
  have x3 : w5.cell? ⟨w.heap.size, 3, none⟩ = some (.int .i64 0) := by rw [cell_of_block hres5]; rfl
  have x4 : w5.cell? ⟨w.heap.size, 4, none⟩ = some (.string ⟨#[]⟩) := by rw [cell_of_block hres5]; rfl
  have x5 : w5.cell? ⟨w.heap.size, 5, none⟩ = some (.int .i64 0) := by rw [cell_of_block hres5]; rfl
  have x6 : w5.cell? ⟨w.heap.size, 6, none⟩ = some (.slice none 0 0) := by rw [cell_of_block hres5]; rfl
  have x7 : w5.cell? ⟨w.heap.size, 7, none⟩ = some (.int .i64 0) := by rw [cell_of_block hres5]; rfl
  obtain ⟨oa, ocp, rfl⟩ := own_form hov5
  have l3 : ¬ w.heap.size = w5.heap.size := by omega
  have l4 : ¬ w2.heap.size = w5.heap.size := by omega
  have l5 : ¬ w2.heap.size + 1 = w5.heap.size := by omega
  have l6 : ¬ w2.heap.size + 1 = w.heap.size := by omega
  have l7 : ¬ w.heap.size = w2.heap.size + 1 := by omega
  have HM := Lib.hid (And.intro hM5 (And.intro hR5 (And.intro hov5 (And.intro hb5 (And.intro hres5 hbw2)))))
  have l10 : w2.heap.size < w5.heap.size := by omega
  have l11 : w.heap.size < w5.heap.size := by omega
  have l8 : ¬ w.heap.size = w2.heap.size := by omega
  have l9 : ¬ w2.heap.size = w.heap.size := by omega
  clear hM5 hR5 hov5 hb5 hres5 hbw2
  unfold pc
  go_wp2
  obtain ⟨W6, hW6⟩ : ∃ W6, W6 = w5.alloc (.cells #[.int .i64 (x.p.getD Pan.none).sort, .string (x.p.getD Pan.none).word, .int .i64 0] 29) := ⟨_, rfl⟩
  have hb6 : Below w5.heap.size w5 W6 := by rw [hW6]; exact (Below.refl _ _).alloc (Nat.le_refl _) _
  rw [← hW6]
  go_region
  generalize hW7 : World.drew _ = W7
  obtain ⟨hM5, hR5, hov5, hb5, hres5, hbw2⟩ := HM.out
  have hG7 : Gg w.heap.size w5 W7 := by rw [← hW7]; repeat (first | with_reducible exact Gg.refl _ _ | with_reducible refine Gg.drew ?_ | with_reducible refine Gg.alloc ?_ | with_reducible refine Gg.set ?_)
  have h7' : ∃ cs, W7.heap[w.heap.size]? = some (.cells cs 32 (0, 0)) ∧ cs = resC 0 0 Pan.none (.slice oa x.m.out.length ocp) x.m.steps := by
    rw [← hW7]
    refine ⟨_, by repeat (first | with_reducible exact hres5 | with_reducible apply heap_drew_keep | with_reducible apply heap_alloc_keep | with_reducible apply heap_setCell_same), ?_⟩
    rfl
  have h7 : W7.heap[w.heap.size]? = some (.cells (resC 0 0 Pan.none (.slice oa x.m.out.length ocp) x.m.steps) 32 (0, 0)) := by
    obtain ⟨cs, h1, rfl⟩ := h7'
    exact h1
  have hM7 := (hG7.block _ l10 l9).trans hM5
  have hR7 := (hG7.block _ l2 l6).trans hR5
  have hP7 : W7.heap[w5.heap.size]? = some (.cells (pc (x.p.getD Pan.none)) 29 (0, 0)) := by
    rw [← hW7]
    exact heap_drew_keep (alloc_at' _ _ _ (by simp))
  clear hW7 hW6 hb6 k3 k4 k5 q0 q1 fr x0 x1 x2 x3 x4 x5 x6 x7
  have k4 : W7.cell? ⟨w2.heap.size, 4, none⟩ = some (.bool x.m.spent) := by rw [cell_of_block hM7]; rfl
  have q0 : W7.cell? ⟨w2.heap.size + 1, 0, none⟩ = some (.int .i16 x.r.number) := by rw [cell_of_block hR7]; rfl
  have q1 : W7.cell? ⟨w2.heap.size + 1, 1, none⟩ = some (.int .i64 0) := by rw [cell_of_block hR7]; rfl
  have fr : ∀ i, W7.frozen? ⟨w.heap.size, i, none⟩ = false := fun i => frozen_of_block h7 i
  have p0 : W7.cell? ⟨w5.heap.size, 0, none⟩ = some (.int .i64 (x.p.getD Pan.none).sort) := by rw [cell_of_block hP7]; rfl
  have p1 : W7.cell? ⟨w5.heap.size, 1, none⟩ = some (.string (x.p.getD Pan.none).word) := by rw [cell_of_block hP7]; rfl
  have p2 : W7.cell? ⟨w5.heap.size, 2, none⟩ = some (.int .i64 0) := by rw [cell_of_block hP7]; rfl
  have x0 : W7.cell? ⟨w.heap.size, 0, none⟩ = some (.int .u8 0) := by rw [cell_of_block h7]; rfl
  have x1 : W7.cell? ⟨w.heap.size, 1, none⟩ = some (.int .i16 0) := by rw [cell_of_block h7]; rfl
  have x2 : W7.cell? ⟨w.heap.size, 2, none⟩ = some (.int .i64 0) := by rw [cell_of_block h7]; rfl
  have x3 : W7.cell? ⟨w.heap.size, 3, none⟩ = some (.int .i64 0) := by rw [cell_of_block h7]; rfl
  have x4 : W7.cell? ⟨w.heap.size, 4, none⟩ = some (.string ⟨#[]⟩) := by rw [cell_of_block h7]; rfl
  have x5 : W7.cell? ⟨w.heap.size, 5, none⟩ = some (.int .i64 0) := by rw [cell_of_block h7]; rfl
  have x6 : W7.cell? ⟨w.heap.size, 6, none⟩ = some (.slice oa x.m.out.length ocp) := by rw [cell_of_block h7]; rfl
  have x7 : W7.cell? ⟨w.heap.size, 7, none⟩ = some (.int .i64 (x.m.steps : Int)) := by rw [cell_of_block h7]; rfl
  have HZ := Lib.hid (And.intro hov5 (And.intro hb5 (And.intro hres5 (And.intro hG7 h7))))
  have l12 : ¬ w5.heap.size = w.heap.size := by omega
  clear hM5 hR5 hov5 hb5 hres5 hbw2 hG7 h7 hM7 hR7 hP7 HM
  cases hsp : x.m.spent
  · rw [hsp] at k4
    cases hq : ((x.p.getD Pan.none).sort != 0)
    · have HO := Lib.hid (show outC x (.slice oa x.m.out.length ocp) = resC 1 x.r.number Pan.none (.slice oa x.m.out.length ocp) x.m.steps by
        have e : (x.p.getD Pan.none).sort = 0 := by simpa using hq
        unfold outC; rw [hsp, if_neg (by simp), if_pos e])
      go_wp2
      go_region
      go_wp2
      obtain ⟨hov5, hb5, hres5, hG7, h7⟩ := HZ.out
      refine run_ret (x := x) rfl rfl ?_ hov5 hb5 hres5 (by repeat (first | with_reducible exact hG7 | with_reducible refine Gg.drew ?_ | with_reducible refine Gg.alloc ?_ | with_reducible refine Gg.set ?_))
      refine ⟨_, (by repeat (first | with_reducible exact h7 | with_reducible apply heap_drew_keep | with_reducible apply heap_alloc_keep | with_reducible apply heap_setCell_same)), ?_⟩
      rw [HO.out]
      unfold resC
      simp only [List.setIfInBounds_toArray, List.set_cons_zero, List.set_cons_succ]
      try rfl
    · have HO := Lib.hid (show outC x (.slice oa x.m.out.length ocp) = resC 2 0 (x.p.getD Pan.none) (.slice oa x.m.out.length ocp) x.m.steps by
        have e : ¬ (x.p.getD Pan.none).sort = 0 := by simpa using hq
        unfold outC; rw [hsp, if_neg (by simp), if_neg e])
      go_wp2
      go_region
      go_wp2
      obtain ⟨hov5, hb5, hres5, hG7, h7⟩ := HZ.out
      refine run_ret (x := x) rfl rfl ?_ hov5 hb5 hres5 (by repeat (first | with_reducible exact hG7 | with_reducible refine Gg.drew ?_ | with_reducible refine Gg.alloc ?_ | with_reducible refine Gg.set ?_))
      refine ⟨_, (by repeat (first | with_reducible exact h7 | with_reducible apply heap_drew_keep | with_reducible apply heap_alloc_keep | with_reducible apply heap_setCell_same)), ?_⟩
      rw [HO.out]
      unfold resC
      simp only [List.setIfInBounds_toArray, List.set_cons_zero, List.set_cons_succ]
      try rfl
  · have HO := Lib.hid (show outC x (.slice oa x.m.out.length ocp) = resC 3 0 Pan.none (.slice oa x.m.out.length ocp) x.m.steps by
      unfold outC; rw [hsp, if_pos rfl])
    rw [hsp] at k4
    go_wp2
    obtain ⟨hov5, hb5, hres5, hG7, h7⟩ := HZ.out
    refine run_ret (x := x) rfl rfl ?_ hov5 hb5 hres5 (by repeat (first | with_reducible exact hG7 | with_reducible refine Gg.drew ?_ | with_reducible refine Gg.alloc ?_ | with_reducible refine Gg.set ?_))
    refine ⟨_, (by repeat (first | with_reducible exact h7 | with_reducible apply heap_drew_keep | with_reducible apply heap_alloc_keep | with_reducible apply heap_setCell_same)), ?_⟩
    rw [HO.out]
    unfold resC
    simp only [List.setIfInBounds_toArray, List.set_cons_zero, List.set_cons_succ]
    rfl
end Go.Proofs.YtokfnlfadofmnaaDoor
