/- Merge of the document's budget. -/
import Derived.Test.YtmdfkljmgijdlaaSf
namespace Go.Proofs.Ytmdfkljmgijdlaa
open Go.RowKit
set_option linter.unusedVariables false

theorem wpList_append_run {P : Program} {ops : Array Oper} {rest : List Oper} {o : Oper} {a : Act} {w : World} {Q : Exit → Act → World → Prop} (hgd : o.guard = none)
    (s x : Operand) (t : TypeId) (hop : o.op = Op.call { callee := Callee.builtin Builtin.append, args := #[s, x], argTypes := #[t, t] })
    (vs vx v' : Value) (w' : World) (hs : a.eval s = vs) (hx : a.eval x = vx) (hrun : (Builtin.append_ #[t, t] o.type #[vs, vx]).run P w = .ok v' w') (h : wpList P ops Q rest (a.put o.dst v') w') : wpList P ops Q (o :: rest) a w :=
  wpList_plain hgd fun _ hK => wp_append_run s x t hop vs vx v' w' hs hx hrun (hK _ _ h)

theorem counts_fr {w w' : World} {a : Option Addr} {n b : Nat} {V : Nat → Nt} (h : CountsIn w a n V) (hap : ∀ p, a = some p → p.block ≠ b ∧ p.block < w.heap.size) (hf : Fr b b w w') : CountsIn w' a n V := by
  intro q
  obtain ⟨pp, hpp, hq⟩ := h q
  refine ⟨pp, hpp, fun k hk => ?_⟩
  obtain ⟨q1, q2, q3⟩ := hq k hk
  obtain ⟨h1, h2⟩ := hap pp hpp
  have e : (pp.add (k * 3)).block = pp.block := by unfold Addr.add; split <;> rfl
  have hh := hf.block (pp.add (k * 3)).block (by rw [e]; exact h2) (by rw [e]; exact h1) (by rw [e]; exact h1)
  exact ⟨(World.cell?_of_block (w := w) (a := pp.add (k * 3)) hh).trans q1, (World.cell?_of_block (w := w) (a := ⟨(pp.add (k * 3)).block, (pp.add (k * 3)).off + 1, none⟩) hh).trans q2, (World.cell?_of_block (w := w) (a := ⟨(pp.add (k * 3)).block, (pp.add (k * 3)).off + 2, none⟩) hh).trans q3⟩

set_option maxRecDepth 100000 in
theorem rmerge_plan {Bq : Nat} {w : World} {b t s o t' s' : Nat} {now no : Int} {m m' : Bool} {L Lo : List Nt} (h : MG Bq w b t s now m L) (h' : MG Bq w o t' s' no m' Lo) (hne : t ≠ t' ∨ s ≠ s') :
    Calls Try.prog 48 #[.pointer (some ⟨b, 0, none⟩), .pointer (some ⟨o, 0, none⟩)] w fun e w' => e = .returned (.int .i64 260) ∧ ∃ n, w' = w.drewN n := by
  have hbits := bits_run
  obtain ⟨a, cp, h, _, _⟩ := h
  obtain ⟨a', cp', h', _, _⟩ := h'
  obtain ⟨c0, c1, c2, c3, c4⟩ := h.cells
  obtain ⟨d0, d1, d2, d3, d4⟩ := h'.cells
  clear h h'
  by_cases ht : t = t'
  · have hs : (((s : Int) != (s' : Int))) = true := by simp; omega
    have htt : (((t : Int) != (t' : Int))) = false := by simp [ht]
    clear hne ht
    go_enter Try.func48, Try.ntmps48
    go_wp2
    go_quiet (fail)
    go_wp2
    go_ret
    exact ⟨rfl, nq, rfl⟩
  · have htt : (((t : Int) != (t' : Int))) = true := by simp; omega
    clear hne ht
    go_enter Try.func48, Try.ntmps48
    go_wp2
    go_quiet (fail)
    go_wp2
    go_ret
    exact ⟨rfl, nq, rfl⟩

def MergeP (Bq b t s : Nat) (now no : Int) (m m' : Bool) (L Lo : List Nt) (W : World) (e : Ending) (w' : World) : Prop :=
  e = .returned (.int .i64 0) ∧ Fr b b W w' ∧ ∃ L', MG Bq w' b t s (max now no) (m || m') L' ∧ (∀ u, max now no - s < u → GL L' u = GL L u + GL Lo u ∧ BL L' u = BL L u + BL Lo u) ∧ L'.length ≤ L.length + Lo.length + 1

set_option maxRecDepth 100000 in
set_option maxHeartbeats 4000000 in
theorem rmerge_any {Bq : Nat} {w : World} {b t s o : Nat} {now no : Int} {m m' : Bool} {L Lo : List Nt} (h : MG Bq w b t s now m L) (h' : MG Bq w o t s no m' Lo) (hl : L.length ≤ 100000) (hl' : Lo.length ≤ 100000) (hBw : Bq ≤ w.heap.size) :
    Calls Try.prog 48 #[.pointer (some ⟨b, 0, none⟩), .pointer (some ⟨o, 0, none⟩)] w (MergeP Bq b t s now no m m' L Lo w) := by
  have hbits := bits_run
  have HM := Lib.hid h
  have HM' := Lib.hid h'
  obtain ⟨a, cp, h, _, _⟩ := h
  obtain ⟨a', cp', h', h0', hz', _⟩ := h'
  obtain ⟨c0, c1, c2, c3, c4⟩ := h.cells
  obtain ⟨d0, d1, d2, d3, d4⟩ := h'.cells
  have hr := h.range
  have hr' := h'.range
  have s2 := h.s2
  have HMAY := Lib.hid h'.may
  have H0' := Lib.hid h0'
  have HZ' := Lib.hid hz'
  have hs : (((s : Int) != (s : Int))) = false := by simp
  have htt : (((t : Int) != (t : Int))) = false := by simp
  have hcn := Lib.hid h'.notes
  have hbl := (Array.getElem?_eq_some_iff.1 h.bud).1
  have hol := (Array.getElem?_eq_some_iff.1 h'.bud).1
  clear h h' h0' hz'
  go_enter Try.func48, Try.ntmps48
  go_wp2
  go_quiet (fail)
  have hcn1 : CountsIn (w.drewN nq) a' Lo.length (gd Lo) := hcn.out
  have HM1 := Lib.hid (HM.out.drewN nq)
  have hbl1 : b < (w.drewN nq).heap.size := hbl
  have k2 : (w.drewN nq).cell? ⟨o, 2, none⟩ = some (.slice a' Lo.length cp') := d2
  have k3 : (w.drewN nq).cell? ⟨o, 3, none⟩ = some (.int .i64 no) := d3
  have k4 : (w.drewN nq).cell? ⟨o, 4, none⟩ = some (.bool m') := d4
  have HFR := Lib.hid ((Fr.refl b b w).drewN nq)
  have hol1 : o < (w.drewN nq).heap.size := hol
  clear c0 c1 c2 c3 c4 d0 d1 d2 d3 d4 hcn HM HM' hbl hol
  generalize w.drewN nq = w1 at *
  have hbA : Below w1.heap.size w1 (w1.alloc (.cells #[] 75)) := (Below.refl _ _).alloc (Nat.le_refl _) _
  obtain ⟨v1, w2, hr1, ho1, hg1⟩ := app_all (World.ownsRow_made w1 #[] 0 (Nat.le_refl _) (Nat.zero_le _) rfl : (w1.alloc (.cells #[] 75)).ownsRow w1.heap.size 75 3 (.slice (some ⟨w1.heap.size, 0, none⟩) 0 0) 0 []) hbA.size (hcn1.belowS hbA) HZ'.out (by omega)
  have hb2 : Below w1.heap.size w1 w2 := hbA.grown hg1 hbA.size (fun k hk => by simp [Value.ownBlock] at hk; omega)
  obtain ⟨a1, c1, hv1, hc1, _, hp1⟩ := own_notes ho1
  subst hv1
  have q3 : w2.cell? ⟨o, 3, none⟩ = some (.int .i64 no) := (hb2.cell (p := ⟨o, 3, none⟩) hol1).trans k3
  have q4 : w2.cell? ⟨o, 4, none⟩ = some (.bool m') := (hb2.cell (p := ⟨o, 4, none⟩) hol1).trans k4
  have HM2 := Lib.hid (HM1.out.own hb2)
  have HFR2 := Lib.hid (HFR.out.trans (Fr.ofBelow hb2))
  have HR1 := Lib.hid hr1
  have hap : ∀ p, a1 = some p → p.block ≠ b ∧ p.block < w2.heap.size := fun p hp => by have := hp1 p hp; omega
  have HAP := Lib.hid hap
  have HC1 := Lib.hid hc1
  clear hr1 ho1 hg1 hbA hb2 hcn1 hp1 hap HM1 HFR hc1
  cases m'
  · obtain ⟨hno, hLo⟩ := H0'.out rfl
    have HNO := Lib.hid hno
    have HLO := Lib.hid hLo
    have i1 : ¬ ((0 : Int) < (Lo.length : Int)) := by rw [hLo]; simp
    have HI := Lib.hid i1
    clear hno hLo i1
    go_wp2_with (at_builtin; refine wpList_append_run rfl (.tmp 29) (.tmp 33) 101 rfl _ _ _ w2 rfl rfl (HR1.out _) ?_)
    go_loopw [6] (fun i W => i = .int .i64 0 ∧ W = w2) (fun i _ => 0)
    case atStart => exact ⟨rfl, rfl⟩
    case round =>
      obtain ⟨rfl, rfl⟩ := hrel
      have i1 : (Lo.length : Int) ≤ 0 := by have := HI.out; omega
      go_wp2
      go_ret
      have e1 : max now no = now := by have := HNO.out; omega
      refine ⟨rfl, HFR2.out, L, ?_, fun u hu => ?_, by omega⟩
      · rw [e1, Bool.or_false]; exact HM2.out
      · rw [HLO.out, GL_nil, BL_nil]
        exact ⟨(Int.add_zero _).symm, (Int.add_zero _).symm⟩
  · have TK := Lib.hid (take_any HM2.out no 0 0 (by unfold mayB; omega) (by omega) (Nat.le_trans hBw HFR2.out.size))
    obtain ⟨N, hN⟩ : ∃ N, N = max now no := ⟨_, rfl⟩
    have hN1 : 0 ≤ N ∧ N ≤ 4611686018427387904 ∧ no ≤ N := by omega
    have HN := Lib.hid hN
    go_wp2_with (at_builtin; refine wpList_append_run rfl (.tmp 29) (.tmp 33) 101 rfl _ _ _ w2 rfl rfl (HR1.out _) ?_)
    refine TK.out.mono ?_
    rintro e w3 ⟨rfl, hf3, L3, hM3, hg3, hb3, hl3⟩
    rw [← hN] at hM3 hg3 hb3
    have start : ∀ u, N - s < u → GL L3 u = GL L u + goodN (gd Lo) 0 u ∧ BL L3 u = BL L u + badN (gd Lo) 0 u := by
      intro u hu
      rw [hg3, hb3]
      simp only [cutF, addAt, goodN, badN, noneF]
      rw [if_pos hu, if_pos hu]
      constructor <;> (split <;> omega)
    have ST := Lib.hid (And.intro hM3 (And.intro start (And.intro hl3 hf3)))
    clear hN hM3 hg3 hb3 hl3 hf3 start TK HM2 k2 k3 k4 q3 q4 HR1
    go_wp2_with fail
    go_loopw [6] (fun i W => ∃ (j : Nat) (L1 : List Nt), i = .int .i64 j ∧ j ≤ Lo.length ∧ MG Bq W b t s N true L1 ∧ (∀ u, N - s < u → GL L1 u = GL L u + goodN (gd Lo) j u ∧ BL L1 u = BL L u + badN (gd Lo) j u) ∧ L1.length ≤ L.length + 1 + j ∧ Fr b b w2 W) (fun i _ => Lo.length - (intOf i).toNat)
    case atStart => exact ⟨0, L3, rfl, by omega, ST.out.1, ST.out.2.1, by have := ST.out.2.2.1; omega, ST.out.2.2.2⟩
    case round =>
      clear ST
      obtain ⟨j, L1, rfl, hj, hM, hG, hl1, hf⟩ := hrel
      have hc := counts_fr HC1.out HAP.out hf
      obtain ⟨ax, cx, hMR, _, _⟩ := id hM
      obtain ⟨c0, c1', c2, c3, c4⟩ := hMR.cells
      have HM3 := Lib.hid hM
      have HG := Lib.hid (And.intro hG (And.intro hl1 hf))
      clear hM hMR hG hl1 hf
      by_cases hlt : j < Lo.length
      · have i1 : (j : Int) < (Lo.length : Int) := by omega
        obtain ⟨pp, rfl, hD⟩ := hc (by omega)
        obtain ⟨f1, f2, f3⟩ := hD j hlt
        obtain ⟨hmj, hlej⟩ := HMAY.out j hlt
        have hnn : Lo.length ≤ 9223372036854775807 := by omega
        have hr0 := hmj.1
        have hr1 := hmj.2.1
        have hG1 : goodN (gd Lo) (j + 1) = addAt (goodN (gd Lo) j) (gd Lo j).1 (gd Lo j).2.1 := by rw [goodN, if_pos hmj]
        have hB1 : badN (gd Lo) (j + 1) = addAt (badN (gd Lo) j) (gd Lo j).1 (gd Lo j).2.2 := by rw [badN, if_pos hmj]
        have HMJ := Lib.hid hmj
        have HGB := Lib.hid (And.intro hG1 hB1)
        clear hc hD hmj hG1 hB1
        by_cases hin : N - s < (gd Lo j).1
        · go_wp2_with fail
          go_quiet (fail)
          have g1 : (wr.drewN nq).cell? _ = _ := f1
          have g2 : (wr.drewN nq).cell? _ = _ := f2
          have g3 : (wr.drewN nq).cell? _ = _ := f3
          have TK := Lib.hid (take_any (HM3.out.drewN nq) _ _ _ HMJ.out (by have := HG.out.2.1; omega) (Nat.le_trans (Nat.le_trans hBw HFR2.out.size) HG.out.2.2.size))
          have HF := Lib.hid (HG.out.2.2.drewN nq)
          clear c0 c1' c2 c3 c4 f1 f2 f3 HM3
          generalize wr.drewN nq = wx at *
          go_wp2_with fail
          refine TK.out.mono ?_
          rintro e w4 ⟨rfl, hf4, L4, hM4, hg4, hb4, hl4⟩
          have e1 : max N (gd Lo j).1 = N := by omega
          rw [e1] at hM4 hg4 hb4
          have nxt : ∀ u, N - s < u → GL L4 u = GL L u + goodN (gd Lo) (j + 1) u ∧ BL L4 u = BL L u + badN (gd Lo) (j + 1) u := by
            intro u hu
            obtain ⟨q1, q2⟩ := HG.out.1 u hu
            rw [hg4, hb4, HGB.out.1, HGB.out.2]
            simp only [cutF, addAt]
            rw [if_pos hu, if_pos hu, q1, q2]
            constructor <;> (split <;> omega)
          have ST := Lib.hid (And.intro hM4 (And.intro nxt (And.intro hl4 (HF.out.trans hf4))))
          clear hM4 hg4 hb4 hl4 hf4 nxt TK e1
          go_wp2_with fail
          go_roundw
          case rel => exact ⟨j + 1, L4, by go_num, by omega, ST.out.1, ST.out.2.1, by have := ST.out.2.2.1; have := HG.out.2.1; omega, ST.out.2.2.2⟩
          case measure => simp [intOf]; omega
        · have nxt := Lib.hid (show ∀ u, N - s < u → GL L1 u = GL L u + goodN (gd Lo) (j + 1) u ∧ BL L1 u = BL L u + badN (gd Lo) (j + 1) u by
            intro u hu
            obtain ⟨q1, q2⟩ := HG.out.1 u hu
            rw [HGB.out.1, HGB.out.2, q1, q2]
            simp only [addAt]
            rw [if_neg (by omega), if_neg (by omega)]; exact ⟨rfl, rfl⟩)
          go_wp2_with fail
          go_quiet (fail)
          have HM4 := Lib.hid (HM3.out.drewN nq)
          have HF := Lib.hid (HG.out.2.2.drewN nq)
          clear c0 c1' c2 c3 c4 f1 f2 f3 HM3
          generalize wr.drewN nq = wx at *
          go_wp2_with fail
          go_roundw
          case rel => exact ⟨j + 1, L1, by go_num, by omega, HM4.out, nxt.out, by have := HG.out.2.1; omega, HF.out⟩
          case measure => simp [intOf]; omega
      · have i1 : ¬ ((j : Int) < (Lo.length : Int)) := by omega
        have hjn : j = Lo.length := by omega
        clear hc
        go_wp2
        go_ret
        refine ⟨rfl, HFR2.out.trans HG.out.2.2, L1, ?_, fun u hu => ?_, by have := HG.out.2.1; omega⟩
        · rw [← HN.out, Bool.or_true]; exact HM3.out
        · rw [← HN.out] at hu
          have := HG.out.1 u hu
          rw [hjn] at this
          exact this
end Go.Proofs.Ytmdfkljmgijdlaa
