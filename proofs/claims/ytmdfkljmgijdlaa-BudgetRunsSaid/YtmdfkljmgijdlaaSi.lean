/- The alarms of both budgets, told twice. -/
import Derived.Test.YtmdfkljmgijdlaaSh
import Derived.Test.YtmdfkljmgijdlaaRe
import Derived.Test.YtmdfkljmgijdlaaHd
namespace Go.Proofs.Ytmdfkljmgijdlaa
open Go.RowKit
set_option linter.unusedVariables false

theorem own_bools {w : World} {B n : Nat} {v : Value} {F : Nat → Bool} (h : w.ownsRow B 4 1 v n (bl F n)) : ∃ a cp, v = .slice a n cp ∧ (0 < n → ∃ p, a = some p ∧ ∀ i, i < n → w.cell? (p.add i) = some (.bool (F i))) ∧ ∀ p, a = some p → B ≤ p.block ∧ p.block < w.heap.size := by
  rcases h.2 with ⟨rfl, rfl⟩ | ⟨g, cp, cur, rfl, _⟩
  · exact ⟨none, 0, rfl, fun q => by omega, fun p hp => by cases hp⟩
  · have hl := h.lt g rfl
    refine ⟨some ⟨g, 0, none⟩, cp, rfl, fun _ => ⟨_, rfl, fun i hi => h.cells (g := g) rfl i _ (bl_get F n i hi)⟩, fun p hp => by cases hp; exact hl⟩

set_option maxRecDepth 100000 in
set_option maxHeartbeats 8000000 in
theorem fires_both {Bq : Nat} {w : World} {b g t s rb : Nat} {now : Int} {m : Bool} {L : List Nt} (hB : BG w b g t s now m (GL L) (BL L)) (hM : MG Bq w rb t s now m L) (a2 : Option Addr) (n cp2 : Nat) (R : Nat → Int × Int × Nat) (HR : RulesIn w a2 n R) (hby : n * 24 ≤ 140737488351232) :
    Calls Try.prog 103 #[.pointer (some ⟨b, 0, none⟩), .pointer (some ⟨rb, 0, none⟩), .slice a2 n cp2] w fun e w' => e = .returned (.bool true) ∧ Below w.heap.size w w' := by
  have h19 := frombits_run
  have HRR := Lib.hid HR
  have K1 := Lib.hid (alarms_any a2 n cp2 w R HR hby)
  have HB := Lib.hid hB
  have HM := Lib.hid hM
  clear HR hB hM
  go_enter Try.func103, Try.ntmps103
  go_wp2_with fail
  refine K1.out.mono ?_
  rintro e w1 ⟨ga, ca, rfl, hga, hga2, hca, hAl, h999, h1⟩
  have HM1 := Lib.hid (HM.out.own h1)
  have K2 := Lib.hid (rfires_any HM1.out ga n ca R hAl (by omega))
  have HAL := Lib.hid (And.intro hAl h999)
  have HB1 := Lib.hid (HB.out.own h1)
  clear K1 hAl h999 HM HB
  go_wp2_with fail
  refine K2.out.mono ?_
  rintro e w2 ⟨h2, hf0⟩
  have hbel2 := h1.trans (h2.mono h1.size)
  have HAL2 := Lib.hid (show AlarmsAt w2 ga n R from fun i hi => by
    obtain ⟨q1, q2, q3⟩ := HAL.out.1 i hi
    exact ⟨(h2.cell (p := ⟨ga, i * 3, none⟩) hga2).trans q1, (h2.cell (p := ⟨ga, i * 3 + 1, none⟩) hga2).trans q2, (h2.cell (p := ⟨ga, i * 3 + 2, none⟩) hga2).trans q3⟩)
  have K3 := Lib.hid (fires_any (HB1.out.own h2) ga n ca R HAL2.out (by omega))
  have HB2 := Lib.hid (HB1.out.own h2)
  have hga3 : ga < w2.heap.size := Nat.lt_of_lt_of_le hga2 h2.size
  have H2 := Lib.hid h2
  have H1 := Lib.hid h1
  have h1s : w.heap.size ≤ w1.heap.size := h1.size
  have hs2 : w1.heap.size ≤ w2.heap.size := h2.size
  clear K2 h2 HB1 HM1 h1
  rcases hf0 with ⟨hall, v0, rfl, hown0⟩ | ⟨hall, rfl⟩
  · obtain ⟨a0, c0, rfl, hw0, hp0⟩ := own_bools hown0
    have HALL := Lib.hid hall
    have HO0 := Lib.hid (And.intro hw0 hp0)
    clear hall hown0 hw0 hp0
    go_wp2_with fail
    refine K3.out.mono ?_
    rintro e w3 ⟨h3, hf1⟩
    rcases hf1 with ⟨_, v1, rfl, hown1, hv1⟩ | ⟨hn1, _⟩
    · obtain ⟨g1, c1, rfl, hg1b, hg1l, hcl1⟩ := fires_cells hown1 hv1
      have hbel3 := hbel2.trans (h3.mono hbel2.size)
      have HAL3 := Lib.hid (show AlarmsAt w3 ga n R from fun i hi => by
        obtain ⟨q1, q2, q3⟩ := HAL2.out i hi
        exact ⟨(h3.cell (p := ⟨ga, i * 3, none⟩) hga3).trans q1, (h3.cell (p := ⟨ga, i * 3 + 1, none⟩) hga3).trans q2, (h3.cell (p := ⟨ga, i * 3 + 2, none⟩) hga3).trans q3⟩)
      have K4 := Lib.hid (fires_any (HB2.out.own h3) ga n ca R HAL3.out (by omega))
      have HO1' := Lib.hid hown1
      have H3 := Lib.hid h3
      clear K3 h3 hown1 hv1 hcl1 HB2 hbel2
      go_wp2_with fail
      refine K4.out.mono ?_
      rintro e w4 ⟨h4, hf2⟩
      rcases hf2 with ⟨_, v2, rfl, hown2, hv2⟩ | ⟨hn2, _⟩
      · obtain ⟨g2, c2, rfl, hg2b, hg2l, hcl2⟩ := fires_cells hown2 hv2
        have hbel4 := hbel3.trans (h4.mono hbel3.size)
        have HO1 := Lib.hid (ownsRow_below HO1'.out h4 (Nat.le_refl _))
        have H23 := H2.out
        have HW0 := Lib.hid (show (0 < n → ∃ p, a0 = some p ∧ ∀ i, i < n → w4.cell? (p.add i) = some (.bool (fireB t now (GL L) (BL L) (R i)))) ∧ ∀ p, a0 = some p → p.block ≠ g1 ∧ p.block < w4.heap.size by
          have hs3 := H3.out.size
          have hs4 := h4.size
          refine ⟨fun q => ?_, fun p hp => ?_⟩
          · obtain ⟨p, hp, hc⟩ := HO0.out.1 q
            exact ⟨p, hp, fun i hi => by
              have l1 := block_lt (hc i hi)
              exact ((h4.cell (Nat.lt_of_lt_of_le l1 hs3)).trans (H3.out.cell l1)).trans (hc i hi)⟩
          · have := HO0.out.2 p hp
            omega)
        have HC2 := Lib.hid (And.intro hcl2 (And.intro hg2b hg2l))
        have H4 := Lib.hid h4
        have hs4 := h4.size
        have hbel2s := Nat.le_trans h1s hs2
        have hbel4s := hbel4.size
        have HQ1 := Lib.hid (show ∀ k, some g1 = some k → w.heap.size ≤ k ∧ k < w4.heap.size from fun k hk => by cases hk; omega)
        clear K4 h4 hown2 hv2 hcl2 hbel3 HO1' H23 HO0
        go_wp2_with fail
        go_loopw [14] (fun i W => ∃ (k : Nat) (xs : List Value), i = .int .i64 k ∧ k ≤ n ∧ W.ownsRow w2.heap.size 4 1 (.slice (some ⟨g1, 0, none⟩) n c1) n xs ∧ (∀ i, k ≤ i → i < n → xs[i]? = some (.bool ((fun i => fireB t now (GL L) (BL L) (R i)) i))) ∧ Over w4 (some g1) W (.slice (some ⟨g1, 0, none⟩) n c1) ∧ Below w.heap.size w W) (fun i _ => n - (intOf i).toNat)
        case atStart => exact ⟨0, _, rfl, by omega, HO1.out, fun i _ hi => bl_get _ _ _ hi, ⟨fun _ _ _ => rfl, Nat.le_refl _, Or.inl rfl⟩, hbel4⟩
        case round =>
          obtain ⟨k, xs, rfl, hk, hown, hxs, hov, hbel⟩ := hrel
          by_cases hlt : k < n
          · have i1 : (k : Int) < (n : Int) := by omega
            obtain ⟨p0, rfl, hw0⟩ := HW0.out.1 (by omega)
            have q0 := hw0 k hlt
            have hb0 := HW0.out.2 p0 rfl
            have hne0 : (p0.add k).block ≠ g1 := by rw [show (p0.add k).block = p0.block by unfold Addr.add; split <;> rfl]; exact hb0.1
            have q0' : wr.cell? (p0.add k) = some (.bool ((fun i => fireB t now (GL L) (BL L) (R i)) k)) := by
              rw [World.cell?_of_block (w := w4) (hov.keep _ (block_lt q0) (fun e => hne0 (by simpa using e)))]; exact q0
            have q1 : wr.cell? ⟨g1, k, none⟩ = some (.bool ((fun i => fireB t now (GL L) (BL L) (R i)) k)) := by
              have := hown.cells (g := g1) rfl k _ (hxs k (Nat.le_refl _) hlt)
              rwa [Addr.add_lit, Nat.zero_add] at this
            have z1 : wr.frozen? ⟨g1, k, none⟩ = false := hown.frozenAt k
            have hnn : n ≤ 9223372036854775807 := by omega
            have hgg : w.heap.size ≤ g1 := by have := hbel2s; omega
            have HST := Lib.hid (And.intro hown (And.intro hxs (And.intro hov hbel)))
            have hcase : ((fun i => fireB t now (GL L) (BL L) (R i)) k) = false ∨ ((fun i => fireB t now (GL L) (BL L) (R i)) k) = true := by cases ((fun i => fireB t now (GL L) (BL L) (R i)) k) <;> simp
            have HCS := Lib.hid hcase
            clear q0 hw0 hb0 hne0 hown hxs hov hbel hcase
            rcases HCS.out with hf | hf <;> rw [hf] at q0' q1 <;> clear hf HCS
            · go_wp2_with fail
              go_quiet (fail)
              have q1' : (wr.drewN nq).cell? ⟨g1, k, none⟩ = some (.bool false) := q1
              have z1' : (wr.drewN nq).frozen? ⟨g1, k, none⟩ = false := z1
              have HS2 := Lib.hid (show (wr.drewN nq).ownsRow w2.heap.size 4 1 (.slice (some ⟨g1, 0, none⟩) n c1) n xs ∧ (∀ i, k ≤ i → i < n → xs[i]? = some (.bool ((fun i => fireB t now (GL L) (BL L) (R i)) i))) ∧ Over w4 (some g1) (wr.drewN nq) (.slice (some ⟨g1, 0, none⟩) n c1) ∧ Below w.heap.size w (wr.drewN nq) from
                ⟨HST.out.1, HST.out.2.1, ⟨HST.out.2.2.1.keep, HST.out.2.2.1.size, HST.out.2.2.1.place⟩, below_dN HST.out.2.2.2⟩)
              clear q0' q1 z1 HST
              generalize wr.drewN nq = wx at *
              go_wp2_with ((with_reducible refine at_op (.store 4 (.tmp 92) (.tmp 91)) rfl ?_); refine wpList_store_cell rfl 4 (.tmp 92) _ rfl ⟨g1, k, none⟩ _ (.bool true) rfl rfl (by kernel_rfl) rfl rfl q1' z1' ?_)
              go_roundw
              case rel =>
                obtain ⟨o1, o2, o3, o4⟩ := HS2.out
                refine ⟨k + 1, xs.set k (.bool true), by go_num, by omega, (o1.stored k (.bool true)).1, fun i hi1 hi2 => ?_, o3.setCell rfl _, o4.setCell (p := ⟨g1, k, none⟩) (by show w.heap.size ≤ g1; omega) _⟩
                rw [List.getElem?_set_ne (by omega)]
                exact o2 i (by omega) hi2
              case measure => simp [intOf]; omega
            · go_wp2_with fail
              go_quiet (fail)
              have q1' : (wr.drewN nq).cell? ⟨g1, k, none⟩ = some (.bool true) := q1
              have z1' : (wr.drewN nq).frozen? ⟨g1, k, none⟩ = false := z1
              have HS2 := Lib.hid (show (wr.drewN nq).ownsRow w2.heap.size 4 1 (.slice (some ⟨g1, 0, none⟩) n c1) n xs ∧ (∀ i, k ≤ i → i < n → xs[i]? = some (.bool ((fun i => fireB t now (GL L) (BL L) (R i)) i))) ∧ Over w4 (some g1) (wr.drewN nq) (.slice (some ⟨g1, 0, none⟩) n c1) ∧ Below w.heap.size w (wr.drewN nq) from
                ⟨HST.out.1, HST.out.2.1, ⟨HST.out.2.2.1.keep, HST.out.2.2.1.size, HST.out.2.2.1.place⟩, below_dN HST.out.2.2.2⟩)
              clear q0' q1 z1 HST
              generalize wr.drewN nq = wx at *
              go_wp2_with ((with_reducible refine at_op (.store 4 (.tmp 92) (.tmp 91)) rfl ?_); refine wpList_store_cell rfl 4 (.tmp 92) _ rfl ⟨g1, k, none⟩ _ (.bool false) rfl rfl (by kernel_rfl) rfl rfl q1' z1' ?_)
              go_roundw
              case rel =>
                obtain ⟨o1, o2, o3, o4⟩ := HS2.out
                refine ⟨k + 1, xs.set k (.bool false), by go_num, by omega, (o1.stored k (.bool false)).1, fun i hi1 hi2 => ?_, o3.setCell rfl _, o4.setCell (p := ⟨g1, k, none⟩) (by show w.heap.size ≤ g1; omega) _⟩
                rw [List.getElem?_set_ne (by omega)]
                exact o2 i (by omega) hi2
              case measure => simp [intOf]; omega
          · have i1 : ¬ ((k : Int) < (n : Int)) := by omega
            have hkn : k = n := by omega
            have HST := Lib.hid (And.intro (show wr.ownsRow w2.heap.size 4 1 (.slice (some ⟨g1, 0, none⟩) n c1) (n + 0) xs from hown) (And.intro hov hbel))
            clear hown hxs hov hbel hkn
            obtain ⟨i0, hi, hz0, hz1, hz2⟩ := info_parts (show (Try.prog.info? 4).map (fun i => (i.zero, i.size, i.bytes)) = some (some (.bool false), 1, 1) by kernel_rfl)
            go_wp2_with fail
            go_loopw [10, 15] (fun v i W => ∃ (q : Nat) (ys : List Value), i = .int .i64 q ∧ q ≤ 20 ∧ W.ownsRow w2.heap.size 4 1 v (n + q) ys ∧ Over w4 (some g1) W v ∧ Below w.heap.size w W) (fun _ i _ => 20 - (intOf i).toNat)
            case atStart => exact ⟨0, _, rfl, by omega, HST.out.1, HST.out.2.1, HST.out.2.2⟩
            case round =>
              obtain ⟨q, ys, rfl, hq, hown, hO, hb'⟩ := hrel
              clear HST
              by_cases hl2 : q < 20
              · have j1 : (q : Int) < 20 := by omega
                have hbs := hb'.size
                have hos := hO.size
                go_wp2_with (at_builtin; refine wpList_append_place _ rfl (.tmp 97) (.tmp 98) 47 rfl w2.heap.size 4 i0 (.bool false) 1 1 Try.underlying47 hi hz0 hz1 hz2 rfl (by decide) _ _ _ rfl (hown.alloc _) ⟨wr.heap.size, 0, none⟩ 1 1 [.bool true] rfl rfl ?c1 ?c2 ?c3 ?c4 ?c5 (by decide) ?_)
                case c1 => intro m u hu; rcases m with _ | m <;> simp at hu; subst hu; exact cell_of_block (alloc_at _ _) 0
                case c2 => intro u hu; simp at hu; subst hu; rfl
                case c3 => simp only [maxLen]; omega
                case c4 => omega
                case c5 => simp; omega
                intro v' w7 hown7 hg7 hpl
                have hO7 := (hO.alloc (.cells #[.bool true] 4)).append (v' := v') hg7 (by simpa using hpl)
                have hb7 := Over.belowApp (hO.alloc (.cells #[.bool true] 4)) HQ1.out (hb'.alloc hbs _) hg7 (by have := hbel4s; omega)
                have HW7 := Lib.hid (And.intro hown7 (And.intro hO7 hb7))
                clear hown7 hg7 hpl hO7 hb7 hown hO hb'
                go_wp2_with fail
                exact ⟨⟨q + 1, _, by go_num, by omega, HW7.out.1, HW7.out.2.1, HW7.out.2.2⟩, by simp [intOf]; omega⟩
              · have j1 : ¬ ((q : Int) < 20) := by omega
                have hq20 : q = 20 := by omega
                subst hq20
                rcases hown.2 with ⟨_, h0⟩ | ⟨gv, cpv, curv, hv, _⟩
                · omega
                · subst hv
                  have TWO := Lib.hid (show ∀ i, i < n → wr.cell? ⟨g2, i, none⟩ = some (.bool ((fun i => fireB t now (GL L) (BL L) (R i)) i)) from fun i hi => by
                    have q := HC2.out.1 i hi
                    have l := HC2.out.2
                    have s3 := H3.out.size
                    rw [World.cell?_of_block (w := w4) (hO.keep g2 (block_lt q) (fun e => by have : g2 = g1 := (by simpa using e); omega))]; exact q)
                  have WANT := Lib.hid (show 0 < n → ∃ p, a0 = some p ∧ ∀ i, i < n → wr.cell? (p.add i) = some (.bool ((fun i => fireB t now (GL L) (BL L) (R i)) i)) from fun q => by
                    obtain ⟨p, hp, hc⟩ := HW0.out.1 q
                    refine ⟨p, hp, fun i hi => ?_⟩
                    have hne := (HW0.out.2 p hp).1
                    have hb : (p.add i).block = p.block := by unfold Addr.add; split <;> rfl
                    rw [World.cell?_of_block (w := w4) (hO.keep _ (block_lt (hc i hi)) (fun e => hne (by rw [← hb]; simpa using e)))]; exact hc i hi)
                  have hga4 : ga < w4.heap.size := by omega
                  have ALW := Lib.hid (show AlarmsAt wr ga n R ∧ wr.cell? ⟨ga, n * 3, none⟩ = some (.int .i64 999) by
                    have keep : wr.heap[ga]? = w1.heap[ga]? := by
                      rw [hO.keep ga hga4 (fun e => by have : ga = g1 := (by simpa using e); omega), H4.out.block ga (by omega), H3.out.block ga hga3, H2.out.block ga hga2]
                    refine ⟨fun i hi => ?_, ?_⟩
                    · obtain ⟨q1, q2, q3⟩ := HAL.out.1 i hi
                      exact ⟨(World.cell?_of_block (w := w1) (a := ⟨ga, i * 3, none⟩) keep).trans q1, (World.cell?_of_block (w := w1) (a := ⟨ga, i * 3 + 1, none⟩) keep).trans q2, (World.cell?_of_block (w := w1) (a := ⟨ga, i * 3 + 2, none⟩) keep).trans q3⟩
                    · exact (World.cell?_of_block (w := w1) (a := ⟨ga, n * 3, none⟩) keep).trans HAL.out.2)
                  have RW := Lib.hid (show RulesIn wr a2 n R from HRR.out.below hb')
                  have HBW := Lib.hid hb'
                  clear hown hO hb'
                  generalize wr = w5 at *
                  go_wp2_with fail
                  go_loopw [16] (fun i W => ∃ (k mm : Nat), i = .int .i64 k ∧ k ≤ n ∧ W = w5.drewN mm) (fun i _ => n - (intOf i).toNat)
                  case atStart => exact ⟨0, 0, rfl, by omega, rfl⟩
                  case round =>
                    obtain ⟨k, mm, rfl, hk, hwz⟩ := hrel
                    have HZ := Lib.hid hwz
                    clear hwz
                    by_cases hlt : k < n
                    · have i1 : (k : Int) < (n : Int) := by omega
                      obtain ⟨p0, rfl, hw0⟩ := WANT.out (by omega)
                      have q0 : wr.cell? (p0.add k) = some (.bool ((fun i => fireB t now (GL L) (BL L) (R i)) k)) := by rw [HZ.out]; exact hw0 k hlt
                      have q1 : wr.cell? ⟨g2, k, none⟩ = some (.bool ((fun i => fireB t now (GL L) (BL L) (R i)) k)) := by rw [HZ.out]; exact TWO.out k hlt
                      have hnn : n ≤ 9223372036854775807 := by omega
                      have hcase : ((fun i => fireB t now (GL L) (BL L) (R i)) k) = false ∨ ((fun i => fireB t now (GL L) (BL L) (R i)) k) = true := by cases ((fun i => fireB t now (GL L) (BL L) (R i)) k) <;> simp
                      have HCS := Lib.hid hcase
                      clear hw0 hcase
                      rcases HCS.out with hf | hf <;> rw [hf] at q0 q1 <;> clear hf HCS
                      · go_wp2_with fail
                        go_quiet (fail)
                        have hwq2 := Lib.hid (show wr.drewN nq = w5.drewN (mm + nq) by rw [HZ.out, World.drewN_drewN])
                        clear q1 q0 HZ
                        go_wp2_with fail
                        go_roundw
                        case rel => exact ⟨k + 1, mm + nq, by go_num, by omega, hwq2.out⟩
                        case measure => simp [intOf]; omega
                      · go_wp2_with fail
                        go_quiet (fail)
                        have hwq2 := Lib.hid (show wr.drewN nq = w5.drewN (mm + nq) by rw [HZ.out, World.drewN_drewN])
                        clear q1 q0 HZ
                        go_wp2_with fail
                        go_roundw
                        case rel => exact ⟨k + 1, mm + nq, by go_num, by omega, hwq2.out⟩
                        case measure => simp [intOf]; omega
                    · have i1 : ¬ ((k : Int) < (n : Int)) := by omega
                      have j0 : ((n : Int) + 1) ≤ (ca : Int) := by omega
                      have j00 : (0 : Int) ≤ (n : Int) + 1 := by omega
                      have hnn : n ≤ 9000000000000 := by omega
                      have hkn : k = n := by omega
                      clear hkn
                      go_wp2_with fail
                      go_loopw [18] (fun i W => ∃ (k mm : Nat), i = .int .i64 k ∧ k ≤ n ∧ W = w5.drewN mm) (fun i _ => n - (intOf i).toNat)
                      case atStart => exact ⟨0, mm, rfl, by omega, HZ.out⟩
                      case round =>
                        clear HZ
                        obtain ⟨j, m2, rfl, hj, hwz⟩ := hrel
                        have HZ := Lib.hid hwz
                        clear hwz
                        by_cases hlt2 : j < n
                        · have i2 : (j : Int) < (n : Int) := by omega
                          have i3 : (j : Int) < (n : Int) + 1 := by omega
                          have i4 : (j : Int) < ((n + 1 : Nat) : Int) := by omega
                          obtain ⟨p2, rfl, hr2⟩ := RW.out (by omega)
                          obtain ⟨e1, e2, e3⟩ := hr2 j hlt2
                          obtain ⟨f1, f2, f3⟩ := ALW.out.1 j hlt2
                          have e1' : wr.cell? (p2.add (j * 3)) = some (.int .i64 (R j).1) := by rw [HZ.out]; exact e1
                          have e2' : wr.cell? ⟨(p2.add (j * 3)).block, (p2.add (j * 3)).off + 1, none⟩ = some (.int .i64 (R j).2.1) := by rw [HZ.out]; exact e2
                          have e3' : wr.cell? ⟨(p2.add (j * 3)).block, (p2.add (j * 3)).off + 2, none⟩ = some (.int .u64 ((R j).2.2 : Nat)) := by rw [HZ.out]; exact e3
                          have f1' : wr.cell? ⟨ga, j * 3, none⟩ = some (.int .i64 (R j).1) := by rw [HZ.out]; exact f1
                          have f2' : wr.cell? ⟨ga, j * 3 + 1, none⟩ = some (.int .i64 (R j).2.1) := by rw [HZ.out]; exact f2
                          have f3' : wr.cell? ⟨ga, j * 3 + 2, none⟩ = some (.float .f64 (R j).2.2) := by rw [HZ.out]; exact f3
                          clear hr2 e1 e2 e3 f1 f2 f3
                          go_wp2_with fail
                          go_quiet ((go_at_call 96; exact quiet_eq ((same26_any (SM.refl _) _).mono (by rintro e w' ⟨rfl, rfl⟩; exact ⟨rfl, rfl⟩))))
                          have hwq2 := Lib.hid (show wr.drewN nq = w5.drewN (m2 + nq) by rw [HZ.out, World.drewN_drewN])
                          clear e1' e2' e3' f1' f2' f3' HZ
                          go_wp2_with fail
                          go_roundw
                          case rel => exact ⟨j + 1, m2 + nq, by go_num, by omega, by first | exact hwq2.out | rfl⟩
                          case measure => simp [intOf]; omega
                        · have i2 : ¬ ((j : Int) < (n : Int)) := by omega
                          have i3 : (n : Int) < (n : Int) + 1 := by omega
                          have i4 : (n : Int) < ((n + 1 : Nat) : Int) := by omega
                          have q9 : wr.cell? ⟨ga, n * 3, none⟩ = some (.int .i64 999) := by rw [HZ.out]; exact ALW.out.2
                          go_wp2
                          go_ret
                          exact ⟨rfl, by rw [HZ.out]; exact below_dN HBW.out⟩
      · exact absurd HALL.out hn2
    · exact absurd HALL.out hn1
  · have HALL := Lib.hid hall
    clear hall
    go_wp2_with fail
    refine K3.out.mono ?_
    rintro e w3 ⟨h3, hf1⟩
    rcases hf1 with ⟨hy, _⟩ | ⟨_, rfl⟩
    · exact absurd hy HALL.out
    · have hbel3 := hbel2.trans (h3.mono hbel2.size)
      have HAL3 := Lib.hid (show AlarmsAt w3 ga n R from fun i hi => by
        obtain ⟨q1, q2, q3⟩ := HAL2.out i hi
        exact ⟨(h3.cell (p := ⟨ga, i * 3, none⟩) hga3).trans q1, (h3.cell (p := ⟨ga, i * 3 + 1, none⟩) hga3).trans q2, (h3.cell (p := ⟨ga, i * 3 + 2, none⟩) hga3).trans q3⟩)
      have K4 := Lib.hid (fires_any (HB2.out.own h3) ga n ca R HAL3.out (by omega))
      have H3 := Lib.hid h3
      have hs3 := h3.size
      clear K3 h3 HB2 hbel2
      go_wp2_with fail
      refine K4.out.mono ?_
      rintro e w4 ⟨h4, hf2⟩
      rcases hf2 with ⟨hy, _⟩ | ⟨_, rfl⟩
      · exact absurd hy HALL.out
      · have hbel4 := hbel3.trans (h4.mono hbel3.size)
        have H4 := Lib.hid h4
        have hs4 := h4.size
        have hbel2s := Nat.le_trans h1s hs2
        have hbel4s := hbel4.size
        have HQ1 := Lib.hid (show ∀ k, (none : Option Nat) = some k → w.heap.size ≤ k ∧ k < w4.heap.size from fun k hk => by cases hk)
        clear K4 h4 hbel3
        go_wp2_with fail
        go_loopw [14] (fun i W => i = .int .i64 0 ∧ W = w4) (fun i _ => 0)
        case atStart => exact ⟨rfl, rfl⟩
        case round =>
          obtain ⟨rfl, hW⟩ := hrel
          have HST := Lib.hid (show wr.ownsRow w2.heap.size 4 1 (.slice none 0 0) (0 + 0) [] ∧ Over w4 none wr (.slice none 0 0) ∧ Below w.heap.size w wr by
            rw [hW]; exact ⟨⟨rfl, Or.inl ⟨rfl, rfl⟩⟩, ⟨fun _ _ _ => rfl, Nat.le_refl _, Or.inl rfl⟩, hbel4⟩)
          clear hW
          obtain ⟨i0, hi, hz0, hz1, hz2⟩ := info_parts (show (Try.prog.info? 4).map (fun i => (i.zero, i.size, i.bytes)) = some (some (.bool false), 1, 1) by kernel_rfl)
          go_wp2_with fail
          go_loopw [10, 15] (fun v i W => ∃ (q : Nat) (ys : List Value), i = .int .i64 q ∧ q ≤ 20 ∧ W.ownsRow w2.heap.size 4 1 v (0 + q) ys ∧ Over w4 none W v ∧ Below w.heap.size w W) (fun _ i _ => 20 - (intOf i).toNat)
          case atStart => exact ⟨0, _, rfl, by omega, HST.out.1, HST.out.2.1, HST.out.2.2⟩
          case round =>
            obtain ⟨q, ys, rfl, hq, hown, hO, hb'⟩ := hrel
            clear HST
            by_cases hl2 : q < 20
            · have j1 : (q : Int) < 20 := by omega
              have hbs := hb'.size
              have hos := hO.size
              go_wp2_with (at_builtin; refine wpList_append_place _ rfl (.tmp 97) (.tmp 98) 47 rfl w2.heap.size 4 i0 (.bool false) 1 1 Try.underlying47 hi hz0 hz1 hz2 rfl (by decide) _ _ _ rfl (hown.alloc _) ⟨wr.heap.size, 0, none⟩ 1 1 [.bool true] rfl rfl ?c1 ?c2 ?c3 ?c4 ?c5 (by decide) ?_)
              case c1 => intro m u hu; rcases m with _ | m <;> simp at hu; subst hu; exact cell_of_block (alloc_at _ _) 0
              case c2 => intro u hu; simp at hu; subst hu; rfl
              case c3 => simp only [maxLen]; omega
              case c4 => omega
              case c5 => simp; omega
              intro v' w7 hown7 hg7 hpl
              have hO7 := (hO.alloc (.cells #[.bool true] 4)).append (v' := v') hg7 (by simpa using hpl)
              have hb7 := Over.belowApp (hO.alloc (.cells #[.bool true] 4)) HQ1.out (hb'.alloc hbs _) hg7 (by have := hbel4s; omega)
              have HW7 := Lib.hid (And.intro hown7 (And.intro hO7 hb7))
              clear hown7 hg7 hpl hO7 hb7 hown hO hb'
              go_wp2_with fail
              exact ⟨⟨q + 1, _, by go_num, by omega, (by rw [show 0 + (q + 1) = q + 1 by omega]; exact HW7.out.1), HW7.out.2.1, HW7.out.2.2⟩, by simp [intOf]; omega⟩
            · have j1 : ¬ ((q : Int) < 20) := by omega
              have hq20 : q = 20 := by omega
              subst hq20
              rcases hown.2 with ⟨_, h0⟩ | ⟨gv, cpv, curv, hv, _⟩
              · omega
              · subst hv
                have hga4 : ga < w4.heap.size := by omega
                have ALW := Lib.hid (show AlarmsAt wr ga n R ∧ wr.cell? ⟨ga, n * 3, none⟩ = some (.int .i64 999) by
                  have keep : wr.heap[ga]? = w1.heap[ga]? := by
                    rw [hO.keep ga hga4 (fun e => by cases e), H4.out.block ga (by omega), H3.out.block ga hga3, H2.out.block ga hga2]
                  refine ⟨fun i hi => ?_, ?_⟩
                  · obtain ⟨q1, q2, q3⟩ := HAL.out.1 i hi
                    exact ⟨(World.cell?_of_block (w := w1) (a := ⟨ga, i * 3, none⟩) keep).trans q1, (World.cell?_of_block (w := w1) (a := ⟨ga, i * 3 + 1, none⟩) keep).trans q2, (World.cell?_of_block (w := w1) (a := ⟨ga, i * 3 + 2, none⟩) keep).trans q3⟩
                  · exact (World.cell?_of_block (w := w1) (a := ⟨ga, n * 3, none⟩) keep).trans HAL.out.2)
                have RW := Lib.hid (show RulesIn wr a2 n R from HRR.out.below hb')
                have HBW := Lib.hid hb'
                clear hown hO hb'
                generalize wr = w5 at *
                go_wp2_with fail
                go_loopw [16] (fun i W => i = .int .i64 0 ∧ ∃ mm : Nat, W = w5.drewN mm) (fun i _ => 0)
                case atStart => exact ⟨rfl, 0, rfl⟩
                case round =>
                  obtain ⟨rfl, mm, hwz⟩ := hrel
                  have HZ := Lib.hid hwz
                  clear hwz
                  have j0 : ((n : Int) + 1) ≤ (ca : Int) := by omega
                  have j00 : (0 : Int) ≤ (n : Int) + 1 := by omega
                  have hnn : n ≤ 9000000000000 := by omega
                  go_wp2_with fail
                  go_loopw [18] (fun i W => ∃ (k mm : Nat), i = .int .i64 k ∧ k ≤ n ∧ W = w5.drewN mm) (fun i _ => n - (intOf i).toNat)
                  case atStart => exact ⟨0, mm, rfl, by omega, HZ.out⟩
                  case round =>
                    clear HZ
                    obtain ⟨j, m2, rfl, hj, hwz⟩ := hrel
                    have HZ := Lib.hid hwz
                    clear hwz
                    by_cases hlt2 : j < n
                    · have i2 : (j : Int) < (n : Int) := by omega
                      have i3 : (j : Int) < (n : Int) + 1 := by omega
                      have i4 : (j : Int) < ((n + 1 : Nat) : Int) := by omega
                      obtain ⟨p2, rfl, hr2⟩ := RW.out (by omega)
                      obtain ⟨e1, e2, e3⟩ := hr2 j hlt2
                      obtain ⟨f1, f2, f3⟩ := ALW.out.1 j hlt2
                      have e1' : wr.cell? (p2.add (j * 3)) = some (.int .i64 (R j).1) := by rw [HZ.out]; exact e1
                      have e2' : wr.cell? ⟨(p2.add (j * 3)).block, (p2.add (j * 3)).off + 1, none⟩ = some (.int .i64 (R j).2.1) := by rw [HZ.out]; exact e2
                      have e3' : wr.cell? ⟨(p2.add (j * 3)).block, (p2.add (j * 3)).off + 2, none⟩ = some (.int .u64 ((R j).2.2 : Nat)) := by rw [HZ.out]; exact e3
                      have f1' : wr.cell? ⟨ga, j * 3, none⟩ = some (.int .i64 (R j).1) := by rw [HZ.out]; exact f1
                      have f2' : wr.cell? ⟨ga, j * 3 + 1, none⟩ = some (.int .i64 (R j).2.1) := by rw [HZ.out]; exact f2
                      have f3' : wr.cell? ⟨ga, j * 3 + 2, none⟩ = some (.float .f64 (R j).2.2) := by rw [HZ.out]; exact f3
                      clear hr2 e1 e2 e3 f1 f2 f3
                      go_wp2_with fail
                      go_quiet ((go_at_call 96; exact quiet_eq ((same26_any (SM.refl _) _).mono (by rintro e w' ⟨rfl, rfl⟩; exact ⟨rfl, rfl⟩))))
                      have hwq2 := Lib.hid (show wr.drewN nq = w5.drewN (m2 + nq) by rw [HZ.out, World.drewN_drewN])
                      clear e1' e2' e3' f1' f2' f3' HZ
                      go_wp2_with fail
                      go_roundw
                      case rel => exact ⟨j + 1, m2 + nq, by go_num, by omega, by first | exact hwq2.out | rfl⟩
                      case measure => simp [intOf]; omega
                    · have i2 : ¬ ((j : Int) < (n : Int)) := by omega
                      have i3 : (n : Int) < (n : Int) + 1 := by omega
                      have i4 : (n : Int) < ((n + 1 : Nat) : Int) := by omega
                      have q9 : wr.cell? ⟨ga, n * 3, none⟩ = some (.int .i64 999) := by rw [HZ.out]; exact ALW.out.2
                      go_wp2
                      go_ret
                      exact ⟨rfl, by rw [HZ.out]; exact below_dN HBW.out⟩
end Go.Proofs.Ytmdfkljmgijdlaa
