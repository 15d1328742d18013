/- The walk of BudgetShares: at most 300 notes. -/
import Derived.Test.YtmdfkljmgijdlaaRe
namespace Go.Proofs.Ytmdfkljmgijdlaa
open Go.RowKit
set_option linter.unusedVariables false

set_option maxRecDepth 100000 in
set_option maxHeartbeats 8000000 in
theorem shares_walkA (t : Nat) (sl0 more : Int) (a : Option Addr) (n cp : Nat) (a2 : Option Addr) (n2 cp2 : Nat) (w : World) (V : Nat → Int × Int × Int) (R : Nat → Int × Int × Nat) (ht : t < 18446744073709551616) (HD : CountsIn w a n V) (HR : RulesIn w a2 n2 R) (hn : n ≤ maxLen) (h300 : n ≤ 300) (hby : n2 * 24 ≤ 140737488351232) :
    Calls Try.prog 4 #[.int .u64 t, .int .i64 sl0, .slice a n cp, .int .i64 more, .slice a2 n2 cp2] w fun e w' => e = .returned (.bool true) ∧ Below w.heap.size w w' := by
  have h19 := frombits_run
  have HR := Lib.hid HR
  obtain ⟨r, hr⟩ : ∃ r, r = sl0.tmod 1024 := ⟨_, rfl⟩
  have hr1 : -1024 < r ∧ r < 1024 := by
    have h1 := Int.lt_tmod_of_pos sl0 (show (0 : Int) < 1024 by omega)
    have h2 := Int.tmod_lt_of_pos sl0 (show (0 : Int) < 1024 by omega)
    omega
  obtain ⟨s, hs⟩ : ∃ s : Nat, (s : Int) = 1 + r % 1024 := ⟨(1 + r % 1024).toNat, by omega⟩
  have hs1 : 1 ≤ s := by omega
  have hs2 : s ≤ 1024 := by omega
  obtain ⟨q, hq⟩ : ∃ q, q = more.tmod 1000 := ⟨_, rfl⟩
  have hq1 : -1000 < q ∧ q < 1000 := by
    have h1 := Int.lt_tmod_of_pos more (show (0 : Int) < 1000 by omega)
    have h2 := Int.tmod_lt_of_pos more (show (0 : Int) < 1000 by omega)
    omega
  obtain ⟨v, hv⟩ : ∃ v : Nat, (v : Int) = q % 1000 := ⟨(q % 1000).toNat, by omega⟩
  have hv1 : v ≤ 999 := by omega
  have hr2 := hr.symm
  have hs3 := hs.symm
  have hq3 := hq.symm
  have hv3 := hv.symm
  clear hr hs hq hv
  go_enter Try.func4, Try.ntmps4
  go_wp2_with fail
  refine (awake26_any _).mono ?_
  rintro e w1 ⟨rfl, hbel1⟩
  go_wp2_with fail
  by_cases hT : (FloatKind.f64.format.order t 0 == some .gt) = true ∧ (FloatKind.f64.format.order t 4607182418800017408 == some .lt) = true
  · refine (new_budget t s hs1 hs2 hT.1 hT.2 _).mono ?_
    rintro e w2 ⟨b, g, rfl, hB, hb', hg', hbel2'⟩
    obtain ⟨t0, t1⟩ := target_facts ht hT.1 hT.2
    have hbel2 := hbel1.trans (hbel2'.mono hbel1.size)
    have hb1 : w.heap.size ≤ b := Nat.le_trans hbel1.size hb'
    have hg1 : w.heap.size ≤ g := Nat.le_trans hbel1.size hg'
    have HFW : Few 0 w2 b g t s := ⟨_, _, _, _, hB, Bd.none 0, Bd.none 0⟩
    have hF0 := Lib.hid HFW
    clear hbel1 hbel2' hb' hg' hB hT HFW
    go_wp2_with fail
    go_loopw [13] (fun i W => ∃ k : Nat, i = .int .i64 k ∧ k ≤ n ∧ k ≤ 300 ∧ Few k W b g t s ∧ Below w.heap.size w W) (fun i _ => n - (intOf i).toNat)
    case atStart => exact ⟨0, rfl, by omega, by omega, hF0.out, hbel2⟩
    case round =>
      clear hF0 hbel2
      obtain ⟨k, rfl, hk, hk3, hF, hbel⟩ := hrel
      by_cases hlt : k < n ∧ k < 300
      · obtain ⟨hlt, hlt3⟩ := hlt
        have i1 : (k : Int) < (n : Int) := by omega
        have i2 : (k : Int) < 300 := by omega
        obtain ⟨p, rfl, hD⟩ := HD (by omega)
        obtain ⟨e1, e2, e3⟩ := hD k hlt
        have f1 := hbel.cell (block_lt e1) ▸ e1
        have f2 := hbel.cell (block_lt e2) ▸ e2
        have f3 := hbel.cell (block_lt e3) ▸ e3
        have hnn : n ≤ 9223372036854775807 := hn
        have b1 := Int.lt_tmod_of_pos (V k).2.1 (show (0 : Int) < 1000 by omega)
        have b2 := Int.tmod_lt_of_pos (V k).2.1 (show (0 : Int) < 1000 by omega)
        have b3 := Int.lt_tmod_of_pos (V k).2.2 (show (0 : Int) < 1000 by omega)
        have b4 := Int.tmod_lt_of_pos (V k).2.2 (show (0 : Int) < 1000 by omega)
        have NC := Lib.hid (show Few k wr.drew b g t s by
          obtain ⟨now, m, fg, fb, h1, h2⟩ := hF
          exact ⟨now, m, fg, fb, h1.drewN 1, h2⟩)
        clear e1 e2 e3 hD HD hn hF
        go_wp2_with fail
        go_still_tail 18, (by kernel_rfl)
        change wpList _ _ _ _ _ wr.drew
        have hbel1 := hbel.drew
        clear f1 f2 f3 hbel
        generalize wr.drew = wx at *
        go_wp2_with fail
        refine (few_note NC.out _ _ _ b2 b4).mono ?_
        rintro e w3 ⟨c, rfl, hF3, hfr3⟩
        have hbel3 := hfr3.below hbel1 hbel1.size hb1 hg1
        have HF3 := Lib.hid hF3
        clear NC hbel1 hfr3 hF3
        go_wp2_with fail
        go_roundw
        case rel => exact ⟨k + 1, by go_num, by omega, by omega, HF3.out, hbel3⟩
        case measure => simp [intOf]; omega
      · have hnot := hlt
        clear hlt
        have i1 : ¬ ((k : Int) < (n : Int)) := by omega
        obtain ⟨now, m, fg, fb, hB, hg, hb⟩ := hF
        have hg := hg.mono hk3
        have hb := hb.mono hk3
        have HB := Lib.hid hB
        have hszL := hB.lt
        clear hB
        go_wp2_with fail
        generalize wr = wL at *
        go_loopw [14] (fun i W => ∃ j : Nat, i = .int .i64 j ∧ 1 ≤ j ∧ j ≤ 21 ∧ j ≤ s + 1 ∧ BG W b g t s now m fg fb ∧ Below w.heap.size w W) (fun i _ => 21 - (intOf i).toNat)
        case atStart => exact ⟨1, rfl, by omega, by omega, by omega, HB.out, hbel⟩
        case round =>
          clear hbel HB
          obtain ⟨j, rfl, hj1, hj2, hj3, hB, hbel⟩ := hrel
          by_cases hjs : j ≤ s
          · have j1 : (j : Int) ≤ (s : Int) := by omega
            by_cases hj20 : j ≤ 20
            · have j2 : (j : Int) ≤ 20 := by omega
              obtain ⟨G, eG, _, lG⟩ := hg.nat (by omega) now j
              obtain ⟨B, eB, _, lB⟩ := hb.nat (by omega) now j
              have K1 := rate_any hB j hj1 hjs
              rw [eG, eB] at K1
              have K1 := Lib.hid K1
              have HB := Lib.hid hB
              have EGB := Lib.hid (And.intro eG eB)
              clear hB eG eB
              go_wp2_with fail
              refine K1.out.mono ?_
              rintro e w3 ⟨z, hz, rfl, h3⟩
              have RT := rate_test (by omega) hz
              have hB3 := HB.out.own h3
              have K2 := burn_any hB3 j hj1 hjs
              rw [EGB.out.1, EGB.out.2] at K2
              have K2 := Lib.hid K2
              have hbel3 := hbel.trans (h3.mono hbel.size)
              have HB3 := Lib.hid hB3
              have RTH := Lib.hid RT
              clear K1 hz h3 hB3 HB hbel RT
              go_wp2_with fail
              refine K2.out.mono ?_
              rintro e w4 ⟨u, hu, rfl, h4⟩
              have BT := burn_test (by omega) t0 t1 hu
              have hB4 := HB3.out.own h4
              have hbel4 := hbel3.trans (h4.mono hbel3.size)
              have HB4 := Lib.hid hB4
              have RT := RTH.out
              clear K2 hu h4 hB4 HB3 hbel3 RTH EGB
              rcases RT with a1 | ⟨a1, a2', a3⟩
              · rcases BT with c1 | ⟨c1, c2⟩
                · go_wp2_with fail
                  go_roundw
                  case rel => exact ⟨j + 1, by go_num, by omega, by omega, by omega, HB4.out, hbel4⟩
                  case measure => simp [intOf]; omega
                · go_wp2_with fail
                  go_roundw
                  case rel => exact ⟨j + 1, by go_num, by omega, by omega, by omega, HB4.out, hbel4⟩
                  case measure => simp [intOf]; omega
              · rcases BT with c1 | ⟨c1, c2⟩
                · go_wp2_with fail
                  go_roundw
                  case rel => exact ⟨j + 1, by go_num, by omega, by omega, by omega, HB4.out, hbel4⟩
                  case measure => simp [intOf]; omega
                · go_wp2_with fail
                  go_roundw
                  case rel => exact ⟨j + 1, by go_num, by omega, by omega, by omega, HB4.out, hbel4⟩
                  case measure => simp [intOf]; omega
            · have j2 : ¬ ((j : Int) ≤ 20) := by omega
              have eS := Lib.hid (And.intro (hg.nat (by omega) now s) (hb.nat (by omega) now s))
              have e1 := Lib.hid (And.intro (hg.nat (by omega) now 1) (hb.nat (by omega) now 1))
              have HG := Lib.hid hg
              have HBd := Lib.hid hb
              have hnow := hB.range
              have HB := Lib.hid hB
              have K3 := Lib.hid (left_any hB)
              have HNM := Lib.hid (show mayB now 0 (v : Int) by unfold mayB; omega)
              clear hg hb hB
              go_wp2_with fail
              refine K3.out.mono ?_
              rintro e w3 ⟨z, hz, rfl, h3⟩
              have lt1 : (FloatKind.f64.format.order z 4607182418800017408 == some .gt) = false := by
                obtain ⟨⟨G, q1, _, l1⟩, ⟨B, q2, _, l2⟩⟩ := eS.out
                rw [q1, q2] at hz
                exact left_test (by omega) t0 t1 hz
              have hB3 := HB.out.own h3
              have hbel3 := hbel.trans (h3.mono hbel.size)
              have K4 := Lib.hid (burn_any hB3 1 (by omega) hs1)
              have HB3 := Lib.hid hB3
              clear K3 hz h3 hB3 hbel
              go_wp2_with fail
              refine K4.out.mono ?_
              rintro e w4 ⟨u, hu, rfl, h4⟩
              have HU := Lib.hid hu
              have hB4 := HB3.out.own h4
              have hbel4 := hbel3.trans (h4.mono hbel3.size)
              have K5 := Lib.hid (alarms_any a2 n2 cp2 w4 R (HR.out.below hbel4) hby)
              have HB4 := Lib.hid hB4
              clear K4 hu h4 hB4 hbel3 HB3
              go_wp2_with fail
              refine K5.out.mono ?_
              rintro e w5 ⟨ga, ca, rfl, _, _, _, hAl, _, h5⟩
              have hB5 := HB4.out.own h5
              have hbel5 := hbel4.trans (h5.mono hbel4.size)
              have K6 := Lib.hid (fires_any hB5 ga n2 ca R hAl (by omega))
              have HB5 := Lib.hid hB5
              clear K5 h5 hB5 hbel4 HB4 hAl
              go_wp2_with fail
              refine K6.out.mono ?_
              rintro e w6 ⟨h6, hf1⟩
              have hB6 := HB5.out.own h6
              have hbel6 := hbel5.trans (h6.mono hbel5.size)
              have hlb := hB6.lt
              rcases hf1 with ⟨hall, v1, rfl, hown1, hv1⟩ | ⟨hall, rfl⟩
              · obtain ⟨g1, c1, rfl, hg1b, hg1l, hcells1⟩ := fires_cells hown1 hv1
                have hne1 : g1 ≠ b ∧ g1 ≠ g := by have := HB5.out.lt; omega
                have HALL := Lib.hid hall
                have HC1 := Lib.hid hcells1
                have K7 := Lib.hid (now_any hB6)
                have HB6 := Lib.hid hB6
                clear K6 h6 hB6 hbel5 HB5 hall hown1 hv1 hcells1
                go_wp2_with fail
                refine K7.out.mono ?_
                rintro e w7 ⟨rfl, nn, rfl⟩
                have hB7 := HB6.out.drewN nn
                have hbel7 := below_dN (n := nn) hbel6
                have HC2 := Lib.hid (show ∀ i, i < n2 → (w6.drewN nn).cell? ⟨g1, i, none⟩ = some (.bool (fireB t now fg fb (R i))) from HC1.out)
                have hg1l' : g1 < (w6.drewN nn).heap.size := hg1l
                have K8 := Lib.hid (note_ok hB7 now 0 (v : Int) HNM.out (Or.inr (by omega)))
                clear K7 HB6 hbel6 HC1 hg1l hB7
                generalize w6.drewN nn = w7 at *
                go_wp2_with fail
                refine K8.out.mono ?_
                rintro e w8 ⟨rfl, hB8, hf8⟩
                have hbel8 := hf8.below hbel7 hbel7.size hb1 hg1
                have HC3 := Lib.hid (show ∀ i, i < n2 → w8.cell? ⟨g1, i, none⟩ = some (.bool (fireB t now fg fb (R i))) from fun i hi => by
                  rw [World.cell?_of_block (w := w7) (hf8.block g1 hg1l' hne1.1 hne1.2)]; exact HC2.out i hi)
                have hg1l8 : g1 < w8.heap.size := Nat.lt_of_lt_of_le hg1l' hf8.size
                have K9 := Lib.hid (burn_any hB8 1 (by omega) hs1)
                have HB8 := Lib.hid hB8
                clear K8 hB8 hf8 hbel7 HC2 hg1l'
                go_wp2_with fail
                refine K9.out.mono ?_
                rintro e w9 ⟨u2, hu2, rfl, h9⟩
                have GT : (FloatKind.f64.format.order u u == some .eq) = false ∨ ((FloatKind.f64.format.order u u == some .eq) = true ∧ (FloatKind.f64.format.order u2 u == some .gt || FloatKind.f64.format.order u2 u == some .eq) = true) := by
                  obtain ⟨⟨G, q1, _, l1⟩, ⟨B, q2, _, l2⟩⟩ := e1.out
                  have hu := HU.out
                  rw [sum_more HG.out (by omega) now 0 1 (by omega) (by omega) (by omega), sum_more HBd.out (by omega) now (v : Int) 1 (by omega) (by omega) (by omega), q1, q2, Int.add_zero] at hu2
                  rw [q1, q2] at hu
                  exact grow_test (t := t) (g := G) (b := B) (m := v) (by omega) t0 t1 hu hu2
                have GTH := Lib.hid GT
                have hB9 := HB8.out.own h9
                have hbel9 := hbel8.trans (h9.mono hbel8.size)
                have HC4 := Lib.hid (show ∀ i, i < n2 → w9.cell? ⟨g1, i, none⟩ = some (.bool (fireB t now fg fb (R i))) from fun i hi => (h9.cell hg1l8).trans (HC3.out i hi))
                have hg1l9 : g1 < w9.heap.size := Nat.lt_of_lt_of_le hg1l8 h9.size
                have K10 := Lib.hid (alarms_any a2 n2 cp2 w9 R (HR.out.below hbel9) hby)
                have HB9 := Lib.hid hB9
                clear K9 HU hu2 GT h9 hB9 hbel8 HB8 HC3 hg1l8
                go_wp2_with fail
                refine K10.out.mono ?_
                rintro e w10 ⟨ga2, ca2, rfl, _, _, _, hAl, _, h10⟩
                have hB10 := HB9.out.own h10
                have hbel10 := hbel9.trans (h10.mono hbel9.size)
                have HC5 := Lib.hid (show ∀ i, i < n2 → w10.cell? ⟨g1, i, none⟩ = some (.bool (fireB t now fg fb (R i))) from fun i hi => (h10.cell hg1l9).trans (HC4.out i hi))
                have hg1l10 : g1 < w10.heap.size := Nat.lt_of_lt_of_le hg1l9 h10.size
                have K11 := Lib.hid (fires_any hB10 ga2 n2 ca2 R hAl (by omega))
                have HB10 := Lib.hid hB10
                clear K10 h10 hB10 hbel9 HB9 hAl HC4 hg1l9
                go_wp2_with fail
                refine K11.out.mono ?_
                rintro e w11 ⟨h11, hf2⟩
                have hB11 := HB10.out.own h11
                have hbel11 := hbel10.trans (h11.mono hbel10.size)
                rcases hf2 with ⟨_, v2, rfl, hown2, hv2⟩ | ⟨hn2', _⟩
                · obtain ⟨g2, c2, rfl, hg2b, hg2l, hcells2⟩ := fires_cells hown2 hv2
                  have HC6 := Lib.hid (show ∀ i, i < n2 → w11.cell? ⟨g1, i, none⟩ = some (.bool (fireB t now fg fb (R i))) from fun i hi => (h11.cell hg1l10).trans (HC5.out i hi))
                  have HC7 := Lib.hid hcells2
                  have LF := Lib.hid (left_any hB11)
                  clear K11 h11 hbel10 HB10 HC5 hg1l10 hown2 hv2 hcells2 hB11 hg2l hg2b hg1b hne1 hlb
                  have GT := GTH.out
                  clear GTH
                  rcases GT with ga1 | ⟨ga1, ga2'⟩
                  · go_wp2_with fail
                    go_loopw [30] (fun i W => ∃ j : Nat, i = .int .i64 j ∧ j ≤ n2 ∧ W = w11) (fun i _ => n2 - (intOf i).toNat)
                    case atStart => exact ⟨0, rfl, by omega, rfl⟩
                    case round =>
                      obtain ⟨j, rfl, hj, rfl⟩ := hrel
                      by_cases hjl : j < n2
                      · have j1 : (j : Int) < (n2 : Int) := by omega
                        have q1 := HC6.out j hjl
                        have q2 := HC7.out j hjl
                        have hnn2 : n2 ≤ 9223372036854775807 := by omega
                        have imp := fire_more (now := now) (r := R j) HG.out HBd.out (by omega) t0 t1 (show (0 : Int) ≤ (v : Int) by omega) (by omega) (HALL.out j hjl)
                        cases f1 : fireB t now fg fb (R j)
                        · rw [f1] at q1
                          clear imp f1
                          go_wp2_with fail
                          go_roundw
                          case rel => exact ⟨j + 1, by go_num, by omega, by first | rfl | trivial⟩
                          case measure => simp [intOf]; omega
                        · rw [f1] at q1
                          rw [imp f1] at q2
                          clear imp f1
                          go_wp2_with fail
                          go_roundw
                          case rel => exact ⟨j + 1, by go_num, by omega, by first | rfl | trivial⟩
                          case measure => simp [intOf]; omega
                      · have j1 : ¬ ((j : Int) < (n2 : Int)) := by omega
                        have LFT := LF
                        clear HC6 HC7
                        go_wp2_with fail
                        refine LFT.out.mono ?_
                        rintro e w13 ⟨z2, hz2, rfl, h13⟩
                        have lt2 : (FloatKind.f64.format.order z2 4607182418800017408 == some .gt) = false := by
                          obtain ⟨⟨G, q1, _, l1⟩, ⟨B, q2, _, l2⟩⟩ := eS.out
                          rw [sum_more HG.out (by omega) now 0 s hs1 (by omega) (by omega), sum_more HBd.out (by omega) now (v : Int) s hs1 (by omega) (by omega), q1, q2, Int.add_zero] at hz2
                          exact left_test (t := t) (g := G) (b := B + v) (by omega) t0 t1 hz2
                        have hbel13 := hbel11.trans (h13.mono hbel11.size)
                        clear hz2 h13
                        go_wp2
                        go_ret
                        exact ⟨rfl, hbel13⟩
                  · go_wp2_with fail
                    go_loopw [30] (fun i W => ∃ j : Nat, i = .int .i64 j ∧ j ≤ n2 ∧ W = w11) (fun i _ => n2 - (intOf i).toNat)
                    case atStart => exact ⟨0, rfl, by omega, rfl⟩
                    case round =>
                      obtain ⟨j, rfl, hj, rfl⟩ := hrel
                      by_cases hjl : j < n2
                      · have j1 : (j : Int) < (n2 : Int) := by omega
                        have q1 := HC6.out j hjl
                        have q2 := HC7.out j hjl
                        have hnn2 : n2 ≤ 9223372036854775807 := by omega
                        have imp := fire_more (now := now) (r := R j) HG.out HBd.out (by omega) t0 t1 (show (0 : Int) ≤ (v : Int) by omega) (by omega) (HALL.out j hjl)
                        cases f1 : fireB t now fg fb (R j)
                        · rw [f1] at q1
                          clear imp f1
                          go_wp2_with fail
                          go_roundw
                          case rel => exact ⟨j + 1, by go_num, by omega, by first | rfl | trivial⟩
                          case measure => simp [intOf]; omega
                        · rw [f1] at q1
                          rw [imp f1] at q2
                          clear imp f1
                          go_wp2_with fail
                          go_roundw
                          case rel => exact ⟨j + 1, by go_num, by omega, by first | rfl | trivial⟩
                          case measure => simp [intOf]; omega
                      · have j1 : ¬ ((j : Int) < (n2 : Int)) := by omega
                        have LFT := LF
                        clear HC6 HC7
                        go_wp2_with fail
                        refine LFT.out.mono ?_
                        rintro e w13 ⟨z2, hz2, rfl, h13⟩
                        have lt2 : (FloatKind.f64.format.order z2 4607182418800017408 == some .gt) = false := by
                          obtain ⟨⟨G, q1, _, l1⟩, ⟨B, q2, _, l2⟩⟩ := eS.out
                          rw [sum_more HG.out (by omega) now 0 s hs1 (by omega) (by omega), sum_more HBd.out (by omega) now (v : Int) s hs1 (by omega) (by omega), q1, q2, Int.add_zero] at hz2
                          exact left_test (t := t) (g := G) (b := B + v) (by omega) t0 t1 hz2
                        have hbel13 := hbel11.trans (h13.mono hbel11.size)
                        clear hz2 h13
                        go_wp2
                        go_ret
                        exact ⟨rfl, hbel13⟩
                · exact absurd HALL.out hn2'
              · have HALL := Lib.hid hall
                have K7 := Lib.hid (now_any hB6)
                have HB6 := Lib.hid hB6
                clear K6 h6 hB6 hbel5 HB5 hall
                go_wp2_with fail
                refine K7.out.mono ?_
                rintro e w7 ⟨rfl, nn, rfl⟩
                have hB7 := HB6.out.drewN nn
                have hbel7 := below_dN (n := nn) hbel6
                have K8 := Lib.hid (note_ok hB7 now 0 (v : Int) HNM.out (Or.inr (by omega)))
                clear K7 HB6 hbel6 hB7
                generalize w6.drewN nn = w7 at *
                go_wp2_with fail
                refine K8.out.mono ?_
                rintro e w8 ⟨rfl, hB8, hf8⟩
                have hbel8 := hf8.below hbel7 hbel7.size hb1 hg1
                have K9 := Lib.hid (burn_any hB8 1 (by omega) hs1)
                have HB8 := Lib.hid hB8
                clear K8 hB8 hf8 hbel7
                go_wp2_with fail
                refine K9.out.mono ?_
                rintro e w9 ⟨u2, hu2, rfl, h9⟩
                have GT : (FloatKind.f64.format.order u u == some .eq) = false ∨ ((FloatKind.f64.format.order u u == some .eq) = true ∧ (FloatKind.f64.format.order u2 u == some .gt || FloatKind.f64.format.order u2 u == some .eq) = true) := by
                  obtain ⟨⟨G, q1, _, l1⟩, ⟨B, q2, _, l2⟩⟩ := e1.out
                  have hu := HU.out
                  rw [sum_more HG.out (by omega) now 0 1 (by omega) (by omega) (by omega), sum_more HBd.out (by omega) now (v : Int) 1 (by omega) (by omega) (by omega), q1, q2, Int.add_zero] at hu2
                  rw [q1, q2] at hu
                  exact grow_test (t := t) (g := G) (b := B) (m := v) (by omega) t0 t1 hu hu2
                have GTH := Lib.hid GT
                have hB9 := HB8.out.own h9
                have hbel9 := hbel8.trans (h9.mono hbel8.size)
                have K10 := Lib.hid (alarms_any a2 n2 cp2 w9 R (HR.out.below hbel9) hby)
                have HB9 := Lib.hid hB9
                clear K9 HU hu2 GT h9 hB9 hbel8 HB8
                go_wp2_with fail
                refine K10.out.mono ?_
                rintro e w10 ⟨ga2, ca2, rfl, _, _, _, hAl, _, h10⟩
                have hB10 := HB9.out.own h10
                have hbel10 := hbel9.trans (h10.mono hbel9.size)
                have K11 := Lib.hid (fires_any hB10 ga2 n2 ca2 R hAl (by omega))
                have HB10 := Lib.hid hB10
                clear K10 h10 hB10 hbel9 HB9 hAl
                go_wp2_with fail
                refine K11.out.mono ?_
                rintro e w11 ⟨h11, hf2⟩
                have hB11 := HB10.out.own h11
                have hbel11 := hbel10.trans (h11.mono hbel10.size)
                rcases hf2 with ⟨hy2, _⟩ | ⟨_, rfl⟩
                · exact absurd hy2 HALL.out
                · have LF := Lib.hid (left_any hB11)
                  clear K11 h11 hbel10 HB10 hB11 hlb
                  have GT := GTH.out
                  clear GTH
                  rcases GT with ga1 | ⟨ga1, ga2'⟩
                  · go_wp2_with fail
                    go_loopw [30] (fun i W => i = .int .i64 0 ∧ W = w11) (fun i _ => 0)
                    case atStart => exact ⟨rfl, rfl⟩
                    case round =>
                      obtain ⟨rfl, rfl⟩ := hrel
                      have LFT := LF
                      go_wp2_with fail
                      refine LFT.out.mono ?_
                      rintro e w13 ⟨z2, hz2, rfl, h13⟩
                      have lt2 : (FloatKind.f64.format.order z2 4607182418800017408 == some .gt) = false := by
                        obtain ⟨⟨G, q1, _, l1⟩, ⟨B, q2, _, l2⟩⟩ := eS.out
                        rw [sum_more HG.out (by omega) now 0 s hs1 (by omega) (by omega), sum_more HBd.out (by omega) now (v : Int) s hs1 (by omega) (by omega), q1, q2, Int.add_zero] at hz2
                        exact left_test (t := t) (g := G) (b := B + v) (by omega) t0 t1 hz2
                      have hbel13 := hbel11.trans (h13.mono hbel11.size)
                      clear hz2 h13
                      go_wp2
                      go_ret
                      exact ⟨rfl, hbel13⟩
                  · go_wp2_with fail
                    go_loopw [30] (fun i W => i = .int .i64 0 ∧ W = w11) (fun i _ => 0)
                    case atStart => exact ⟨rfl, rfl⟩
                    case round =>
                      obtain ⟨rfl, rfl⟩ := hrel
                      have LFT := LF
                      go_wp2_with fail
                      refine LFT.out.mono ?_
                      rintro e w13 ⟨z2, hz2, rfl, h13⟩
                      have lt2 : (FloatKind.f64.format.order z2 4607182418800017408 == some .gt) = false := by
                        obtain ⟨⟨G, q1, _, l1⟩, ⟨B, q2, _, l2⟩⟩ := eS.out
                        rw [sum_more HG.out (by omega) now 0 s hs1 (by omega) (by omega), sum_more HBd.out (by omega) now (v : Int) s hs1 (by omega) (by omega), q1, q2, Int.add_zero] at hz2
                        exact left_test (t := t) (g := G) (b := B + v) (by omega) t0 t1 hz2
                      have hbel13 := hbel11.trans (h13.mono hbel11.size)
                      clear hz2 h13
                      go_wp2
                      go_ret
                      exact ⟨rfl, hbel13⟩
          · have j1 : ¬ ((j : Int) ≤ (s : Int)) := by omega
            have eS := Lib.hid (And.intro (hg.nat (by omega) now s) (hb.nat (by omega) now s))
            have e1 := Lib.hid (And.intro (hg.nat (by omega) now 1) (hb.nat (by omega) now 1))
            have HG := Lib.hid hg
            have HBd := Lib.hid hb
            have hnow := hB.range
            have HB := Lib.hid hB
            have K3 := Lib.hid (left_any hB)
            have HNM := Lib.hid (show mayB now 0 (v : Int) by unfold mayB; omega)
            clear hg hb hB
            go_wp2_with fail
            refine K3.out.mono ?_
            rintro e w3 ⟨z, hz, rfl, h3⟩
            have lt1 : (FloatKind.f64.format.order z 4607182418800017408 == some .gt) = false := by
              obtain ⟨⟨G, q1, _, l1⟩, ⟨B, q2, _, l2⟩⟩ := eS.out
              rw [q1, q2] at hz
              exact left_test (by omega) t0 t1 hz
            have hB3 := HB.out.own h3
            have hbel3 := hbel.trans (h3.mono hbel.size)
            have K4 := Lib.hid (burn_any hB3 1 (by omega) hs1)
            have HB3 := Lib.hid hB3
            clear K3 hz h3 hB3 hbel
            go_wp2_with fail
            refine K4.out.mono ?_
            rintro e w4 ⟨u, hu, rfl, h4⟩
            have HU := Lib.hid hu
            have hB4 := HB3.out.own h4
            have hbel4 := hbel3.trans (h4.mono hbel3.size)
            have K5 := Lib.hid (alarms_any a2 n2 cp2 w4 R (HR.out.below hbel4) hby)
            have HB4 := Lib.hid hB4
            clear K4 hu h4 hB4 hbel3 HB3
            go_wp2_with fail
            refine K5.out.mono ?_
            rintro e w5 ⟨ga, ca, rfl, _, _, _, hAl, _, h5⟩
            have hB5 := HB4.out.own h5
            have hbel5 := hbel4.trans (h5.mono hbel4.size)
            have K6 := Lib.hid (fires_any hB5 ga n2 ca R hAl (by omega))
            have HB5 := Lib.hid hB5
            clear K5 h5 hB5 hbel4 HB4 hAl
            go_wp2_with fail
            refine K6.out.mono ?_
            rintro e w6 ⟨h6, hf1⟩
            have hB6 := HB5.out.own h6
            have hbel6 := hbel5.trans (h6.mono hbel5.size)
            have hlb := hB6.lt
            rcases hf1 with ⟨hall, v1, rfl, hown1, hv1⟩ | ⟨hall, rfl⟩
            · obtain ⟨g1, c1, rfl, hg1b, hg1l, hcells1⟩ := fires_cells hown1 hv1
              have hne1 : g1 ≠ b ∧ g1 ≠ g := by have := HB5.out.lt; omega
              have HALL := Lib.hid hall
              have HC1 := Lib.hid hcells1
              have K7 := Lib.hid (now_any hB6)
              have HB6 := Lib.hid hB6
              clear K6 h6 hB6 hbel5 HB5 hall hown1 hv1 hcells1
              go_wp2_with fail
              refine K7.out.mono ?_
              rintro e w7 ⟨rfl, nn, rfl⟩
              have hB7 := HB6.out.drewN nn
              have hbel7 := below_dN (n := nn) hbel6
              have HC2 := Lib.hid (show ∀ i, i < n2 → (w6.drewN nn).cell? ⟨g1, i, none⟩ = some (.bool (fireB t now fg fb (R i))) from HC1.out)
              have hg1l' : g1 < (w6.drewN nn).heap.size := hg1l
              have K8 := Lib.hid (note_ok hB7 now 0 (v : Int) HNM.out (Or.inr (by omega)))
              clear K7 HB6 hbel6 HC1 hg1l hB7
              generalize w6.drewN nn = w7 at *
              go_wp2_with fail
              refine K8.out.mono ?_
              rintro e w8 ⟨rfl, hB8, hf8⟩
              have hbel8 := hf8.below hbel7 hbel7.size hb1 hg1
              have HC3 := Lib.hid (show ∀ i, i < n2 → w8.cell? ⟨g1, i, none⟩ = some (.bool (fireB t now fg fb (R i))) from fun i hi => by
                rw [World.cell?_of_block (w := w7) (hf8.block g1 hg1l' hne1.1 hne1.2)]; exact HC2.out i hi)
              have hg1l8 : g1 < w8.heap.size := Nat.lt_of_lt_of_le hg1l' hf8.size
              have K9 := Lib.hid (burn_any hB8 1 (by omega) hs1)
              have HB8 := Lib.hid hB8
              clear K8 hB8 hf8 hbel7 HC2 hg1l'
              go_wp2_with fail
              refine K9.out.mono ?_
              rintro e w9 ⟨u2, hu2, rfl, h9⟩
              have GT : (FloatKind.f64.format.order u u == some .eq) = false ∨ ((FloatKind.f64.format.order u u == some .eq) = true ∧ (FloatKind.f64.format.order u2 u == some .gt || FloatKind.f64.format.order u2 u == some .eq) = true) := by
                obtain ⟨⟨G, q1, _, l1⟩, ⟨B, q2, _, l2⟩⟩ := e1.out
                have hu := HU.out
                rw [sum_more HG.out (by omega) now 0 1 (by omega) (by omega) (by omega), sum_more HBd.out (by omega) now (v : Int) 1 (by omega) (by omega) (by omega), q1, q2, Int.add_zero] at hu2
                rw [q1, q2] at hu
                exact grow_test (t := t) (g := G) (b := B) (m := v) (by omega) t0 t1 hu hu2
              have GTH := Lib.hid GT
              have hB9 := HB8.out.own h9
              have hbel9 := hbel8.trans (h9.mono hbel8.size)
              have HC4 := Lib.hid (show ∀ i, i < n2 → w9.cell? ⟨g1, i, none⟩ = some (.bool (fireB t now fg fb (R i))) from fun i hi => (h9.cell hg1l8).trans (HC3.out i hi))
              have hg1l9 : g1 < w9.heap.size := Nat.lt_of_lt_of_le hg1l8 h9.size
              have K10 := Lib.hid (alarms_any a2 n2 cp2 w9 R (HR.out.below hbel9) hby)
              have HB9 := Lib.hid hB9
              clear K9 HU hu2 GT h9 hB9 hbel8 HB8 HC3 hg1l8
              go_wp2_with fail
              refine K10.out.mono ?_
              rintro e w10 ⟨ga2, ca2, rfl, _, _, _, hAl, _, h10⟩
              have hB10 := HB9.out.own h10
              have hbel10 := hbel9.trans (h10.mono hbel9.size)
              have HC5 := Lib.hid (show ∀ i, i < n2 → w10.cell? ⟨g1, i, none⟩ = some (.bool (fireB t now fg fb (R i))) from fun i hi => (h10.cell hg1l9).trans (HC4.out i hi))
              have hg1l10 : g1 < w10.heap.size := Nat.lt_of_lt_of_le hg1l9 h10.size
              have K11 := Lib.hid (fires_any hB10 ga2 n2 ca2 R hAl (by omega))
              have HB10 := Lib.hid hB10
              clear K10 h10 hB10 hbel9 HB9 hAl HC4 hg1l9
              go_wp2_with fail
              refine K11.out.mono ?_
              rintro e w11 ⟨h11, hf2⟩
              have hB11 := HB10.out.own h11
              have hbel11 := hbel10.trans (h11.mono hbel10.size)
              rcases hf2 with ⟨_, v2, rfl, hown2, hv2⟩ | ⟨hn2', _⟩
              · obtain ⟨g2, c2, rfl, hg2b, hg2l, hcells2⟩ := fires_cells hown2 hv2
                have HC6 := Lib.hid (show ∀ i, i < n2 → w11.cell? ⟨g1, i, none⟩ = some (.bool (fireB t now fg fb (R i))) from fun i hi => (h11.cell hg1l10).trans (HC5.out i hi))
                have HC7 := Lib.hid hcells2
                have LF := Lib.hid (left_any hB11)
                clear K11 h11 hbel10 HB10 HC5 hg1l10 hown2 hv2 hcells2 hB11 hg2l hg2b hg1b hne1 hlb
                have GT := GTH.out
                clear GTH
                rcases GT with ga1 | ⟨ga1, ga2'⟩
                · go_wp2_with fail
                  go_loopw [30] (fun i W => ∃ j : Nat, i = .int .i64 j ∧ j ≤ n2 ∧ W = w11) (fun i _ => n2 - (intOf i).toNat)
                  case atStart => exact ⟨0, rfl, by omega, rfl⟩
                  case round =>
                    obtain ⟨j, rfl, hj, rfl⟩ := hrel
                    by_cases hjl : j < n2
                    · have j1 : (j : Int) < (n2 : Int) := by omega
                      have q1 := HC6.out j hjl
                      have q2 := HC7.out j hjl
                      have hnn2 : n2 ≤ 9223372036854775807 := by omega
                      have imp := fire_more (now := now) (r := R j) HG.out HBd.out (by omega) t0 t1 (show (0 : Int) ≤ (v : Int) by omega) (by omega) (HALL.out j hjl)
                      cases f1 : fireB t now fg fb (R j)
                      · rw [f1] at q1
                        clear imp f1
                        go_wp2_with fail
                        go_roundw
                        case rel => exact ⟨j + 1, by go_num, by omega, by first | rfl | trivial⟩
                        case measure => simp [intOf]; omega
                      · rw [f1] at q1
                        rw [imp f1] at q2
                        clear imp f1
                        go_wp2_with fail
                        go_roundw
                        case rel => exact ⟨j + 1, by go_num, by omega, by first | rfl | trivial⟩
                        case measure => simp [intOf]; omega
                    · have j1 : ¬ ((j : Int) < (n2 : Int)) := by omega
                      have LFT := LF
                      clear HC6 HC7
                      go_wp2_with fail
                      refine LFT.out.mono ?_
                      rintro e w13 ⟨z2, hz2, rfl, h13⟩
                      have lt2 : (FloatKind.f64.format.order z2 4607182418800017408 == some .gt) = false := by
                        obtain ⟨⟨G, q1, _, l1⟩, ⟨B, q2, _, l2⟩⟩ := eS.out
                        rw [sum_more HG.out (by omega) now 0 s hs1 (by omega) (by omega), sum_more HBd.out (by omega) now (v : Int) s hs1 (by omega) (by omega), q1, q2, Int.add_zero] at hz2
                        exact left_test (t := t) (g := G) (b := B + v) (by omega) t0 t1 hz2
                      have hbel13 := hbel11.trans (h13.mono hbel11.size)
                      clear hz2 h13
                      go_wp2
                      go_ret
                      exact ⟨rfl, hbel13⟩
                · go_wp2_with fail
                  go_loopw [30] (fun i W => ∃ j : Nat, i = .int .i64 j ∧ j ≤ n2 ∧ W = w11) (fun i _ => n2 - (intOf i).toNat)
                  case atStart => exact ⟨0, rfl, by omega, rfl⟩
                  case round =>
                    obtain ⟨j, rfl, hj, rfl⟩ := hrel
                    by_cases hjl : j < n2
                    · have j1 : (j : Int) < (n2 : Int) := by omega
                      have q1 := HC6.out j hjl
                      have q2 := HC7.out j hjl
                      have hnn2 : n2 ≤ 9223372036854775807 := by omega
                      have imp := fire_more (now := now) (r := R j) HG.out HBd.out (by omega) t0 t1 (show (0 : Int) ≤ (v : Int) by omega) (by omega) (HALL.out j hjl)
                      cases f1 : fireB t now fg fb (R j)
                      · rw [f1] at q1
                        clear imp f1
                        go_wp2_with fail
                        go_roundw
                        case rel => exact ⟨j + 1, by go_num, by omega, by first | rfl | trivial⟩
                        case measure => simp [intOf]; omega
                      · rw [f1] at q1
                        rw [imp f1] at q2
                        clear imp f1
                        go_wp2_with fail
                        go_roundw
                        case rel => exact ⟨j + 1, by go_num, by omega, by first | rfl | trivial⟩
                        case measure => simp [intOf]; omega
                    · have j1 : ¬ ((j : Int) < (n2 : Int)) := by omega
                      have LFT := LF
                      clear HC6 HC7
                      go_wp2_with fail
                      refine LFT.out.mono ?_
                      rintro e w13 ⟨z2, hz2, rfl, h13⟩
                      have lt2 : (FloatKind.f64.format.order z2 4607182418800017408 == some .gt) = false := by
                        obtain ⟨⟨G, q1, _, l1⟩, ⟨B, q2, _, l2⟩⟩ := eS.out
                        rw [sum_more HG.out (by omega) now 0 s hs1 (by omega) (by omega), sum_more HBd.out (by omega) now (v : Int) s hs1 (by omega) (by omega), q1, q2, Int.add_zero] at hz2
                        exact left_test (t := t) (g := G) (b := B + v) (by omega) t0 t1 hz2
                      have hbel13 := hbel11.trans (h13.mono hbel11.size)
                      clear hz2 h13
                      go_wp2
                      go_ret
                      exact ⟨rfl, hbel13⟩
              · exact absurd HALL.out hn2'
            · have HALL := Lib.hid hall
              have K7 := Lib.hid (now_any hB6)
              have HB6 := Lib.hid hB6
              clear K6 h6 hB6 hbel5 HB5 hall
              go_wp2_with fail
              refine K7.out.mono ?_
              rintro e w7 ⟨rfl, nn, rfl⟩
              have hB7 := HB6.out.drewN nn
              have hbel7 := below_dN (n := nn) hbel6
              have K8 := Lib.hid (note_ok hB7 now 0 (v : Int) HNM.out (Or.inr (by omega)))
              clear K7 HB6 hbel6 hB7
              generalize w6.drewN nn = w7 at *
              go_wp2_with fail
              refine K8.out.mono ?_
              rintro e w8 ⟨rfl, hB8, hf8⟩
              have hbel8 := hf8.below hbel7 hbel7.size hb1 hg1
              have K9 := Lib.hid (burn_any hB8 1 (by omega) hs1)
              have HB8 := Lib.hid hB8
              clear K8 hB8 hf8 hbel7
              go_wp2_with fail
              refine K9.out.mono ?_
              rintro e w9 ⟨u2, hu2, rfl, h9⟩
              have GT : (FloatKind.f64.format.order u u == some .eq) = false ∨ ((FloatKind.f64.format.order u u == some .eq) = true ∧ (FloatKind.f64.format.order u2 u == some .gt || FloatKind.f64.format.order u2 u == some .eq) = true) := by
                obtain ⟨⟨G, q1, _, l1⟩, ⟨B, q2, _, l2⟩⟩ := e1.out
                have hu := HU.out
                rw [sum_more HG.out (by omega) now 0 1 (by omega) (by omega) (by omega), sum_more HBd.out (by omega) now (v : Int) 1 (by omega) (by omega) (by omega), q1, q2, Int.add_zero] at hu2
                rw [q1, q2] at hu
                exact grow_test (t := t) (g := G) (b := B) (m := v) (by omega) t0 t1 hu hu2
              have GTH := Lib.hid GT
              have hB9 := HB8.out.own h9
              have hbel9 := hbel8.trans (h9.mono hbel8.size)
              have K10 := Lib.hid (alarms_any a2 n2 cp2 w9 R (HR.out.below hbel9) hby)
              have HB9 := Lib.hid hB9
              clear K9 HU hu2 GT h9 hB9 hbel8 HB8
              go_wp2_with fail
              refine K10.out.mono ?_
              rintro e w10 ⟨ga2, ca2, rfl, _, _, _, hAl, _, h10⟩
              have hB10 := HB9.out.own h10
              have hbel10 := hbel9.trans (h10.mono hbel9.size)
              have K11 := Lib.hid (fires_any hB10 ga2 n2 ca2 R hAl (by omega))
              have HB10 := Lib.hid hB10
              clear K10 h10 hB10 hbel9 HB9 hAl
              go_wp2_with fail
              refine K11.out.mono ?_
              rintro e w11 ⟨h11, hf2⟩
              have hB11 := HB10.out.own h11
              have hbel11 := hbel10.trans (h11.mono hbel10.size)
              rcases hf2 with ⟨hy2, _⟩ | ⟨_, rfl⟩
              · exact absurd hy2 HALL.out
              · have LF := Lib.hid (left_any hB11)
                clear K11 h11 hbel10 HB10 hB11 hlb
                have GT := GTH.out
                clear GTH
                rcases GT with ga1 | ⟨ga1, ga2'⟩
                · go_wp2_with fail
                  go_loopw [30] (fun i W => i = .int .i64 0 ∧ W = w11) (fun i _ => 0)
                  case atStart => exact ⟨rfl, rfl⟩
                  case round =>
                    obtain ⟨rfl, rfl⟩ := hrel
                    have LFT := LF
                    go_wp2_with fail
                    refine LFT.out.mono ?_
                    rintro e w13 ⟨z2, hz2, rfl, h13⟩
                    have lt2 : (FloatKind.f64.format.order z2 4607182418800017408 == some .gt) = false := by
                      obtain ⟨⟨G, q1, _, l1⟩, ⟨B, q2, _, l2⟩⟩ := eS.out
                      rw [sum_more HG.out (by omega) now 0 s hs1 (by omega) (by omega), sum_more HBd.out (by omega) now (v : Int) s hs1 (by omega) (by omega), q1, q2, Int.add_zero] at hz2
                      exact left_test (t := t) (g := G) (b := B + v) (by omega) t0 t1 hz2
                    have hbel13 := hbel11.trans (h13.mono hbel11.size)
                    clear hz2 h13
                    go_wp2
                    go_ret
                    exact ⟨rfl, hbel13⟩
                · go_wp2_with fail
                  go_loopw [30] (fun i W => i = .int .i64 0 ∧ W = w11) (fun i _ => 0)
                  case atStart => exact ⟨rfl, rfl⟩
                  case round =>
                    obtain ⟨rfl, rfl⟩ := hrel
                    have LFT := LF
                    go_wp2_with fail
                    refine LFT.out.mono ?_
                    rintro e w13 ⟨z2, hz2, rfl, h13⟩
                    have lt2 : (FloatKind.f64.format.order z2 4607182418800017408 == some .gt) = false := by
                      obtain ⟨⟨G, q1, _, l1⟩, ⟨B, q2, _, l2⟩⟩ := eS.out
                      rw [sum_more HG.out (by omega) now 0 s hs1 (by omega) (by omega), sum_more HBd.out (by omega) now (v : Int) s hs1 (by omega) (by omega), q1, q2, Int.add_zero] at hz2
                      exact left_test (t := t) (g := G) (b := B + v) (by omega) t0 t1 hz2
                    have hbel13 := hbel11.trans (h13.mono hbel11.size)
                    clear hz2 h13
                    go_wp2
                    go_ret
                    exact ⟨rfl, hbel13⟩
  · refine (bnew_plan t s hs1 hs2 (by
      rcases h : (FloatKind.f64.format.order t 0 == some .gt) with _ | _
      · exact Or.inl rfl
      · rcases h' : (FloatKind.f64.format.order t 4607182418800017408 == some .lt) with _ | _
        · exact Or.inr rfl
        · exact absurd ⟨h, h'⟩ hT) _).mono ?_
    rintro e w2 ⟨rfl, rfl⟩
    clear hT
    go_wp2
    go_ret
    exact ⟨rfl, hbel1⟩
end Go.Proofs.Ytmdfkljmgijdlaa
