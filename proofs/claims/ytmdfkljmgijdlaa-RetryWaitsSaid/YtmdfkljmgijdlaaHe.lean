/- The walk of RetryWaits at a plan that may not be. -/
import Derived.Test.YtmdfkljmgijdlaaHd
namespace Go.Proofs.Ytmdfkljmgijdlaa
open Go.RowKit
set_option linter.unusedVariables false

set_option maxRecDepth 100000 in
set_option maxHeartbeats 8000000 in
theorem rwaits_bad (t : Int) (f g c j d : Nat) (s : Int) (a : Option Addr) (n cp : Nat) (x : Nat) (w : World) (L : List Int) (hr : RowIn w a n cp (L.map (.int .i16))) (hreach : n * 2 ≤ 140737488351232)
    (wf : f < 18446744073709551616) (wg : g < 18446744073709551616) (wc : c < 18446744073709551616) (wj : j < 18446744073709551616) (wx : x < 18446744073709551616) (hok : badPlan t f g c d j n = true) :
    Calls Try.prog 8 #[.agg #[.int .i64 t, .float .f64 f, .float .f64 g, .float .f64 c, .float .f64 j, .float .f64 d, .int .u64 s, .slice a n cp], .float .f64 x] w fun e w' =>
      e = .returned (.bool true) ∧ Below w.heap.size w w' := by
  have hr' := hr.below ((Below.refl w.heap.size w).alloc (Nat.le_refl _) (.cells #[.int .i64 t, .float .f64 f, .float .f64 g, .float .f64 c, .float .f64 j, .float .f64 d, .int .u64 s, .slice a n cp] 26))
  have hE1 : planE t f g c d j n = 240 := by unfold planE; rw [hok]; rfl
  have hE2 : plan24E t f g c d j n = 240 := by unfold plan24E; rw [bad24_eq wf wg, hok]; rfl
  have HE1 := Lib.hid hE1
  have HE2 := Lib.hid hE2
  have HOK := Lib.hid hok
  have HR := Lib.hid hr'
  clear hok hr hr' hE1 hE2
  go_enter Try.func8, Try.ntmps8
  go_wp2_with fail
  refine (own_any _ _ _ _ _ _ _ _ _ _ _ _ HR.out hreach).mono ?_
  rintro e w1 ⟨b1, cap1, rfl, hown1, hb1⟩
  have hbel1 : Below w.heap.size w w1 := ((Below.refl _ _).alloc (Nat.le_refl _) _).trans (hb1.mono (by simp))
  have hsz1 : w.heap.size + 1 ≤ w1.heap.size := by have := hb1.size; simpa using this
  have hP : w1.heap[w.heap.size]? = some (.cells (planV t f g c j d s (.slice a n cp)) 26 (0, 0)) := by rw [hb1.block _ (by simp)]; exact alloc_at _ _
  have hR1 := HR.out.below hb1
  clear hb1 HR
  have HP := Lib.hid hP
  have HR := Lib.hid hR1
  have HO := Lib.hid (ownsRow_mono hown1 (Nat.zero_le _))
  clear hP hR1 hown1
  go_wp2_with ((with_reducible refine at_op (.store 27 (.tmp 5) (.tmp 15)) rfl ?_); refine wpList_store_new rfl 27 (.tmp 5) (.tmp 15) rfl w1.heap.size rfl 27 _ rfl #[.int .i64 t, .float .f64 f, .float .f64 g, .float .f64 c, .float .f64 j, .float .f64 d, .int .u64 s, .slice (some ⟨b1, 0, none⟩) n cap1] rfl (by kernel_rfl) rfl (by simp [Value.oneCell']) ?_)
  refine (waits_bad _ _ _ _ _ _ _ _ _ _ _ HOK.out).mono ?_
  rintro e w2 ⟨rfl, hb2⟩
  have hM : w2.heap[w1.heap.size]? = some (.cells (planV t f g c j d s (.slice (some ⟨b1, 0, none⟩) n cap1)) 27 (0, 0)) := by
    rw [hb2.block _ (by simp)]; exact alloc_at _ _
  have hb2' : Below w1.heap.size w1 w2 := ((Below.refl _ _).alloc (Nat.le_refl _) _).trans (hb2.mono (by simp))
  have hsz2 : w1.heap.size + 1 ≤ w2.heap.size := by have := hb2.size; simpa using this
  have HB2 := Lib.hid hb2'
  have HM := Lib.hid hM
  have hP2 : w2.heap[w.heap.size]? = some (.cells (planV t f g c j d s (.slice a n cp)) 26 (0, 0)) := by rw [hb2'.block _ (by omega)]; exact HP.out
  have HP2 := Lib.hid hP2
  clear hb2 hb2' hM hP2
  go_wp2_with ((with_reducible refine at_op (.load 26 (.tmp 2)) rfl ?_); refine wpList_load_row rfl 26 (.tmp 2) rfl w.heap.size rfl 26 _ (0, 0) _ HP2.out Try.underlying26 rfl (by kernel_rfl) ?_)
  refine (waits24_bad _ _ _ _ _ _ _ _ _ _ _ wf wg HOK.out).mono ?_
  rintro e w3 ⟨rfl, hb3⟩
  have hsz3 : w2.heap.size ≤ w3.heap.size := hb3.size
  have HB3 := Lib.hid hb3
  have hM3 : w3.heap[w1.heap.size]? = some (.cells (planV t f g c j d s (.slice (some ⟨b1, 0, none⟩) n cap1)) 27 (0, 0)) := by rw [hb3.block _ (by omega)]; exact HM.out
  have HM3 := Lib.hid hM3
  clear hb3 hM3
  go_wp2_with ((with_reducible refine at_op (.load 27 (.tmp 5)) rfl ?_); refine wpList_load_row rfl 27 (.tmp 5) rfl w1.heap.size rfl 27 _ (0, 0) _ HM3.out Try.underlying27 rfl (by kernel_rfl) ?_)
  refine (waits_bad _ _ _ _ _ _ _ _ _ _ _ HOK.out).mono ?_
  rintro e w4 ⟨rfl, hb4⟩
  -- what stands at w4
  have b24 : Below w2.heap.size w2 w4 := HB3.out.trans (hb4.mono (by omega))
  have b14 : Below w1.heap.size w1 w4 := HB2.out.trans (b24.mono (by omega))
  have hM4 : w4.heap[w1.heap.size]? = some (.cells (planV t f g c j d s (.slice (some ⟨b1, 0, none⟩) n cap1)) 27 (0, 0)) := by rw [b24.block _ (by omega)]; exact HM.out
  have hP4 : w4.heap[w.heap.size]? = some (.cells (planV t f g c j d s (.slice a n cp)) 26 (0, 0)) := by rw [b14.block _ (by omega)]; exact HP.out
  have hR4 := HR.out.below b14
  have hO4 := ownsRow_below HO.out b14 (Nat.le_refl _)
  have hbel4 : Below w.heap.size w w4 := hbel1.trans (b14.mono (by omega))
  have hsz4 : w2.heap.size ≤ w4.heap.size := b24.size
  clear HB2 HB3 HM HM3 HP HP2 HR HO hb4 b24 b14
  have held : ∀ w', Below w4.heap.size w4 w' → Below w4.heap.size w4 w' ∧
      w'.cell? ⟨w.heap.size, 0, none⟩ = some (.int .i64 t) ∧ w'.cell? ⟨w.heap.size, 1, none⟩ = some (.float .f64 f) ∧ w'.cell? ⟨w.heap.size, 2, none⟩ = some (.float .f64 g) ∧ w'.cell? ⟨w.heap.size, 3, none⟩ = some (.float .f64 c) ∧
      w'.cell? ⟨w.heap.size, 4, none⟩ = some (.float .f64 j) ∧ w'.cell? ⟨w.heap.size, 5, none⟩ = some (.float .f64 d) ∧ w'.cell? ⟨w.heap.size, 6, none⟩ = some (.int .u64 s) ∧ w'.cell? ⟨w.heap.size, 7, none⟩ = some (.slice a n cp) ∧
      w'.cell? ⟨w1.heap.size, 0, none⟩ = some (.int .i64 t) ∧ w'.cell? ⟨w1.heap.size, 1, none⟩ = some (.float .f64 f) ∧ w'.cell? ⟨w1.heap.size, 2, none⟩ = some (.float .f64 g) ∧ w'.cell? ⟨w1.heap.size, 3, none⟩ = some (.float .f64 c) ∧
      w'.cell? ⟨w1.heap.size, 4, none⟩ = some (.float .f64 j) ∧ w'.cell? ⟨w1.heap.size, 5, none⟩ = some (.float .f64 d) ∧ w'.cell? ⟨w1.heap.size, 6, none⟩ = some (.int .u64 s) ∧ w'.cell? ⟨w1.heap.size, 7, none⟩ = some (.slice (some ⟨b1, 0, none⟩) n cap1) := by
    intro w' hb
    have e1 := hb.block w.heap.size (by omega)
    have e2 := hb.block w1.heap.size (by omega)
    rw [hP4] at e1
    rw [hM4] at e2
    refine ⟨hb, ?_⟩
    refine ⟨cell_of_block e1 0, cell_of_block e1 1, cell_of_block e1 2, cell_of_block e1 3, cell_of_block e1 4, cell_of_block e1 5, cell_of_block e1 6, cell_of_block e1 7, cell_of_block e2 0, cell_of_block e2 1, cell_of_block e2 2, cell_of_block e2 3, cell_of_block e2 4, cell_of_block e2 5, cell_of_block e2 6, cell_of_block e2 7⟩
  have HELD := Lib.hid held
  have FN : ∀ w', Floats w' none 0 (fun _ => 0) := fun w' h => absurd h (by simp)
  have HFN := Lib.hid FN
  have HR4 := Lib.hid hR4
  have HO4 := Lib.hid hO4
  clear held hR4 hO4 hP4 hM4 FN
  obtain ⟨i0, hi, hz0, hz1, hz2⟩ := info_parts Try.info22
  go_wp2_with fail
  go_region_held3 (fun w' => Below w4.heap.size w4 w' ∧
      w'.cell? ⟨w.heap.size, 0, none⟩ = some (.int .i64 t) ∧ w'.cell? ⟨w.heap.size, 1, none⟩ = some (.float .f64 f) ∧ w'.cell? ⟨w.heap.size, 2, none⟩ = some (.float .f64 g) ∧ w'.cell? ⟨w.heap.size, 3, none⟩ = some (.float .f64 c) ∧
      w'.cell? ⟨w.heap.size, 4, none⟩ = some (.float .f64 j) ∧ w'.cell? ⟨w.heap.size, 5, none⟩ = some (.float .f64 d) ∧ w'.cell? ⟨w.heap.size, 6, none⟩ = some (.int .u64 s) ∧ w'.cell? ⟨w.heap.size, 7, none⟩ = some (.slice a n cp) ∧
      w'.cell? ⟨w1.heap.size, 0, none⟩ = some (.int .i64 t) ∧ w'.cell? ⟨w1.heap.size, 1, none⟩ = some (.float .f64 f) ∧ w'.cell? ⟨w1.heap.size, 2, none⟩ = some (.float .f64 g) ∧ w'.cell? ⟨w1.heap.size, 3, none⟩ = some (.float .f64 c) ∧
      w'.cell? ⟨w1.heap.size, 4, none⟩ = some (.float .f64 j) ∧ w'.cell? ⟨w1.heap.size, 5, none⟩ = some (.float .f64 d) ∧ w'.cell? ⟨w1.heap.size, 6, none⟩ = some (.int .u64 s) ∧ w'.cell? ⟨w1.heap.size, 7, none⟩ = some (.slice (some ⟨b1, 0, none⟩) n cap1))
    (first | exact HELD.out _ (held_next (by assumption) (Nat.le_refl _) (by assumption)) | exact HELD.out _ (Below.refl _ _).drew)
    (first | (go_at_call 40; refine (check_val _ _ _ _ _ _ _ _ _ _ _ 240 HE1.out).mono ?_; rintro e w' ⟨rfl, hbx⟩) | (go_at_call 41; refine (check24_val _ _ _ _ _ _ _ _ _ _ _ 240 HE2.out).mono ?_; rintro e w' ⟨rfl, hbx⟩) | (go_at_call 42; refine (floats_any _ _ _ _ _ _ _ (Nat.zero_le _) (HFN.out _) (HFN.out _)).mono ?_; rintro e w' ⟨rfl, hD⟩; have hbx := drewn_below hD) | (go_at_call 43; refine (kept_any _ _ _ _ _ _ _ _ _ _ _ _ _ _ (HR4.out.below (and_l (by assumption))) (ownsRow_below HO4.out (and_l (by assumption)) (Nat.le_refl _))).mono ?_; rintro e w' ⟨rfl, hbx⟩))
  rename_i hS
  have b5 := and_l hS
  clear hS
  have hbel5 := hbel4.trans (b5.mono (by have := hbel4.size; omega))
  have hwn : w'.ownsRow 0 22 1 (.slice none 0 0) 0 [] := ⟨rfl, .inl ⟨rfl, rfl⟩⟩
  have HOW := Lib.hid hwn
  have hov : Over w4 none w' (.slice none 0 0) := ⟨fun k hk _ => b5.block k hk, b5.size, .inl rfl⟩
  have HOR := Lib.hid hov
  have hb := hbel5
  clear hwn hov
  go_wp2_with fail
  go_loopw [12] (fun i wr => i = .int .i64 0 ∧ w' = wr) (fun i _ => 0)
  case atStart => exact ⟨rfl, rfl⟩
  case round =>
      obtain ⟨rfl, rfl⟩ := hrel
      go_wp2_with fail
      go_loopw [6, 13] (fun v i wr => ∃ (k : Nat) (xs : List Value), i = .int .i64 k ∧ k ≤ 120 ∧ wr.ownsRow 0 22 1 v (0 + k) xs ∧ Over w4 none wr v ∧ Below w.heap.size w wr) (fun _ i _ => 120 - (intOf i).toNat)
      case atStart => exact ⟨0, _, rfl, Nat.zero_le _, HOW.out, HOR.out, hb⟩
      case round =>
        obtain ⟨q, ys, rfl, hq, hown, hO, hb'⟩ := hrel
        by_cases hl2 : q < 120
        · have j1 : (q : Int) < 120 := by omega
          have hbs := hb'.size
          go_wp2_with (at_builtin; refine wpList_append_place _ rfl (.tmp 66) (.tmp 67) 29 rfl 0 22 i0 (.float .f64 0) 1 8 Try.underlying29 hi hz0 hz1 hz2 rfl (by decide) _ _ _ rfl (hown.alloc _) ⟨wr.heap.size, 0, none⟩ 1 1 [.float .f64 13835058055282163712] rfl rfl ?c1 ?c2 ?c3 ?c4 ?c5 (by decide) ?_)
          case c1 => intro m u hu; rcases m with _ | m <;> simp at hu; subst hu; exact cell_of_block (alloc_at _ _) 0
          case c2 => intro u hu; simp at hu; subst hu; rfl
          case c3 => simp only [maxLen]; omega
          case c4 => omega
          case c5 => omega
          intro v' w2 hown2 hg hpl
          have hO3 := (hO.alloc (.cells #[.float .f64 13835058055282163712] 22)).append (v' := v') hg (by simpa using hpl)
          have hb3 := Over.belowApp (hO.alloc (.cells #[.float .f64 13835058055282163712] 22)) (fun k hk => by cases hk) (hb'.alloc hbs _) hg (by have := hbel4.size; omega)
          have HOW3 := Lib.hid hown2
          have HOR3 := Lib.hid hO3
          clear hown2 hg hpl hO3 hown hO
          go_wp2_with fail
          exact ⟨⟨q + 1, _, by go_num, by omega, by rw [Nat.zero_add]; exact HOW3.out, HOR3.out, hb3⟩, by simp [intOf]; omega⟩
        · have j1 : ¬ ((q : Int) < 120) := by omega
          obtain ⟨tk, tk1, tk2⟩ := ticks_any x wx
          have tke : ((tk : Int) == (tk : Int)) = true := by simp
          have TK1 := Lib.hid tk1
          have TK2 := Lib.hid tk2
          clear hown hO hl2 tk1 tk2
          go_wp2_with fail
          refine (floats_any _ _ _ _ _ _ _ (Nat.zero_le _) (HFN.out _) (HFN.out _)).mono ?_
          rintro e w5 ⟨rfl, hD⟩
          have hb5 := held_nextT hb' (by omega) (drewn_below hD)
          clear hD
          go_wp2_with fail
          refine (TK1.out _).mono ?_
          rintro e w6 ⟨rfl, rfl⟩
          go_wp2_with fail
          refine (TK2.out _).mono ?_
          rintro e w6 ⟨rfl, rfl⟩
          go_wp2_with fail
          refine (awake_any _).mono ?_
          rintro e w6 ⟨rfl, hb6⟩
          have hb7 := held_nextT hb5 (Nat.le_refl _) hb6
          clear hb6
          go_wp2
          go_ret
          exact ⟨rfl, hb7⟩
end Go.Proofs.Ytmdfkljmgijdlaa
