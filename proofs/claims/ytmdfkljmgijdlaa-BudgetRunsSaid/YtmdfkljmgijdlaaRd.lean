/- Which alarms are to be told. -/
import Derived.Test.YtmdfkljmgijdlaaRb
import Derived.Test.YtmdfkljmgijdlaaRc
namespace Go.Proofs.Ytmdfkljmgijdlaa
open Go.RowKit
set_option linter.unusedVariables false

/-- Is it a window? -/
def winB (s : Nat) (x : Int) : Prop := 1 ≤ x ∧ x ≤ s
instance (s : Nat) (x : Int) : Decidable (winB s x) := by unfold winB; infer_instance

/-- What Burn answers, whatever is asked. -/
def BurnP (t s : Nat) (now : Int) (fg fb : Int → Int) (x : Int) (W : World) (e : Ending) (w' : World) : Prop :=
  ∃ z c, e = .returned (.tuple #[.float .f64 z, .int .i64 c]) ∧ Below W.heap.size W w' ∧ ((winB s x ∧ c = 0 ∧ SM z (burnC t (sumW fg now x.toNat) (sumW fb now x.toNat))) ∨ (¬ winB s x ∧ c = 1 ∧ z = 0))
theorem burn_all {w : World} {b g t s : Nat} {now : Int} {m : Bool} {fg fb : Int → Int} (h : BG w b g t s now m fg fb) (x : Int) :
    Calls Try.prog 22 #[.pointer (some ⟨b, 0, none⟩), .int .i64 x] w (BurnP t s now fg fb x w) := by
  by_cases hx : winB s x
  · have hx' := hx
    obtain ⟨h1, h2⟩ := hx
    obtain ⟨n, rfl⟩ := Int.eq_ofNat_of_zero_le (show 0 ≤ x by omega)
    refine (burn_any h n (by omega) (by omega)).mono ?_
    rintro e w' ⟨z, hz, rfl, hb⟩
    exact ⟨z, 0, rfl, hb, Or.inl ⟨hx', rfl, hz⟩⟩
  · refine (burn_arg h x hx).mono ?_
    rintro e w' ⟨rfl, hb⟩
    exact ⟨0, 1, rfl, hb, Or.inr ⟨hx, rfl, rfl⟩⟩

/-- Does an alarm fire? -/
def fireB (t : Nat) (now : Int) (fg fb : Int → Int) (r : Int × Int × Nat) : Bool :=
  geqB (burnC t (sumW fg now r.1.toNat) (sumW fb now r.1.toNat)) r.2.2 && geqB (burnC t (sumW fg now r.2.1.toNat) (sumW fb now r.2.1.toNat)) r.2.2
/-- All rules have windows. -/
def allWin (s : Nat) (R : Nat → Int × Int × Nat) (n : Nat) : Prop := ∀ i, i < n → winB s (R i).1 ∧ winB s (R i).2.1

/-- The answers' cells. -/
def bl (F : Nat → Bool) : Nat → List Value
  | 0 => []
  | k + 1 => bl F k ++ [.bool (F k)]
theorem bl_len (F : Nat → Bool) (k : Nat) : (bl F k).length = k := by
  induction k with
  | zero => rfl
  | succ k ih => simp [bl, ih]
theorem bl_get (F : Nat → Bool) (n i : Nat) (h : i < n) : (bl F n)[i]? = some (.bool (F i)) := by
  induction n with
  | zero => omega
  | succ n ih =>
    simp only [bl]
    have hl := bl_len F n
    by_cases e : i = n
    · subst e
      rw [List.getElem?_append_right (by omega), hl]; simp
    · rw [List.getElem?_append_left (by omega)]
      exact ih (by omega)

def FiresP (t s n : Nat) (now : Int) (fg fb : Int → Int) (R : Nat → Int × Int × Nat) (W : World) (e : Ending) (w' : World) : Prop :=
  Below W.heap.size W w' ∧ ((allWin s R n ∧ ∃ v, e = .returned (.tuple #[v, .int .i64 0]) ∧ w'.ownsRow W.heap.size 4 1 v n (bl (fun i => fireB t now fg fb (R i)) n) ∧ v ≠ .slice none 0 0) ∨ (¬ allWin s R n ∧ e = .returned (.tuple #[.slice none 0 0, .int .i64 1])))

set_option maxRecDepth 100000 in
set_option maxHeartbeats 4000000 in
theorem fires_any {w : World} {b g t s : Nat} {now : Int} {m : Bool} {fg fb : Int → Int} (h : BG w b g t s now m fg fb) (ga n cp : Nat) (R : Nat → Int × Int × Nat) (hA : AlarmsAt w ga n R) (hn : n ≤ 9000000000000) :
    Calls Try.prog 24 #[.pointer (some ⟨b, 0, none⟩), .slice (some ⟨ga, 0, none⟩) n cp] w (FiresP t s n now fg fb R w) := by
  obtain ⟨i0, hi, hz0, hz1, hz2⟩ := info_parts (show (Try.prog.info? 4).map (fun i => (i.zero, i.size, i.bytes)) = some (some (.bool false), 1, 1) by kernel_rfl)
  have H := Lib.hid h
  clear h
  go_enter Try.func24, Try.ntmps24
  go_wp2_with (at_make; refine wpList_make_own _ rfl _ _ 47 rfl w.heap.size 4 i0 (.bool false) 1 Try.underlying47 hi hz0 hz1 .i64 .i64 _ n rfl rfl (by omega) (by rw [hz2]; omega) (by unfold maxLen; omega) (Nat.le_refl _) ?_; intro w0 hown0 hgrow0)
  have hbel0 : Below w.heap.size w w0 := (Below.refl _ _).grown hgrow0 (Nat.le_refl _) (fun k hk => by cases hk)
  clear hgrow0
  go_simp
  go_loopw [6, 20] (fun v i W => ∃ k : Nat, i = .int .i64 k ∧ k ≤ n ∧ allWin s R k ∧ W.ownsRow w.heap.size 4 1 v k (bl (fun i => fireB t now fg fb (R i)) k) ∧ v ≠ .slice none 0 0 ∧ Below w.heap.size w W) (fun _ i _ => n - (intOf i).toNat)
  case atStart => exact ⟨0, rfl, by omega, fun i hi => by omega, hown0, by simp, hbel0⟩
  case round =>
    clear hown0 hbel0
    obtain ⟨k, rfl, hk, hall, hown, hvn, hbel⟩ := hrel
    by_cases hlt : k < n
    · have i1 : (k : Int) < (n : Int) := by omega
      obtain ⟨e1, e2, e3⟩ := hA k hlt
      have f1 := hbel.cell (block_lt e1) ▸ e1
      have f2 := hbel.cell (block_lt e2) ▸ e2
      have f3 := hbel.cell (block_lt e3) ▸ e3
      have hbs := hbel.size
      have HW := Lib.hid hall
      have HO := Lib.hid hown
      have HV := Lib.hid hvn
      have hb1 : Below wr.heap.size wr (wr.alloc (.cells #[.int .i64 (R k).1, .int .i64 (R k).2.1, .float .f64 (R k).2.2] 163)) := (Below.refl _ _).alloc (Nat.le_refl _) _
      have hblk : (wr.alloc (.cells #[.int .i64 (R k).1, .int .i64 (R k).2.1, .float .f64 (R k).2.2] 163)).heap[wr.heap.size]? = _ := alloc_at _ _
      have hbel1 := hbel.alloc hbs (.cells #[.int .i64 (R k).1, .int .i64 (R k).2.1, .float .f64 (R k).2.2] 163)
      have K1 := Lib.hid (burn_all (H.out.own hbel1) (R k).1)
      obtain ⟨W1, hW1⟩ : ∃ W1, W1 = wr.alloc (.cells #[.int .i64 (R k).1, .int .i64 (R k).2.1, .float .f64 (R k).2.2] 163) := ⟨_, rfl⟩
      obtain ⟨q, hq⟩ : ∃ q, q = wr.heap.size := ⟨_, rfl⟩
      have HW1 := Lib.hid hW1
      have HQ := Lib.hid hq
      have hsz1 : W1.heap.size = q + 1 := by rw [hW1, hq]; exact World.size_alloc _ _
      rw [← hW1] at hb1 hblk hbel1 K1
      rw [← hq] at hblk
      have r0 := cell_of_block hblk 0
      have r1 := cell_of_block hblk 1
      have r2 := cell_of_block hblk 2
      have g0 : W1.cell? ⟨q, 0, none⟩ = some (.int .i64 (R k).1) := r0
      have HSZ := Lib.hid hsz1
      have HB1 := Lib.hid hb1
      clear hW1 hq hb1 e1 e2 e3 r0 r1 r2 hall hown hvn hsz1
      go_wp2_with ((with_reducible refine at_op (.store 163 (.tmp 8) (.tmp 23)) rfl ?_); refine wpList_store_new rfl 163 (.tmp 8) (.tmp 23) rfl wr.heap.size rfl 163 _ rfl #[.int .i64 (R k).1, .int .i64 (R k).2.1, .float .f64 (R k).2.2] rfl (by kernel_rfl) rfl (by simp [Value.oneCell']) ?_; rw [← HW1.out, ← HQ.out])
      refine K1.out.mono ?_
      rintro e w3 ⟨x, c, rfl, hb3, hx⟩
      have HX := Lib.hid hx
      have hlt1 : q < W1.heap.size := by have := HSZ.out; omega
      have hbel3 := hbel1.trans (hb3.mono hbel1.size)
      have hblk3 : w3.heap[q]? = _ := (hb3.block q hlt1).trans hblk
      have g1 : w3.cell? ⟨q, 1, none⟩ = some (.int .i64 (R k).2.1) := cell_of_block hblk3 1
      have K2 := Lib.hid (burn_all (H.out.own hbel3) (R k).2.1)
      have HB3 := Lib.hid hb3
      have hlt3 : q < w3.heap.size := by have := hb3.size; omega
      have HL3 := Lib.hid hlt3
      clear hx hb3 hblk hbel1 K1 g0 f1 f2 f3 hbel hbs hlt1 hlt3
      go_wp2_with fail
      refine K2.out.mono ?_
      rintro e w4 ⟨y, d, rfl, hb4, hy⟩
      have HY := Lib.hid hy
      have hbel4 := hbel3.trans (hb4.mono hbel3.size)
      have hblk4 : w4.heap[q]? = _ := (hb4.block q HL3.out).trans hblk3
      have g2 : w4.cell? ⟨q, 2, none⟩ = some (.float .f64 (R k).2.2) := cell_of_block hblk4 2
      have hbw : Below wr.heap.size wr w4 := (HB1.out.trans (HB3.out.mono HB1.out.size)).trans (hb4.mono (Nat.le_trans HB1.out.size HB3.out.size))
      have HO4 := Lib.hid (ownsRow_below HO.out hbw (Nat.le_refl _))
      have HS4 := Lib.hid hbel4.size
      have HB4 := Lib.hid hbel4
      clear hy hblk3 hblk4 hbel3 K2 g1 hbw hb4 hbel4
      have hx := HX.out
      clear HX
      rcases hx with ⟨wx, rfl, hsx⟩ | ⟨wx, rfl, rfl⟩
      · have HX := Lib.hid (And.intro wx hsx)
        clear wx hsx
        have hy := HY.out
        clear HY
        rcases hy with ⟨wy, rfl, hsy⟩ | ⟨wy, rfl, rfl⟩
        · have HY := Lib.hid (And.intro wy hsy)
          have HALL := Lib.hid (show allWin s R (k + 1) by
            intro i hi
            by_cases e : i = k
            · subst e; exact ⟨HX.out.1, wy⟩
            · exact HW.out i (by omega))
          clear wy hsy
          cases gx : (FloatKind.f64.format.order x (R k).2.2 == some .gt || FloatKind.f64.format.order x (R k).2.2 == some .eq)
          · cases gy : (FloatKind.f64.format.order y (R k).2.2 == some .gt || FloatKind.f64.format.order y (R k).2.2 == some .eq)
            · have GX := Lib.hid gx
              have GY := Lib.hid gy
              have EV := Lib.hid (show fireB t now fg fb (R k) = false by
                unfold fireB
                rw [← geqB_sm HX.out.2, ← geqB_sm HY.out.2]
                unfold geqB
                rw [GX.out, GY.out]; rfl)
              go_wp2_with (at_builtin; refine wpList_append_own _ rfl (.tmp 44) (.tmp 55) 47 rfl w.heap.size 4 i0 (.bool false) 1 1 Try.underlying47 hi hz0 hz1 hz2 rfl (by decide) _ _ _ rfl (HO4.out.alloc _) ⟨w4.heap.size, 0, none⟩ 1 1 [.bool false] rfl rfl ?cfalsefalse1 ?cfalsefalse2 ?cfalsefalse3 ?cfalsefalse4 ?cfalsefalse5 ?_)
              case cfalsefalse1 => intro m u hu; rcases m with _ | m <;> simp at hu; subst hu; exact cell_of_block (alloc_at _ _) 0
              case cfalsefalse2 => intro u hu; simp at hu; subst hu; rfl
              case cfalsefalse3 => simp only [maxLen]; omega
              case cfalsefalse4 => omega
              case cfalsefalse5 => have := HS4.out; simp; omega
              intro v' w5 hown5 hg hnil
              have hbel5 := (HB4.out.alloc HS4.out _).grown hg (by have := HS4.out; simp; omega) (fun q hq => (HO4.out.lt q hq).1)
              have hown6 : w5.ownsRow w.heap.size 4 1 v' (k + 1) (bl (fun i => fireB t now fg fb (R i)) (k + 1)) := by
                have e : bl (fun i => fireB t now fg fb (R i)) (k + 1) = bl (fun i => fireB t now fg fb (R i)) k ++ [.bool false] := by rw [bl, EV.out]
                rw [e]; exact hown5
              have hvn' : v' ≠ .slice none 0 0 := hnil
              have HW5 := Lib.hid (And.intro hown6 (And.intro hvn' hbel5))
              clear hown6 hvn' hbel5 hown5 hg hnil
              go_wp2_with fail
              go_roundw
              case rel =>
                obtain ⟨o1, o2, o3⟩ := HW5.out
                exact ⟨k + 1, by go_num, by omega, HALL.out, o1, o2, o3⟩
              case measure => simp [intOf]; omega
            · have GX := Lib.hid gx
              have GY := Lib.hid gy
              have EV := Lib.hid (show fireB t now fg fb (R k) = false by
                unfold fireB
                rw [← geqB_sm HX.out.2, ← geqB_sm HY.out.2]
                unfold geqB
                rw [GX.out, GY.out]; rfl)
              go_wp2_with (at_builtin; refine wpList_append_own _ rfl (.tmp 44) (.tmp 55) 47 rfl w.heap.size 4 i0 (.bool false) 1 1 Try.underlying47 hi hz0 hz1 hz2 rfl (by decide) _ _ _ rfl (HO4.out.alloc _) ⟨w4.heap.size, 0, none⟩ 1 1 [.bool false] rfl rfl ?cfalsetrue1 ?cfalsetrue2 ?cfalsetrue3 ?cfalsetrue4 ?cfalsetrue5 ?_)
              case cfalsetrue1 => intro m u hu; rcases m with _ | m <;> simp at hu; subst hu; exact cell_of_block (alloc_at _ _) 0
              case cfalsetrue2 => intro u hu; simp at hu; subst hu; rfl
              case cfalsetrue3 => simp only [maxLen]; omega
              case cfalsetrue4 => omega
              case cfalsetrue5 => have := HS4.out; simp; omega
              intro v' w5 hown5 hg hnil
              have hbel5 := (HB4.out.alloc HS4.out _).grown hg (by have := HS4.out; simp; omega) (fun q hq => (HO4.out.lt q hq).1)
              have hown6 : w5.ownsRow w.heap.size 4 1 v' (k + 1) (bl (fun i => fireB t now fg fb (R i)) (k + 1)) := by
                have e : bl (fun i => fireB t now fg fb (R i)) (k + 1) = bl (fun i => fireB t now fg fb (R i)) k ++ [.bool false] := by rw [bl, EV.out]
                rw [e]; exact hown5
              have hvn' : v' ≠ .slice none 0 0 := hnil
              have HW5 := Lib.hid (And.intro hown6 (And.intro hvn' hbel5))
              clear hown6 hvn' hbel5 hown5 hg hnil
              go_wp2_with fail
              go_roundw
              case rel =>
                obtain ⟨o1, o2, o3⟩ := HW5.out
                exact ⟨k + 1, by go_num, by omega, HALL.out, o1, o2, o3⟩
              case measure => simp [intOf]; omega
          · cases gy : (FloatKind.f64.format.order y (R k).2.2 == some .gt || FloatKind.f64.format.order y (R k).2.2 == some .eq)
            · have GX := Lib.hid gx
              have GY := Lib.hid gy
              have EV := Lib.hid (show fireB t now fg fb (R k) = false by
                unfold fireB
                rw [← geqB_sm HX.out.2, ← geqB_sm HY.out.2]
                unfold geqB
                rw [GX.out, GY.out]; rfl)
              go_wp2_with (at_builtin; refine wpList_append_own _ rfl (.tmp 44) (.tmp 55) 47 rfl w.heap.size 4 i0 (.bool false) 1 1 Try.underlying47 hi hz0 hz1 hz2 rfl (by decide) _ _ _ rfl (HO4.out.alloc _) ⟨w4.heap.size, 0, none⟩ 1 1 [.bool false] rfl rfl ?ctruefalse1 ?ctruefalse2 ?ctruefalse3 ?ctruefalse4 ?ctruefalse5 ?_)
              case ctruefalse1 => intro m u hu; rcases m with _ | m <;> simp at hu; subst hu; exact cell_of_block (alloc_at _ _) 0
              case ctruefalse2 => intro u hu; simp at hu; subst hu; rfl
              case ctruefalse3 => simp only [maxLen]; omega
              case ctruefalse4 => omega
              case ctruefalse5 => have := HS4.out; simp; omega
              intro v' w5 hown5 hg hnil
              have hbel5 := (HB4.out.alloc HS4.out _).grown hg (by have := HS4.out; simp; omega) (fun q hq => (HO4.out.lt q hq).1)
              have hown6 : w5.ownsRow w.heap.size 4 1 v' (k + 1) (bl (fun i => fireB t now fg fb (R i)) (k + 1)) := by
                have e : bl (fun i => fireB t now fg fb (R i)) (k + 1) = bl (fun i => fireB t now fg fb (R i)) k ++ [.bool false] := by rw [bl, EV.out]
                rw [e]; exact hown5
              have hvn' : v' ≠ .slice none 0 0 := hnil
              have HW5 := Lib.hid (And.intro hown6 (And.intro hvn' hbel5))
              clear hown6 hvn' hbel5 hown5 hg hnil
              go_wp2_with fail
              go_roundw
              case rel =>
                obtain ⟨o1, o2, o3⟩ := HW5.out
                exact ⟨k + 1, by go_num, by omega, HALL.out, o1, o2, o3⟩
              case measure => simp [intOf]; omega
            · have GX := Lib.hid gx
              have GY := Lib.hid gy
              have EV := Lib.hid (show fireB t now fg fb (R k) = true by
                unfold fireB
                rw [← geqB_sm HX.out.2, ← geqB_sm HY.out.2]
                unfold geqB
                rw [GX.out, GY.out]; rfl)
              go_wp2_with (at_builtin; refine wpList_append_own _ rfl (.tmp 44) (.tmp 55) 47 rfl w.heap.size 4 i0 (.bool false) 1 1 Try.underlying47 hi hz0 hz1 hz2 rfl (by decide) _ _ _ rfl (HO4.out.alloc _) ⟨w4.heap.size, 0, none⟩ 1 1 [.bool true] rfl rfl ?ctruetrue1 ?ctruetrue2 ?ctruetrue3 ?ctruetrue4 ?ctruetrue5 ?_)
              case ctruetrue1 => intro m u hu; rcases m with _ | m <;> simp at hu; subst hu; exact cell_of_block (alloc_at _ _) 0
              case ctruetrue2 => intro u hu; simp at hu; subst hu; rfl
              case ctruetrue3 => simp only [maxLen]; omega
              case ctruetrue4 => omega
              case ctruetrue5 => have := HS4.out; simp; omega
              intro v' w5 hown5 hg hnil
              have hbel5 := (HB4.out.alloc HS4.out _).grown hg (by have := HS4.out; simp; omega) (fun q hq => (HO4.out.lt q hq).1)
              have hown6 : w5.ownsRow w.heap.size 4 1 v' (k + 1) (bl (fun i => fireB t now fg fb (R i)) (k + 1)) := by
                have e : bl (fun i => fireB t now fg fb (R i)) (k + 1) = bl (fun i => fireB t now fg fb (R i)) k ++ [.bool true] := by rw [bl, EV.out]
                rw [e]; exact hown5
              have hvn' : v' ≠ .slice none 0 0 := hnil
              have HW5 := Lib.hid (And.intro hown6 (And.intro hvn' hbel5))
              clear hown6 hvn' hbel5 hown5 hg hnil
              go_wp2_with fail
              go_roundw
              case rel =>
                obtain ⟨o1, o2, o3⟩ := HW5.out
                exact ⟨k + 1, by go_num, by omega, HALL.out, o1, o2, o3⟩
              case measure => simp [intOf]; omega
        · have HN := Lib.hid (show ¬ allWin s R n from fun g => wy (g k hlt).2)
          clear wy
          go_wp2
          go_ret2
          exact ⟨HB4.out, Or.inr ⟨HN.out, rfl⟩⟩
      · have HN := Lib.hid (show ¬ allWin s R n from fun g => wx (g k hlt).1)
        clear wx
        have hy := HY.out
        clear HY
        rcases hy with ⟨wy, rfl, hsy⟩ | ⟨wy, rfl, rfl⟩
        · clear wy hsy
          go_wp2
          go_ret2
          exact ⟨HB4.out, Or.inr ⟨HN.out, rfl⟩⟩
        · clear wy
          go_wp2
          go_ret2
          exact ⟨HB4.out, Or.inr ⟨HN.out, rfl⟩⟩
    · have i1 : ¬ ((k : Int) < (n : Int)) := by omega
      have hkn : k = n := by omega
      subst hkn
      go_wp2
      go_ret2
      exact ⟨hbel, Or.inl ⟨hall, _, rfl, hown, hvn⟩⟩
end Go.Proofs.Ytmdfkljmgijdlaa
