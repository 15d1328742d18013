/- kinds.Check. -/
import Derived.Test.YtfmnbhhpimpjbaaGreatDoorTc
namespace Go.Proofs.YtfmnbhhpimpjbaaGreatDoor
open Go.RowKit
set_option linter.unusedVariables false

def longF (s : Sp) : Bool := s.items.any fun x => decide (4096 < x.size)
/-- What is wrong with a spec. -/
def checkF (s : Sp) : Int :=
  if ownF s = false ∨ 4096 < s.text.size ∨ 64 < s.items.length then 40
  else if longF s = true then 40
  else if bareF s (fieldsF s.kind s.number) = false then 40
  else if s.nil = true ∧ bareF s (48 :: if s.kind = 23 then [78] else []) = false then 40
  else if (if s.nil = true then 0 else mostF s.kind) < s.parts.length then 41 else 0

theorem longF_at {s : Sp} {k : Nat} (h : k < s.items.length) (hx : 4096 < (s.items.getD k ⟨#[]⟩).size) : longF s = true := by
  unfold longF
  rw [List.any_eq_true]
  refine ⟨s.items.getD k ⟨#[]⟩, ?_, by simpa using hx⟩
  rw [List.getD_eq_getElem?_getD, List.getElem?_eq_getElem h]
  exact List.getElem_mem h
theorem longF_no {s : Sp} (h : ∀ j, j < s.items.length → (s.items.getD j ⟨#[]⟩).size ≤ 4096) : longF s = false := by
  unfold longF
  rw [List.any_eq_false]
  intro x hx
  obtain ⟨i, hi, rfl⟩ := List.getElem_of_mem hx
  have := h i hi
  rw [List.getD_eq_getElem?_getD, List.getElem?_eq_getElem hi] at this
  simpa using this
theorem ite_len {c : Prop} [Decidable c] {a b : List UInt8} (h : a.length ≤ 4) (k : b.length ≤ 4) : (if c then a else b).length ≤ 4 := by split <;> assumption
theorem fieldsF_small (k n : Int) : (⟨(fieldsF k n).toArray⟩ : ByteArray).size ≤ 9223372036854775807 := by
  have : (fieldsF k n).length ≤ 4 := by
    unfold fieldsF boxF
    repeat' (first | exact (by decide) | apply ite_len)
  show (fieldsF k n).toArray.size ≤ _
  rw [List.size_toArray]; omega

set_option maxRecDepth 100000 in
set_option maxHeartbeats 16000000 in
theorem check_any (s : Sp) (hs : s.Ok) (ia : Option Addr) (ic : Nat) (pa : Option Addr) (pc : Nat) (w : World) (hI : ItemsIn w ia s.items) :
    Calls Tryz.prog 25 #[.agg (spC s ia ic pa pc)] w fun e w' => e = .returned (.int .i64 (checkF s)) ∧ Below w.heap.size w w' := by
  have hb0 : Below w.heap.size w (w.alloc (.cells (spC s ia ic pa pc) 34)) := (Below.refl _ _).alloc (Nat.le_refl _) _
  have H1 := Lib.hid (alloc_at w (.cells (spC s ia ic pa pc) 34))
  have hI1 := Lib.hid (hI.below hb0)
  have HO := Lib.hid (own_any s hs ia ic pa pc _ hI1.out)
  have ht := hs.text
  have hl := hs.items
  have hp := hs.parts
  have HS := Lib.hid hs
  clear hI hs hb0
  by_cases hA : ownF s = true ∧ ¬ 4096 < s.text.size ∧ ¬ 64 < s.items.length
  · obtain ⟨h1, h2, h3⟩ := hA
    have j2 : ¬ ((4096 : Int) < (s.text.size : Int)) := by omega
    have j3 : ¬ ((64 : Int) < (s.items.length : Int)) := by omega
    rw [h1] at HO
    have HA := Lib.hid (show ¬ (ownF s = false ∨ 4096 < s.text.size ∨ 64 < s.items.length) by rw [h1]; simp [h2, h3])
    clear h1
    unfold spC at *
    go_enter Tryz.func25, Tryz.ntmps25
    go_wp2_with ((with_reducible refine at_op (.load 34 (.tmp 1)) rfl ?_); refine wpList_load_row rfl 34 (.tmp 1) rfl w.heap.size rfl 34 _ (0, 0) _ H1.out Tryz.underlying34 rfl (by kernel_rfl) ?_)
    refine HO.out.mono ?_
    rintro e w2 ⟨rfl, b2⟩
    have s2 : w.heap.size < w2.heap.size := by have := b2.size; simp at this; omega
    have H2 := Lib.hid ((b2.block w.heap.size (by simp)).trans H1.out)
    have I2 := Lib.hid (hI1.out.below b2)
    have bel2 : Below w.heap.size w w2 := ((Below.refl _ _).alloc (Nat.le_refl _) _).trans (b2.mono (by simp))
    have hcell := fun i => cell_of_block H2.out i
    clear b2 H1 hI1 HO h2 h3
    go_wp2_with fail
    go_loopw [27] (fun i x => ∃ k : Nat, i = .int .i64 k ∧ k ≤ s.items.length ∧ (∀ j, j < k → (s.items.getD j ⟨#[]⟩).size ≤ 4096) ∧ w2 = x) (fun i _ => s.items.length - (intOf i).toNat)
    case atStart => exact ⟨0, rfl, by omega, fun j hj => by omega, rfl⟩
    case round =>
      obtain ⟨k, rfl, hk, hall, rfl⟩ := hrel
      by_cases hlt : k < s.items.length
      · obtain ⟨p, rfl, hq⟩ := I2.out (by omega)
        have ck := hq k hlt
        have i1 : (k : Int) < (s.items.length : Int) := by omega
        have HALL := Lib.hid hall
        obtain ⟨x, hx⟩ : ∃ x, x = s.items.getD k ⟨#[]⟩ := ⟨_, rfl⟩
        rw [← hx] at ck
        have hxs : x.size ≤ 9223372036854775807 := by
          rw [hx, List.getD_eq_getElem?_getD, List.getElem?_eq_getElem hlt]
          exact HS.out.word _ (List.getElem_mem hlt)
        have HX := Lib.hid hx
        by_cases hbig : 4096 < x.size
        · have i2 : (4096 : Int) < (x.size : Int) := by omega
          have HF := Lib.hid (show (40 : Int) = checkF s by
            unfold checkF
            rw [if_neg HA.out, if_pos (longF_at hlt (by rw [← HX.out]; exact hbig))])
          clear hq hall hx I2 hcell
          go_wp2
          go_ret
          exact ⟨by rw [← HF.out]; rfl, bel2⟩
        · have i2 : ¬ ((4096 : Int) < (x.size : Int)) := by omega
          clear hq hall hx I2 hcell
          go_wp2
          go_roundw
          case rel => exact ⟨k + 1, by go_num, by omega, fun j hj => by
            by_cases e : j = k
            · subst e; rw [← HX.out]; omega
            · exact HALL.out j (by omega), by first | rfl | trivial⟩
          case measure => simp [intOf]; omega
      · obtain rfl : k = s.items.length := by omega
        have HL := Lib.hid (longF_no hall)
        have KF := Lib.hid (fields_any s ia ic pa pc w2)
        clear hall hlt I2
        unfold spC at KF
        have HX := H2
        go_wp2_with ((with_reducible refine at_op (.load 34 (.tmp 1)) rfl ?_); refine wpList_load_row rfl 34 (.tmp 1) rfl w.heap.size rfl 34 _ (0, 0) _ HX.out Tryz.underlying34 rfl (by kernel_rfl) ?_)
        refine KF.out.mono ?_
        rintro e w3 ⟨rfl, b3⟩
        have s3 : w.heap.size < w3.heap.size := by have := b3.size; omega
        have H3 := Lib.hid ((b3.block w.heap.size s2).trans H2.out)
        have bel3 := bel2.trans (b3.mono bel2.size)
        have KB := Lib.hid (bare_any s HS.out ia ic pa pc ⟨(fieldsF s.kind s.number).toArray⟩ (fieldsF_small _ _) w3)
        clear KF b3 H2 HX hcell bel2
        have hcell := fun i => cell_of_block H3.out i
        have HX := H3
        unfold spC at KB
        go_wp2_with ((with_reducible refine at_op (.load 34 (.tmp 1)) rfl ?_); refine wpList_load_row rfl 34 (.tmp 1) rfl w.heap.size rfl 34 _ (0, 0) _ HX.out Tryz.underlying34 rfl (by kernel_rfl) ?_)
        refine KB.out.mono ?_
        rintro e w4 ⟨rfl, b4⟩
        have s4 : w.heap.size < w4.heap.size := by have := b4.size; omega
        have H4 := Lib.hid ((b4.block w.heap.size s3).trans H3.out)
        have bel4 := bel3.trans (b4.mono bel3.size)
        clear KB b4 H3 HX hcell bel3
        have hcell := fun i => cell_of_block H4.out i
        have HX := H4
        cases hB : bareF s (fieldsF s.kind s.number)
        · have HF := Lib.hid (show (40 : Int) = checkF s by
            unfold checkF
            rw [if_neg HA.out, if_neg (by rw [HL.out]; simp), if_pos hB])
          clear hB
          go_wp2
          go_ret
          exact ⟨by rw [← HF.out]; rfl, bel4⟩
        · have HB := Lib.hid hB
          clear hB
          have KP := Lib.hid (parts_any s.kind w4)
          cases hn : s.nil
          · rw [hn] at hcell
            go_wp2_with fail
            refine KP.out.mono ?_
            rintro e w5 ⟨rfl, rfl⟩
            by_cases hm : mostF s.kind < s.parts.length
            · have HF := Lib.hid (show (41 : Int) = checkF s by
                unfold checkF
                rw [if_neg HA.out, if_neg (by rw [HL.out]; simp), if_neg (by rw [HB.out]; simp)]
                simp only [hn, Bool.false_eq_true, false_and, if_false]
                rw [if_pos hm])
              clear hn KP
              go_wp2
              go_ret
              exact ⟨by rw [← HF.out]; rfl, bel4⟩
            · have HF := Lib.hid (show (0 : Int) = checkF s by
                unfold checkF
                rw [if_neg HA.out, if_neg (by rw [HL.out]; simp), if_neg (by rw [HB.out]; simp)]
                simp only [hn, Bool.false_eq_true, false_and, if_false]
                rw [if_neg hm])
              clear hn KP
              go_wp2
              go_ret
              exact ⟨by rw [← HF.out]; rfl, bel4⟩
          · rw [hn] at hcell
            by_cases h23 : s.kind = 23
            · have i23 : (s.kind == 23) = true := by simpa using h23
              have HE := Lib.hid (show (48 :: if s.kind = 23 then [78] else []) = ([48, 78] : List UInt8) by rw [if_pos h23])
              have KB2 := Lib.hid (bare_any s HS.out ia ic pa pc (⟨#[48]⟩ ++ ⟨#[78]⟩) (by decide) w4)
              rw [show ((⟨#[48]⟩ ++ ⟨#[78]⟩ : ByteArray)).data.toList = [48, 78] from rfl] at KB2
              unfold spC at KB2
              rw [hn] at KB2
              clear h23
              go_wp2_with ((with_reducible refine at_op (.load 34 (.tmp 1)) rfl ?_); refine wpList_load_row rfl 34 (.tmp 1) rfl w.heap.size rfl 34 _ (0, 0) _ HX.out Tryz.underlying34 rfl (by kernel_rfl) ?_)
              refine KB2.out.mono ?_
              rintro e w5 ⟨rfl, b5⟩
              have H5 := Lib.hid ((b5.block w.heap.size s4).trans H4.out)
              have bel5 := bel4.trans (b5.mono bel4.size)
              have KP5 := Lib.hid (parts_any s.kind w5)
              rw [hn] at H5
              clear KB2 b5 H4 HX hcell bel4 KP
              have hcell := fun i => cell_of_block H5.out i
              cases hB2 : bareF s [48, 78]
              · have HF := Lib.hid (show (40 : Int) = checkF s by
                  unfold checkF
                  rw [if_neg HA.out, if_neg (by rw [HL.out]; simp), if_neg (by rw [HB.out]; simp), if_pos ⟨hn, by rw [HE.out]; exact hB2⟩])
                clear hB2 hn
                go_wp2
                go_ret
                exact ⟨by rw [← HF.out]; rfl, bel5⟩
              · have HG := Lib.hid (show ¬ (s.nil = true ∧ bareF s (48 :: if s.kind = 23 then [78] else []) = false) by rw [HE.out, hB2]; simp)
                have HN := Lib.hid hn
                clear hB2 hn
                go_wp2_with fail
                refine KP5.out.mono ?_
                rintro e w6 ⟨rfl, rfl⟩
                by_cases hm : (0 : Int) < s.parts.length
                · have HF := Lib.hid (show (41 : Int) = checkF s by
                    unfold checkF
                    rw [if_neg HA.out, if_neg (by rw [HL.out]; simp), if_neg (by rw [HB.out]; simp), if_neg HG.out]
                    simp only [HN.out, if_true]
                    rw [if_pos hm])
                  clear KP5
                  go_wp2
                  go_ret
                  exact ⟨by rw [← HF.out]; rfl, bel5⟩
                · have HF := Lib.hid (show (0 : Int) = checkF s by
                    unfold checkF
                    rw [if_neg HA.out, if_neg (by rw [HL.out]; simp), if_neg (by rw [HB.out]; simp), if_neg HG.out]
                    simp only [HN.out, if_true]
                    rw [if_neg hm])
                  clear KP5
                  go_wp2
                  go_ret
                  exact ⟨by rw [← HF.out]; rfl, bel5⟩
            · have i23 : (s.kind == 23) = false := by simpa using h23
              have HE := Lib.hid (show (48 :: if s.kind = 23 then [78] else []) = ([48] : List UInt8) by rw [if_neg h23])
              have KB2 := Lib.hid (bare_any s HS.out ia ic pa pc (⟨#[48]⟩ ++ ⟨#[]⟩) (by decide) w4)
              rw [show ((⟨#[48]⟩ ++ ⟨#[]⟩ : ByteArray)).data.toList = [48] from rfl] at KB2
              unfold spC at KB2
              rw [hn] at KB2
              clear h23
              go_wp2_with ((with_reducible refine at_op (.load 34 (.tmp 1)) rfl ?_); refine wpList_load_row rfl 34 (.tmp 1) rfl w.heap.size rfl 34 _ (0, 0) _ HX.out Tryz.underlying34 rfl (by kernel_rfl) ?_)
              refine KB2.out.mono ?_
              rintro e w5 ⟨rfl, b5⟩
              have H5 := Lib.hid ((b5.block w.heap.size s4).trans H4.out)
              have bel5 := bel4.trans (b5.mono bel4.size)
              have KP5 := Lib.hid (parts_any s.kind w5)
              rw [hn] at H5
              clear KB2 b5 H4 HX hcell bel4 KP
              have hcell := fun i => cell_of_block H5.out i
              cases hB2 : bareF s [48]
              · have HF := Lib.hid (show (40 : Int) = checkF s by
                  unfold checkF
                  rw [if_neg HA.out, if_neg (by rw [HL.out]; simp), if_neg (by rw [HB.out]; simp), if_pos ⟨hn, by rw [HE.out]; exact hB2⟩])
                clear hB2 hn
                go_wp2
                go_ret
                exact ⟨by rw [← HF.out]; rfl, bel5⟩
              · have HG := Lib.hid (show ¬ (s.nil = true ∧ bareF s (48 :: if s.kind = 23 then [78] else []) = false) by rw [HE.out, hB2]; simp)
                have HN := Lib.hid hn
                clear hB2 hn
                go_wp2_with fail
                refine KP5.out.mono ?_
                rintro e w6 ⟨rfl, rfl⟩
                by_cases hm : (0 : Int) < s.parts.length
                · have HF := Lib.hid (show (41 : Int) = checkF s by
                    unfold checkF
                    rw [if_neg HA.out, if_neg (by rw [HL.out]; simp), if_neg (by rw [HB.out]; simp), if_neg HG.out]
                    simp only [HN.out, if_true]
                    rw [if_pos hm])
                  clear KP5
                  go_wp2
                  go_ret
                  exact ⟨by rw [← HF.out]; rfl, bel5⟩
                · have HF := Lib.hid (show (0 : Int) = checkF s by
                    unfold checkF
                    rw [if_neg HA.out, if_neg (by rw [HL.out]; simp), if_neg (by rw [HB.out]; simp), if_neg HG.out]
                    simp only [HN.out, if_true]
                    rw [if_neg hm])
                  clear KP5
                  go_wp2
                  go_ret
                  exact ⟨by rw [← HF.out]; rfl, bel5⟩
  · have HF := Lib.hid (show (40 : Int) = checkF s by
      unfold checkF
      rw [if_pos]
      cases h : ownF s
      · exact Or.inl rfl
      · by_cases h2 : 4096 < s.text.size
        · exact Or.inr (Or.inl h2)
        · exact Or.inr (Or.inr (by
            by_cases h3 : 64 < s.items.length
            · exact h3
            · exact absurd ⟨h, h2, h3⟩ hA)))
    have HA2 := Lib.hid hA
    clear hA
    unfold spC at *
    cases hO : ownF s
    · rw [hO] at HO
      clear hO
      go_enter Tryz.func25, Tryz.ntmps25
      have HX := H1
      go_wp2_with ((with_reducible refine at_op (.load 34 (.tmp 1)) rfl ?_); refine wpList_load_row rfl 34 (.tmp 1) rfl w.heap.size rfl 34 _ (0, 0) _ HX.out Tryz.underlying34 rfl (by kernel_rfl) ?_)
      refine HO.out.mono ?_
      rintro e w2 ⟨rfl, b2⟩
      have bel2 : Below w.heap.size w w2 := ((Below.refl _ _).alloc (Nat.le_refl _) _).trans (b2.mono (by simp))
      clear b2 HO
      go_wp2
      go_ret
      exact ⟨by rw [← HF.out]; rfl, bel2⟩
    · rw [hO] at HO
      have HO2 := Lib.hid hO
      clear hO
      go_enter Tryz.func25, Tryz.ntmps25
      have HX := H1
      go_wp2_with ((with_reducible refine at_op (.load 34 (.tmp 1)) rfl ?_); refine wpList_load_row rfl 34 (.tmp 1) rfl w.heap.size rfl 34 _ (0, 0) _ HX.out Tryz.underlying34 rfl (by kernel_rfl) ?_)
      refine HO.out.mono ?_
      rintro e w2 ⟨rfl, b2⟩
      have bel2 : Below w.heap.size w w2 := ((Below.refl _ _).alloc (Nat.le_refl _) _).trans (b2.mono (by simp))
      have H2 := Lib.hid ((b2.block w.heap.size (by simp)).trans H1.out)
      have hcell := fun i => cell_of_block H2.out i
      clear b2 HO
      by_cases h2 : 4096 < s.text.size
      · have j2 : (4096 : Int) < (s.text.size : Int) := by omega
        go_wp2
        go_ret
        exact ⟨by rw [← HF.out]; rfl, bel2⟩
      · by_cases h3 : 64 < s.items.length
        · have j2 : ¬ ((4096 : Int) < (s.text.size : Int)) := by omega
          have j3 : (64 : Int) < (s.items.length : Int) := by omega
          go_wp2
          go_ret
          exact ⟨by rw [← HF.out]; rfl, bel2⟩
        · exact absurd ⟨HO2.out, h2, h3⟩ HA2.out
end Go.Proofs.YtfmnbhhpimpjbaaGreatDoor
