/- grasp: what each statement asks first: its walk. -/
import Derived.Test.YtfmnbhhpimpjbaaGreatDoorGs
import Derived.Test.YtfmnbhhpimpjbaaGreatDoorShelf
namespace Go.Proofs.YtfmnbhhpimpjbaaGreatDoor
open Go.RowKit
set_option linter.unusedVariables false

theorem itoa5 (W : World) : ItoaC W 5 := fun w' _ => (Tryz.strconv_Itoa_small 5 (by decide) w').mono fun e w'' ⟨he, hw⟩ => ⟨by rw [he]; unfold itoaB; rw [show Lib.decDigits 5 = Lib.itoa 5 by decide +kernel], by rw [hw]; exact Below.refl _ _⟩
theorem parts_new (w : World) (t : TypeId) : PartsIn (w.alloc (.cells #[.int .i64 1] t)) (some ⟨w.heap.size, 0, none⟩) [1] := fun _ => ⟨_, rfl, fun i hi => by
  have : i = 0 := by simp at hi; exact hi
  subst this
  rw [show ((⟨w.heap.size, 0, none⟩ : Addr).add 0) = ⟨w.heap.size, 0 + 0, none⟩ from Go.WideShapes.add_plain _ _ _, cell_of_block (alloc_at _ _)]; rfl⟩
def Tz : Txt := ⟨fun _ => ⟨#[]⟩, fun _ _ => ⟨#[]⟩, fun _ _ => ⟨#[]⟩⟩
set_option maxRecDepth 100000 in
set_option maxHeartbeats 4000000 in
theorem works_walk (w : World) : Calls Tryz.prog 23 #[] w fun e w' => e = .returned (.bool true) ∧ Below w.heap.size w w' := by
  have hkind : ∀ (n : Int) (w : World), Calls Tryz.prog 195 #[.int .i16 n] w fun e w' => e = .returned (.int .u8 1) ∧ w = w' := fun n w => by
    go_enter Tryz.func195, Tryz.ntmps195
    go_wp2
    go_ret
    exact ⟨rfl, rfl⟩
  have HN := Lib.hid (wk_new w w (Below.refl _ _))
  go_enter Tryz.func23, Tryz.ntmps23
  go_wp2_with fail
  refine HN.out.mono ?_
  rintro e w1 ⟨bb, rfl, hk1, hb1⟩
  have K1 := Lib.hid (wk_make w Tz s1 s1_ok (kind_leaf w Tz s1 s1_ok s1_chk (.inl rfl) (.inl rfl) rfl (fun _ => itoa5 w)) none 0 none 0 (fun _ => rfl) (fun _ => rfl) w1 hk1.bel hk1 (fun h => by simp [s1] at h) (fun h => by simp [s1] at h) (fun h hh => by simp [s1] at hh) s1_chk (mk1 Tz).1)
  clear hk1 hb1 HN
  go_wp2_with fail
  refine K1.out.mono ?_
  rintro e w2 ⟨r1, rfl, hk2, hr1, hn1⟩
  have f1 : r1.size = 1 := by rw [hn1.size, hr1]; rfl
  have f2 : r1.depth = 1 := by rw [hn1.depth, hr1]; rfl
  have f3 : 0 ≤ r1.long ∧ r1.long ≤ 30 := by rw [hn1.long, hr1]; exact ⟨(mk1 Tz).2.2, (mk1 Tz).2.1⟩
  have f4 : r1.words = 0 := by rw [hn1.words, hr1]; rfl
  have hk2' : Wk w bb [r1] (w2.alloc (.cells #[.int .i64 1] 3)) := hk2.below ((Below.refl _ _).alloc (Nat.le_refl _) _)
  have K2 := Lib.hid (wk_make w Tz s2 s2_ok (kind_around w Tz s2 s2_ok s2_chk (by unfold aroundK; decide) rfl) none 0 (some ⟨w2.heap.size, 0, none⟩) 1 (fun _ => rfl) (fun h => by cases h) _ hk2'.bel hk2' (fun h => by simp [s2] at h) (parts_new w2 _) (fun h hh => by simp [s2] at hh; subst hh; simp) s2_chk (mk2 Tz r1 [] s2 (.inl rfl) rfl (by simp) f1 f2 f3 f4))
  have F := Lib.hid (And.intro f1 (And.intro f2 (And.intro f3 f4)))
  have HR1 := Lib.hid hr1
  clear hk2 hk2' hn1 f1 f2 f3 f4 hr1 K1
  go_wp2_with fail
  refine K2.out.mono ?_
  rintro e w3 ⟨r2, rfl, hk3, hr2, hn2⟩
  have hk3' : Wk w bb [r1, r2] (w3.alloc (.cells #[.int .i64 1] 3)) := Wk.below hk3 ((Below.refl _ _).alloc (Nat.le_refl _) _)
  have K3 := Lib.hid (wk_make w Tz s3 s3_ok (kind_around w Tz s3 s3_ok s3_chk (by unfold aroundK; decide) rfl) none 0 (some ⟨w3.heap.size, 0, none⟩) 1 (fun _ => rfl) (fun h => by cases h) _ hk3'.bel hk3' (fun h => by simp [s3] at h) (parts_new w3 _) (fun h hh => by simp [s3] at hh; subst hh; simp) s3_chk (mk2 Tz r1 [r2] s3 (.inr rfl) rfl (by simp) F.out.1 F.out.2.1 F.out.2.2.1 F.out.2.2.2))
  have HR2 := Lib.hid hr2
  clear hk3 hk3' hn2 hr2 K2
  go_wp2_with fail
  refine K3.out.mono ?_
  rintro e w4 ⟨r3, rfl, hk4, hr3, hn3⟩
  have H3 := Lib.hid (show Three r1 r2 r3 by obtain ⟨D, hD⟩ := hk4.row; exact three_of hD HR1.out HR2.out hr3)
  have HK4 := Lib.hid (show Wk w bb [r1, r2, r3] w4 from hk4)
  clear hk4 hr3 hn3 K3 F HR1 HR2
  have C1 := Lib.hid (show Calls Tryz.prog 39 #[.pointer (some ⟨bb, 0, none⟩), .int .i64 2] w4 fun e w' => e = .returned (.tuple #[.int .i16 5, .int .i64 1, .int .i64 0]) ∧ Below w4.heap.size w4 w' by
    obtain ⟨D, v, hB, hD, _⟩ := HK4.out
    exact find_Code_some 2 w4 hB hD (by rw [nodes3_2 H3.out]; decide) (one3 H3.out 2 (.inl rfl)) rfl 1 5 [] (found3_2 H3.out))
  go_wp2_with fail
  refine C1.out.mono ?_
  rintro e w5 ⟨rfl, hb5⟩
  have HK5 := Lib.hid (HK4.out.below hb5)
  clear hb5 C1 HK4
  have C2 := Lib.hid (show Calls Tryz.prog 39 #[.pointer (some ⟨bb, 0, none⟩), .int .i64 3] w5 fun e w' => e = .returned (.tuple #[.int .i16 0, .int .i64 0, .int .i64 100]) ∧ Below w5.heap.size w5 w' by
    obtain ⟨D, v, hB, hD, _⟩ := HK5.out
    exact find_Code_none 3 w5 hB hD (by rw [nodes3_3 H3.out]; decide) (one3 H3.out 3 (.inr rfl)) rfl (found3_3 H3.out))
  go_wp2_with fail
  refine C2.out.mono ?_
  rintro e w6 ⟨rfl, hb6⟩
  have HK6 := Lib.hid (HK5.out.below hb6)
  clear hb6 C2 HK5
  have C3 := Lib.hid (show Calls Tryz.prog 40 #[.pointer (some ⟨bb, 0, none⟩), .int .i64 1] w6 fun e w' => e = .returned (.tuple #[.iface 91 (.int .i16 5), .agg panZ, .int .i64 0]) ∧ Below w6.heap.size w6 w' by
    obtain ⟨D, v, hB, hD, _⟩ := HK6.out
    exact must_graded_yes 1 w6 hB rfl _ (fun w => by rw [err3_1 H3.out]; exact face_yes (by kernel_rfl) false))
  unfold panZ at C3
  go_wp2_with fail
  refine C3.out.mono ?_
  rintro e w7 ⟨rfl, hb7⟩
  have HK7 := Lib.hid (HK6.out.below hb7)
  clear hb7 C3 HK6
  go_wp2_with ((with_reducible refine at_op (.store 44 (.tmp 11) (.tmp 71)) rfl ?_); refine wpList_store_new rfl 44 (.tmp 11) (.tmp 71) rfl w7.heap.size rfl _ _ rfl _ rfl (by kernel_rfl) rfl (by simp [Value.oneCell']) ?_)
  have ha7 := alloc_at w7 (.cells #[.int .i64 0, .string ⟨#[]⟩, .int .i64 0] 44)
  have HK8 := Lib.hid (HK7.out.below ((Below.refl _ _).alloc (Nat.le_refl _) (.cells #[.int .i64 0, .string ⟨#[]⟩, .int .i64 0] 44)))
  have C4 := Lib.hid (show Calls Tryz.prog 41 #[.pointer (some ⟨bb, 0, none⟩), .int .i64 0] (w7.alloc (.cells #[.int .i64 0, .string ⟨#[]⟩, .int .i64 0] 44)) fun e w' => e = .returned (.tuple #[.nilIface, .agg panRt, .int .i64 0]) ∧ Below (w7.alloc (.cells #[.int .i64 0, .string ⟨#[]⟩, .int .i64 0] 44)).heap.size (w7.alloc (.cells #[.int .i64 0, .string ⟨#[]⟩, .int .i64 0] 44)) w' by
    obtain ⟨D, v, hB, hD, _⟩ := HK8.out
    exact must_any_no _ hB)
  have HA7 := Lib.hid ha7
  unfold panRt at C4
  clear ha7
  refine C4.out.mono ?_
  rintro e w8 ⟨rfl, hb8⟩
  have HA8 := Lib.hid ((hb8.block _ (lt_of_at HA7.out)).trans HA7.out)
  have HK9 := Lib.hid (HK8.out.below hb8)
  have hs8 := lt_of_at HA8.out
  clear hb8 C4 HK8 HA7 HK7
  go_wp2_with ((with_reducible refine at_op (.store 44 (.tmp 13) (.tmp 77)) rfl ?_); refine wpList_store_new rfl 44 (.tmp 13) (.tmp 77) rfl w8.heap.size rfl _ _ rfl _ rfl (by kernel_rfl) rfl (by simp [Value.oneCell']) ?_)
  have hb9 : Below w8.heap.size w8 (w8.alloc (.cells #[.int .i64 2, .string ⟨#[]⟩, .int .i64 0] 44)) := (Below.refl _ _).alloc (Nat.le_refl _) _
  have HK10 := Lib.hid (HK9.out.below hb9)
  have HB8 := Lib.hid (alloc_at w8 (.cells #[.int .i64 2, .string ⟨#[]⟩, .int .i64 0] 44))
  have HA9 := Lib.hid ((hb9.block _ hs8).trans HA8.out)
  have C5 := Lib.hid (show Calls Tryz.prog 42 #[.pointer (some ⟨bb, 0, none⟩), .int .i64 1] (w8.alloc (.cells #[.int .i64 2, .string ⟨#[]⟩, .int .i64 0] 44)) fun e w' => e = .returned (.tuple #[.int .i64 2, .int .i64 0]) ∧ Below (w8.alloc (.cells #[.int .i64 2, .string ⟨#[]⟩, .int .i64 0] 44)).heap.size (w8.alloc (.cells #[.int .i64 2, .string ⟨#[]⟩, .int .i64 0] 44)) w' by
    obtain ⟨D, v, hB, hD, _⟩ := HK10.out
    exact which_code 1 _ hB rfl 5 (err3_1 H3.out))
  clear hb9 HA8 HK9 hs8
  refine C5.out.mono ?_
  rintro e w9 ⟨rfl, hb9⟩
  have HA10 := Lib.hid ((hb9.block _ (lt_of_at HA9.out)).trans HA9.out)
  have HB10 := Lib.hid ((hb9.block _ (lt_of_at HB8.out)).trans HB8.out)
  have HK11 := Lib.hid (HK10.out.below hb9)
  have k7 : w9.cell? ⟨w7.heap.size, 0, none⟩ = some (.int .i64 0) := cell_of_block HA10.out 0
  have k8 : w9.cell? ⟨w8.heap.size, 0, none⟩ = some (.int .i64 2) := cell_of_block HB10.out 0
  have hm : ∀ (n : Nat) (k : Int) (w : World), (method (n + 1) 91 (.int .i16 k) "Kind").run Tryz.prog w = .ok (195, .int .i16 k) w := fun _ _ _ => by kernel_rfl
  have hni : ∀ w, (binOp .neq 95 (.iface 91 (.int .i16 5)) .nilIface).run Tryz.prog w = .ok (.bool true) w := fun w => by rfl
  clear hb9 C5 HK10 HB8 HA9
  go_wp2_with (go_at_call 195; refine (hkind _ _).mono ?_; rintro e w' ⟨rfl, rfl⟩)
  go_ret
  exact ⟨rfl, HK11.out.bel⟩
end Go.Proofs.YtfmnbhhpimpjbaaGreatDoor
