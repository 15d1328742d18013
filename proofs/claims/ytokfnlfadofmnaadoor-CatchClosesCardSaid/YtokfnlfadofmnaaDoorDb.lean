/- catch.Check and catch.Run where they refuse; Closing of nothing. -/
import Derived.Test.YtokfnlfadofmnaaDoorDa
import Derived.Test.YtokfnlfadofmnaaDoorCq
namespace Go.Proofs.YtokfnlfadofmnaaDoor
open Go.RowKit
set_option linter.unusedVariables false

set_option maxRecDepth 100000 in
theorem check_nilbook (v : Value) (w : World) : Calls Tryd.prog 12 #[.pointer none, v] w fun e w' => e = .returned (.tuple #[.int .i64 0, .int .i64 0, .int .i64 2]) ∧ w = w' := by
  have hnil : ∀ w, (binOp .eql 22 (.pointer none) (.pointer none)).run Tryd.prog w = .ok (.bool true) w := fun w => by rfl
  go_enter Tryd.func12, Tryd.ntmps12
  go_wp2
  go_ret3
  exact ⟨rfl, rfl⟩
set_option maxRecDepth 100000 in
set_option maxHeartbeats 4000000 in
theorem check_none (bb : Addr) (w : World) : Calls Tryd.prog 12 #[.pointer (some bb), .slice none 0 0] w fun e w' => e = .returned (.tuple #[.int .i64 0, .int .i64 0, .int .i64 1]) ∧ w = w' := by
  have hnil : ∀ w, (binOp .eql 22 (.pointer (some bb)) (.pointer none)).run Tryd.prog w = .ok (.bool false) w := fun w => by rfl
  go_enter Tryd.func12, Tryd.ntmps12
  go_wp2
  go_loop [7, 21] (fun m i => i = .int .i64 0 ∧ m = .int .i64 0) (fun _ i => 0)
  case atStart => exact ⟨rfl, rfl⟩
  case round =>
    obtain ⟨rfl, rfl⟩ := hrel
    go_wp2
    go_ret3
    exact ⟨rfl, rfl⟩
set_option maxRecDepth 100000 in
set_option maxHeartbeats 4000000 in
theorem check_bad {w : World} {FB cap : Nat} {F : List (List Stp)} {bb : Addr} (hF : FV w FB cap F) (h0 : 0 < F.length) (h64 : F.length ≤ 1000) (htot : totL F F.length ≤ 1000000) (h : 64 < F.length ∨ F.length ≤ 64 ∧ 10000 < totL F F.length) :
    Calls Tryd.prog 12 #[.pointer (some bb), .slice (some ⟨FB, 0, none⟩) F.length cap] w fun e w' => e = .returned (.tuple #[.int .i64 0, .int .i64 0, .int .i64 1]) ∧ w = w' := by
  have hnil : ∀ w, (binOp .eql 22 (.pointer (some bb)) (.pointer none)).run Tryd.prog w = .ok (.bool false) w := fun w => by rfl
  have HFV := Lib.hid hF
  have HH := Lib.hid h
  clear hF h
  go_enter Tryd.func12, Tryd.ntmps12
  go_wp2
  go_loop [7, 21] (fun m i => ∃ k : Nat, k ≤ F.length ∧ i = .int .i64 k ∧ m = .int .i64 (totL F k)) (fun _ i => F.length - (intOf i).toNat)
  case atStart => exact ⟨0, Nat.zero_le _, rfl, rfl⟩
  case round =>
    obtain ⟨k, hk, rfl, rfl⟩ := hrel
    by_cases hlt : k < F.length
    · obtain ⟨sa, sp, hc, -⟩ := HFV.out.row hlt
      have hT2 : totL F (k + 1) ≤ 1000000 := Nat.le_trans (totL_mono F (by omega)) htot
      obtain ⟨L, hL⟩ : ∃ L, (F.getD k []).length = L := ⟨_, rfl⟩
      have hT : totL F (k + 1) = totL F k + L := by rw [totL, hL]
      rw [hT] at hT2
      rw [hL] at hc
      have HT := Lib.hid hT
      clear hT hL
      go_wp2
      go_round
      case rel => exact ⟨k + 1, by omega, by go_num, by rw [HT.out]; go_num⟩
      case measure => simp [intOf]; omega
    · obtain rfl : k = F.length := by omega
      have hz : ((F.length : Int) == 0) = false := by rw [beq_eq_false_iff_ne]; omega
      rcases HH.out with h | ⟨h1, h2⟩
      · have hz2 : decide (((F.length : Nat) : Int) > 64) = true := decide_eq_true (by omega)
        go_wp2
        go_ret3
        exact ⟨rfl, rfl⟩
      · have hz2 : decide (((F.length : Nat) : Int) > 64) = false := decide_eq_false (by omega)
        have hz3 : decide (((totL F F.length : Nat) : Int) > 10000) = true := decide_eq_true (by omega)
        go_wp2
        go_ret3
        exact ⟨rfl, rfl⟩
set_option maxRecDepth 100000 in
theorem run_nilbook (w : World) : Calls Tryd.prog 7 #[.pointer none, .slice none 0 0] w fun e w' => e = .returned (.tuple #[.agg (resC 0 0 Pan.none (.slice none 0 0) 0), .int .i64 2]) ∧ Below w.heap.size w w' := by
  go_enter Tryd.func7, Tryd.ntmps7
  go_wp2_with (go_at_call 12; refine (check_nilbook _ _).mono ?_; rintro e w2 ⟨rfl, rfl⟩)
  have hr := results_row_tmp (P := Tryd.prog) (fn := Tryd.f7) (p := 4) (u := 5) (ty := 32) rfl
  refine bodyPost_ret (v := .tuple #[.agg (resC 0 0 Pan.none (.slice none 0 0) 0), .int .i64 2]) (results_row_tmp (fn := Tryd.f7) rfl _ _ w.heap.size 32 (resC 0 0 Pan.none (.slice none 0 0) 0) (0, 0) _ rfl (alloc_at _ _) Tryd.underlying32 rfl (by kernel_rfl)) rfl ?_
  exact ⟨rfl, (Below.refl _ _).alloc (Nat.le_refl _) _⟩
end Go.Proofs.YtokfnlfadofmnaaDoor
