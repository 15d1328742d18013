/- catch.Check of functions that may be. -/
import Derived.Test.YtokfnlfadofmnaaDoorCl
import Derived.Deep.LoopGhost
namespace Go.Proofs.YtokfnlfadofmnaaDoor
open Go.RowKit
set_option linter.unusedVariables false

def totL (F : List (List Stp)) : Nat → Nat
  | 0 => 0
  | k + 1 => totL F k + (F.getD k []).length
theorem totL_mono (F : List (List Stp)) {j k : Nat} (h : j ≤ k) : totL F j ≤ totL F k := by
  induction k with
  | zero => obtain rfl : j = 0 := by omega
            exact Nat.le_refl _
  | succ k ih =>
    by_cases e : j = k + 1
    · subst e; exact Nat.le_refl _
    · exact Nat.le_trans (ih (by omega)) (Nat.le_add_right _ _)

/-- Functions in memory, by their value. -/
def FV (w : World) (FB cap : Nat) (F : List (List Stp)) : Prop :=
  ∃ cur, w.heap[FB]? = some (.cells cur 24 (0, 0)) ∧ F.length ≤ cap ∧ cap ≤ maxLen ∧
    ∀ i, i < F.length → ∃ v, cur[i]? = some v ∧ w.ownsRow 0 27 4 v (F.getD i []).length (sc (F.getD i []))
theorem FV.below {w w' : World} {FB cap : Nat} {F : List (List Stp)} (h : FV w FB cap F) (hb : Below w.heap.size w w') : FV w' FB cap F := by
  obtain ⟨cur, h1, h2, h3, h4⟩ := h
  refine ⟨cur, by rw [hb.block _ (Array.getElem?_eq_some_iff.1 h1).1]; exact h1, h2, h3, fun i hi => ?_⟩
  obtain ⟨v, e1, e2⟩ := h4 i hi
  exact ⟨v, e1, owns_keep e2 fun b cur e => hb.block _ (Array.getElem?_eq_some_iff.1 e).1⟩
theorem FV.row {w : World} {FB cap : Nat} {F : List (List Stp)} (h : FV w FB cap F) {i : Nat} (hi : i < F.length) : ∃ sa sp, w.cell? ⟨FB, i, none⟩ = some (.slice sa (F.getD i []).length sp) ∧ w.ownsRow 0 27 4 (.slice sa (F.getD i []).length sp) (F.getD i []).length (sc (F.getD i [])) := by
  obtain ⟨cur, h1, h2, h3, h4⟩ := h
  obtain ⟨v, e1, e2⟩ := h4 i hi
  obtain ⟨sa, sp, rfl⟩ := own_form e2
  exact ⟨sa, sp, by rw [cell_of_block h1]; exact e1, e2⟩

set_option maxRecDepth 100000 in
set_option maxHeartbeats 4000000 in
theorem check_ok {w : World} {FB cap : Nat} {F : List (List Stp)} {bb : Addr} (hF : FV w FB cap F) (h0 : 0 < F.length) (h64 : F.length ≤ 64) (htot : totL F F.length ≤ 10000) (hP : progOk F = true) :
    Calls Tryd.prog 12 #[.pointer (some bb), .slice (some ⟨FB, 0, none⟩) F.length cap] w fun e w' => e = .returned (.tuple #[.int .i64 0, .int .i64 0, .int .i64 0]) ∧ Below w.heap.size w w' := by
  have hnil : ∀ w, (binOp .eql 22 (.pointer (some bb)) (.pointer none)).run Tryd.prog w = .ok (.bool false) w := fun w => by rfl
  have HP := Lib.hid hP
  have HFV := Lib.hid hF
  clear hP hF
  go_enter Tryd.func12, Tryd.ntmps12
  go_wp2
  go_loop [7, 21] (fun m i => ∃ k : Nat, k ≤ F.length ∧ i = .int .i64 k ∧ m = .int .i64 (totL F k)) (fun _ i => F.length - (intOf i).toNat)
  case atStart => exact ⟨0, Nat.zero_le _, rfl, rfl⟩
  case round =>
    obtain ⟨k, hk, rfl, rfl⟩ := hrel
    by_cases hlt : k < F.length
    · obtain ⟨sa, sp, hc, -⟩ := HFV.out.row hlt
      have hT2 : totL F (k + 1) ≤ 10000 := Nat.le_trans (totL_mono F (by omega)) htot
      obtain ⟨L, hL⟩ : ∃ L, (F.getD k []).length = L := ⟨_, rfl⟩
      have hT : totL F (k + 1) = totL F k + L := by rw [totL, hL]
      rw [hT] at hT2
      rw [hL] at hc
      have HT := Lib.hid hT
      clear hT hL
      go_wp2
      go_round
      case rel => exact ⟨k + 1, by omega, by go_num, by rw [HT.out]; go_num⟩
      case measure => simp [intOf]; omega
    · obtain rfl : k = F.length := by omega
      have hz : ((F.length : Int) == 0) = false := by rw [beq_eq_false_iff_ne]; omega
      have hz2 : decide (((F.length : Nat) : Int) > 64) = false := decide_eq_false (by omega)
      have hz3 : decide (((totL F F.length : Nat) : Int) > 10000) = false := decide_eq_false (by omega)
      go_wp2
      go_loopw [44] (fun i wr => ∃ k : Nat, k ≤ F.length ∧ i = .int .i64 k ∧ Below w.heap.size w wr) (fun i _ => F.length - (intOf i).toNat)
      case atStart => exact ⟨0, Nat.zero_le _, rfl, Below.refl _ _⟩
      case round =>
        obtain ⟨k, hk, rfl, hbw⟩ := hrel
        obtain ⟨wo, rfl⟩ : ∃ wo : World, wo = wr := ⟨_, rfl⟩
        by_cases hlt : k < F.length
        · have hFw := HFV.out.below hbw
          obtain ⟨sa, sp, hc, hrow⟩ := hFw.row hlt
          have HR := Lib.hid hrow
          obtain ⟨L, hL⟩ : ∃ L, (F.getD k []).length = L := ⟨_, rfl⟩
          rw [hL] at hc
          have HL := Lib.hid hL
          have hL1 : L ≤ 10000 := by
            have := totL_mono F (j := k + 1) (k := F.length) (by omega)
            rw [totL, hL] at this; omega
          clear hFw hrow hL
          go_wp2
          go_loopw [51] (fun i wr => ∃ j : Nat, j ≤ L ∧ i = .int .i64 j ∧ Below wo.heap.size wo wr) (fun i _ => L - (intOf i).toNat)
          case atStart => exact ⟨0, Nat.zero_le _, rfl, Below.refl _ _⟩
          case round =>
            obtain ⟨j, hj, rfl, hbi⟩ := hrel
            by_cases hjl : j < L
            · obtain ⟨s, hs⟩ : ∃ s, (F.getD k []).getD j default = s := ⟨_, rfl⟩
              have hok := step_ok HP.out hlt (by rw [HL.out]; exact hjl)
              rw [hs] at hok
              obtain ⟨SB, cap', cur, hsa, hSB, g0, g1, g2, g3⟩ := row_at HR.out (by rw [HL.out]; exact hjl) hs
              cases hsa
              have gg : ∀ a v, wo.cell? a = some v → wr.cell? a = some v := fun a v h => by rw [hbi.cell (block_lt h)]; exact h
              have e0 := gg _ _ g0
              have e1 := gg _ _ g1
              have e2 := gg _ _ g2
              have e3 := gg _ _ g3
              rw [HL.out] at hok
              have HS := Lib.hid hs
              have HO := Lib.hid hok
              clear gg g0 g1 g2 g3 hs hok hSB hc
              have hops : s.op = 16 ∨ s.op = 5 ∨ s.op = 6 ∨ s.op = 7 ∨ s.op = 1 ∨ s.op = 2 ∨ s.op = 4 ∨ s.op = 9 ∨ s.op = 10 ∨ s.op = 11 := by
                have := HO.out; simp [stepOk] at this; omega
              rcases hops with h | h | h | h | h | h | h | h | h | h
              · have hn : 0 ≤ s.n ∧ s.n ≤ 32767 ∧ s.n ≤ L := by have := HO.out; simp [stepOk, h] at this; omega
                rw [h] at e0
                obtain ⟨jn, hjn⟩ : ∃ jn : Nat, s.n = jn := ⟨s.n.toNat, by omega⟩
                rw [hjn] at e1 hn
                have q1 : decide ((0 : Int) ≤ (jn : Int)) = true := decide_eq_true (by omega)
                have q2 : decide ((jn : Int) ≤ (L : Int)) = true := decide_eq_true (by omega)
                have q3 : decide (jn ≤ L) = true := decide_eq_true (by omega)
                have q4 : jn ≤ 32767 := by omega
                clear h hjn hn
                go_wp2
                go_roundw
                case rel => exact ⟨j + 1, by omega, by go_num, hbi.alloc hbi.size _⟩
                case measure => simp [intOf]; omega
              · have hn : s.f < F.length := by have := HO.out; simp [stepOk, h] at this; omega
                rw [h] at e0
                have q1 : decide ((0 : Int) ≤ (s.f : Int)) = true := decide_eq_true (by omega)
                have q2 : decide ((s.f : Int) < (F.length : Int)) = true := decide_eq_true (by omega)
                have q3 : decide (s.f < F.length) = true := decide_eq_true hn
                clear h hn
                go_wp2
                go_roundw
                case rel => exact ⟨j + 1, by omega, by go_num, hbi.alloc hbi.size _⟩
                case measure => simp [intOf]; omega
              · have hn : s.f < F.length := by have := HO.out; simp [stepOk, h] at this; omega
                rw [h] at e0
                have q1 : decide ((0 : Int) ≤ (s.f : Int)) = true := decide_eq_true (by omega)
                have q2 : decide ((s.f : Int) < (F.length : Int)) = true := decide_eq_true (by omega)
                have q3 : decide (s.f < F.length) = true := decide_eq_true hn
                clear h hn
                go_wp2
                go_roundw
                case rel => exact ⟨j + 1, by omega, by go_num, hbi.alloc hbi.size _⟩
                case measure => simp [intOf]; omega
              · have hn : s.f < F.length := by have := HO.out; simp [stepOk, h] at this; omega
                rw [h] at e0
                have q1 : decide ((0 : Int) ≤ (s.f : Int)) = true := decide_eq_true (by omega)
                have q2 : decide ((s.f : Int) < (F.length : Int)) = true := decide_eq_true (by omega)
                have q3 : decide (s.f < F.length) = true := decide_eq_true hn
                clear h hn
                go_wp2
                go_roundw
                case rel => exact ⟨j + 1, by omega, by go_num, hbi.alloc hbi.size _⟩
                case measure => simp [intOf]; omega
              · rw [h] at e0
                clear h
                go_wp2
                go_roundw
                case rel => exact ⟨j + 1, by omega, by go_num, hbi.alloc hbi.size _⟩
                case measure => simp [intOf]; omega
              · rw [h] at e0
                clear h
                go_wp2
                go_roundw
                case rel => exact ⟨j + 1, by omega, by go_num, hbi.alloc hbi.size _⟩
                case measure => simp [intOf]; omega
              · rw [h] at e0
                clear h
                go_wp2
                go_roundw
                case rel => exact ⟨j + 1, by omega, by go_num, hbi.alloc hbi.size _⟩
                case measure => simp [intOf]; omega
              · rw [h] at e0
                clear h
                go_wp2
                go_roundw
                case rel => exact ⟨j + 1, by omega, by go_num, hbi.alloc hbi.size _⟩
                case measure => simp [intOf]; omega
              · rw [h] at e0
                clear h
                go_wp2
                go_roundw
                case rel => exact ⟨j + 1, by omega, by go_num, hbi.alloc hbi.size _⟩
                case measure => simp [intOf]; omega
              · rw [h] at e0
                clear h
                go_wp2
                go_roundw
                case rel => exact ⟨j + 1, by omega, by go_num, hbi.alloc hbi.size _⟩
                case measure => simp [intOf]; omega
            · obtain rfl : j = L := by omega
              go_wp2
              go_roundw
              case rel => exact ⟨k + 1, by omega, by go_num, hbw.trans (hbi.mono hbw.size)⟩
              case measure => simp [intOf]; omega
        · obtain rfl : k = F.length := by omega
          go_wp2
          go_ret3
          exact ⟨rfl, hbw⟩
end Go.Proofs.YtokfnlfadofmnaaDoor
