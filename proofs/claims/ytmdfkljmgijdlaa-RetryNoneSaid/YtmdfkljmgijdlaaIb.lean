/- The walks of the buckets. -/
import Derived.Test.YtmdfkljmgijdlaaIa
import Derived.StillTailTactics
namespace Go.Proofs.Ytmdfkljmgijdlaa
open Go.RowKit
set_option linter.unusedVariables false

def stV (s : St) : Array Value := #[.float .f64 s.rate, .float .f64 s.burst, .float .f64 s.tok, .float .f64 s.now]
/-- A bucket lies in block b. -/
def BK (w : World) (b : Nat) (ty : TypeId) (s : St) : Prop := w.heap[b]? = some (.cells (stV s) ty (0, 0))

theorem grown_refl (w : World) (r : Option Nat) : w.grownBy w r := ⟨rfl, rfl, rfl, Nat.le_refl _, fun _ _ _ => rfl⟩
theorem grown_drewN {w0 w : World} {r : Option Nat} (h : w0.grownBy w r) (n : Nat) : w0.grownBy (w.drewN n) r := ⟨h.os, h.tape, h.output, h.size, h.block⟩
theorem grown_drew {w0 w : World} {r : Option Nat} (h : w0.grownBy w r) : w0.grownBy w.drew r := ⟨h.os, h.tape, h.output, h.size, h.block⟩
theorem grown_setCell {w0 w : World} {b : Nat} (h : w0.grownBy w (some b)) (i : Nat) (v : Value) : w0.grownBy (w.setCell ⟨b, i, none⟩ v) (some b) :=
  ⟨h.os, h.tape, h.output, by have := h.size; simpa using this, fun k hk hne => by rw [Below.heap_setCell _ _ _ _ (fun e => hne (by rw [e]))]; exact h.block k hk hne⟩
theorem grown_trans {w0 w w1 : World} {r : Option Nat} (h : w0.grownBy w r) (k : w.grownBy w1 r) : w0.grownBy w1 r :=
  ⟨k.os.trans h.os, k.tape.trans h.tape, k.output.trans h.output, Nat.le_trans h.size k.size, fun j hj hne => by rw [k.block j (by have := h.size; omega) hne]; exact h.block j hj hne⟩
theorem BK.set2 {w : World} {b : Nat} {ty : TypeId} {s : St} (h : BK w b ty s) (x : Nat) : BK (w.setCell ⟨b, 2, none⟩ (.float .f64 x)) b ty { s with tok := x } := heap_setCell_same w b 2 _ ty _ h
theorem BK.set3 {w : World} {b : Nat} {ty : TypeId} {s : St} (h : BK w b ty s) (x : Nat) : BK (w.setCell ⟨b, 3, none⟩ (.float .f64 x)) b ty { s with now := x } := heap_setCell_same w b 3 _ ty _ h
theorem BK.cells {w : World} {b : Nat} {ty : TypeId} {s : St} (h : BK w b ty s) : w.cell? ⟨b, 0, none⟩ = some (.float .f64 s.rate) ∧ w.cell? ⟨b, 1, none⟩ = some (.float .f64 s.burst) ∧ w.cell? ⟨b, 2, none⟩ = some (.float .f64 s.tok) ∧ w.cell? ⟨b, 3, none⟩ = some (.float .f64 s.now) :=
  ⟨cell_of_block h 0, cell_of_block h 1, cell_of_block h 2, cell_of_block h 3⟩

set_option maxRecDepth 100000 in
theorem refill_any (s : St) (hs : s.Good) (b t : Nat) (ht : Fl.Fnt t) (w : World) (hb : BK w b 168 s) :
    Calls Try.prog 84 #[.pointer (some ⟨b, 0, none⟩), .float .f64 t] w fun e w' => e = .returned (.tuple #[]) ∧ BK w' b 168 (refillF s t) ∧ w.grownBy w' (some b) := by
  have hnt := Fl.fin_nn ht
  have hnn := Fl.fin_nn hs.now
  have hleq := Fl.leq_key hnt hnn
  obtain ⟨c0, c1, c2, c3⟩ := hb.cells
  by_cases hk : Fl.key t ≤ Fl.key s.now
  · have hg : (FloatKind.f64.format.order t s.now == some .lt || FloatKind.f64.format.order t s.now == some .eq) = true := by rw [hleq]; simp [hk]
    have e : refillF s t = s := by unfold refillF; rw [if_pos hk]
    rw [e]
    clear hleq
    go_enter Try.func84, Try.ntmps84
    go_wp2
    refine bodyPost_ret (results_none rfl _ _ _) rfl ?_
    exact ⟨rfl, hb, grown_refl _ _⟩
  · have hg : (FloatKind.f64.format.order t s.now == some .lt || FloatKind.f64.format.order t s.now == some .eq) = false := by rw [hleq]; simp [hk]
    clear hleq
    by_cases h0 : s.rate = 0
    · have e : refillF s t = { s with now := t } := by unfold refillF; rw [if_neg hk, if_pos h0]
      rw [e]
      have hgt : (FloatKind.f64.format.order s.rate 0 == some .gt) = false := by rw [h0]; decide +kernel
      clear e h0
      have fz := frozen_of_block hb 3
      go_enter Try.func84, Try.ntmps84
      go_wp2_with ((with_reducible refine at_op (.store 22 (.tmp 44) (.tmp 42)) rfl ?_); refine wpList_store_cell rfl 22 (.tmp 44) _ rfl ⟨b, 3, none⟩ _ (.float .f64 t) rfl rfl (by kernel_rfl) rfl rfl c3 fz ?_)
      go_end0
      exact ⟨rfl, hb.set3 t, grown_setCell (grown_refl _ _) _ _⟩
    · obtain ⟨m1, m2, m3, m4⟩ := more_facts hs ht (by omega) h0
      have hgt : (FloatKind.f64.format.order s.rate 0 == some .gt) = true := by
        have := Fl.fin_lt hs.rate
        rw [Fl.gt_key this.2.2 (by decide), this.2.1]; simp; have : Fl.key 0 = 0 := by decide
        omega
      have hm1 := fun w => run_sub (t := 22) m1 w
      have hm2 := fun w => run_mul (t := 22) m2 w
      have hm3 := fun w => run_add (t := 22) m3 w
      go_enter Try.func84, Try.ntmps84
      go_wp2
      go_quiet (fail)
      have hb2 : BK (w.drewN nq) b 168 s := hb
      obtain ⟨c0, c1, c2, c3⟩ := hb2.cells
      have hg2 := grown_drewN (grown_refl w (some b)) nq
      go_wp2
      generalize w.drewN nq = w2 at *
      go_still_tail 14, (by kernel_rfl)
      still_call ((min_any _ _ _).mono (by rintro e w' ⟨rfl, rfl⟩; exact ⟨rfl, rfl⟩))
      repeat still_step
      refine wpStill_nil ?_
      change wpList _ _ _ _ _ w2.drew
      have fz := frozen_of_block hb2 2
      refine wpList_store_cell rfl 22 _ _ rfl ⟨b, 2, none⟩ _ (.float .f64 (minF s.burst (sumF s t))) rfl rfl (by kernel_rfl) rfl rfl c2 fz ?_
      have hb3 : BK (w2.drew.setCell ⟨b, 2, none⟩ (.float .f64 (minF s.burst (sumF s t)))) b 168 { s with tok := minF s.burst (sumF s t) } := BK.set2 (w := w2.drew) hb2 _
      have hg3 := grown_setCell (grown_drew hg2) 2 (.float .f64 (minF s.burst (sumF s t)))
      generalize w2.drew.setCell ⟨b, 2, none⟩ (.float .f64 (minF s.burst (sumF s t))) = w3 at *
      have d3 := hb3.cells.2.2.2
      have fz3 := frozen_of_block hb3 3
      go_wp2_with ((with_reducible refine at_op (.store 22 (.tmp 44) (.tmp 42)) rfl ?_); refine wpList_store_cell rfl 22 (.tmp 44) _ rfl ⟨b, 3, none⟩ _ (.float .f64 t) rfl rfl (by kernel_rfl) rfl rfl d3 fz3 ?_)
      go_end0
      refine ⟨rfl, ?_, grown_setCell hg3 _ _⟩
      have e : refillF s t = { { s with tok := minF s.burst (sumF s t) } with now := t } := by
        unfold refillF; rw [if_neg (by omega), if_neg h0, minF_pos (Nat.le_of_lt hs.burst) m4]
      rw [e]
      exact hb3.set3 t
end Go.Proofs.Ytmdfkljmgijdlaa
