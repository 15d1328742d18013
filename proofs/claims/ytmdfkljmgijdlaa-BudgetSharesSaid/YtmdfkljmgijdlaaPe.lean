/- A window's sum. -/
import Derived.Test.YtmdfkljmgijdlaaPd
namespace Go.Proofs.Ytmdfkljmgijdlaa
open Go.RowKit
set_option linter.unusedVariables false

/-- An int in a block of its own. -/
def IB (w : World) (p : Nat) (x : Int) : Prop := w.heap[p]? = some (.cells #[.int .i64 x] 3 (0, 0))
theorem IB.cell {w : World} {p : Nat} {x : Int} (h : IB w p x) : w.cell? ⟨p, 0, none⟩ = some (.int .i64 x) := cell_of_block h 0
theorem IB.lt {w : World} {p : Nat} {x : Int} (h : IB w p x) : p < w.heap.size := (Array.getElem?_eq_some_iff.1 h).1
theorem IB.set {w : World} {p : Nat} {x : Int} (h : IB w p x) (y : Int) : IB (w.setCell ⟨p, 0, none⟩ (.int .i64 y)) p y := heap_setCell_same w p 0 _ 3 _ h
theorem IB.other {w : World} {p q : Nat} {x : Int} (h : IB w p x) (hne : p ≠ q) (i : Nat) (v : Value) : IB (w.setCell ⟨q, i, none⟩ v) p x := by unfold IB; rw [Below.heap_setCell _ _ _ _ hne]; exact h
theorem IB.alloc {w : World} {p : Nat} {x : Int} (h : IB w p x) (o : Obj) : IB (w.alloc o) p x := by unfold IB; rw [Below.heap_alloc _ _ _ h.lt]; exact h

theorem sum1_any {w : World} {B p q : Nat} {x y : Int} (hp : IB w p x) (hq : IB w q y) (hne : p ≠ q) (hB : B ≤ p) (hB2 : B ≤ q) (at' u v : Int) :
    Calls Try.prog 92 #[.int .i64 at', .agg #[.int .i64 u, .int .i64 v], .pointer (some ⟨p, 0, none⟩), .pointer (some ⟨q, 0, none⟩)] w fun e w' =>
      e = .returned (.tuple #[]) ∧ IB w' p (wrap64 (x + u)) ∧ IB w' q (wrap64 (y + v)) ∧ Below B w w' := by
  have hl := hp.lt
  have hl2 := hq.lt
  have c1 := hp.cell
  have c2 := hq.cell
  have z1 := frozen_of_block hp 0
  have z2 := frozen_of_block hq 0
  have hne2 : q ≠ p := fun e => hne e.symm
  have hp := Lib.hid hp
  have hq := Lib.hid hq
  go_enter Try.func92, Try.ntmps92
  go_wp2
  go_end0
  have p3 := ((hp.out.set (wrap64 (x + u))).other hne 0 (.int .i64 (wrap64 (y + v)))).alloc (.cells #[.int .i64 u, .int .i64 v] 161)
  have q3 := ((hq.out.other hne2 0 (.int .i64 (wrap64 (x + u)))).set (wrap64 (y + v))).alloc (.cells #[.int .i64 u, .int .i64 v] 161)
  have b3 := (((Below.refl B w).setCell (p := ⟨p, 0, none⟩) hB (.int .i64 (wrap64 (x + u)))).setCell (p := ⟨q, 0, none⟩) hB2 (.int .i64 (wrap64 (y + v)))).alloc (by simp; omega) (.cells #[.int .i64 u, .int .i64 v] 161)
  exact ⟨rfl, p3, q3, b3⟩

theorem RI.off {s : Nat} {now : Int} {m : Bool} {rg rb : Nat → Int} {fg fb : Int → Int} (h : RI s now m rg rb fg fb) {k : Nat} (hk : m = false ∨ now - k < 0) :
    tot fg now (k + 1) = tot fg now k ∧ tot fb now (k + 1) = tot fb now k := by
  have : fg (now - k) = 0 ∧ fb (now - k) = 0 := by
    rcases hk with e | e
    · exact (h.none e).2.2 _
    · exact h.out _ (Or.inl e)
  simp only [tot, this.1, this.2]; omega

set_option maxRecDepth 100000 in
theorem over_sum {w : World} {b g t s : Nat} {now : Int} {m : Bool} {fg fb : Int → Int} (h : BG w b g t s now m fg fb) (n : Nat) (hn : n ≤ s) {B p q : Nat} (hb : b < B) (hg : g < B) (hB : B ≤ p) (hB2 : B ≤ q) (hne : p ≠ q) (hp : IB w p 0) (hq : IB w q 0) :
    Calls Try.prog 90 #[.pointer (some ⟨b, 0, none⟩), .int .i64 n, .func (.func 92) #[] #[.pointer (some ⟨p, 0, none⟩), .pointer (some ⟨q, 0, none⟩)]] w fun e w' =>
      e = .returned (.tuple #[]) ∧ IB w' p (wrap64 (tot fg now n)) ∧ IB w' q (wrap64 (tot fb now n)) ∧ Below B w w' := by
  obtain ⟨rg, rb, h, hi⟩ := h
  have s1 := h.s1
  have s2 := h.s2
  have hr := hi.range
  go_enter Try.func90, Try.ntmps90
  go_wp2
  go_loopw [9] (fun i W => ∃ k : Nat, i = .int .i64 k ∧ k ≤ n ∧ IB W p (wrap64 (tot fg now k)) ∧ IB W q (wrap64 (tot fb now k)) ∧ Below B w W) (fun i _ => n - (intOf i).toNat)
  case atStart => exact ⟨0, rfl, by omega, by rw [tot, wrap64_zero]; exact hp, by rw [tot, wrap64_zero]; exact hq, Below.refl _ _⟩
  case round =>
    clear hp hq
    obtain ⟨k, rfl, hk, hp, hq, hbel⟩ := hrel
    have h := h.below hbel hb hg
    obtain ⟨c0, c1, c2, c3⟩ := h.cells
    by_cases hlt : k < n
    · have i1 : (k : Int) < (n : Int) := by omega
      by_cases hneg : now - k < 0
      · have i2 : ¬ (0 ≤ now - k) := by omega
        have ho := hi.off (k := k) (Or.inr hneg)
        go_wp2
        go_roundw
        case rel => exact ⟨k + 1, by go_num, by omega, by rw [ho.1]; exact hp, by rw [ho.2]; exact hq, hbel⟩
        case measure => simp [intOf]; omega
      · have i2 : 0 ≤ now - k := by omega
        cases hm : m
        · subst hm
          have ho := hi.off (k := k) (Or.inl rfl)
          go_wp2
          go_roundw
          case rel => exact ⟨k + 1, by go_num, by omega, by rw [ho.1]; exact hp, by rw [ho.2]; exact hq, hbel⟩
          case measure => simp [intOf]; omega
        · subst hm
          obtain ⟨a1, a2⟩ := hi.at' (now - k) (by omega) (by omega) i2
          have hkk := sl_lt s1 (now - k)
          have k0 := h.good hkk
          have k1 := h.bad hkk
          rw [a1] at k0
          rw [a2] at k1
          have hadd1 : wrap64 (wrap64 (tot fg now k) + wrap64 (fg (now - k))) = wrap64 (tot fg now (k + 1)) := by rw [wrap64_add, wrap64_add2]; rfl
          have hadd2 : wrap64 (wrap64 (tot fb now k) + wrap64 (fb (now - k))) = wrap64 (tot fb now (k + 1)) := by rw [wrap64_add, wrap64_add2]; rfl
          have SL := Lib.hid (slot_any h (now - k) i2 (by omega))
          have HA := Lib.hid (And.intro hadd1 hadd2)
          clear hadd1 hadd2 a1 a2
          generalize sl s (now - k) = j at *
          go_wp2_with fail
          refine SL.out.mono ?_
          rintro e w2 ⟨rfl, n2, rfl⟩
          have hp2 : IB (wr.drewN n2) p _ := hp
          have hq2 : IB (wr.drewN n2) q _ := hq
          have hbel2 := below_dN (n := n2) hbel
          have k0' : (wr.drewN n2).cell? _ = _ := k0
          have k1' : (wr.drewN n2).cell? _ = _ := k1
          clear SL hp hq hbel k0 k1 c0 c1 c2 c3
          generalize wr.drewN n2 = w3 at *
          go_wp2_with fail
          refine (sum1_any hp2 hq2 hne hB hB2 _ _ _).mono ?_
          rintro e w4 ⟨rfl, hp4, hq4, hbel4⟩
          rw [HA.out.1] at hp4
          rw [HA.out.2] at hq4
          have hbel5 := hbel2.trans hbel4
          clear hp2 hq2 hbel2 hbel4 k0' k1'
          go_wp2_with fail
          go_roundw
          case rel => exact ⟨k + 1, by go_num, by omega, hp4, hq4, hbel5⟩
          case measure => simp [intOf]; omega
    · have i1 : ¬ ((k : Int) < (n : Int)) := by omega
      go_wp2
      go_end0
      have : k = n := by omega
      subst this
      exact ⟨rfl, hp, hq, hbel⟩

theorem sum_arg {w : World} {b g t s : Nat} {now : Int} {m : Bool} {fg fb : Int → Int} (h : BG w b g t s now m fg fb) (n : Int) (hn : ¬ (1 ≤ n ∧ n ≤ s)) :
    Calls Try.prog 38 #[.pointer (some ⟨b, 0, none⟩), .int .i64 n] w fun e w' => e = .returned (.tuple #[.int .i64 0, .int .i64 0, .int .i64 1]) ∧ Below w.heap.size w w' := by
  obtain ⟨rg, rb, h, hi⟩ := h
  have s1 := h.s1
  have s2 := h.s2
  have hl := h.lt
  have l1 := hl.1
  obtain ⟨c0, c1, c2, c3⟩ := h.cells
  by_cases h1 : n < 1
  · clear hn
    go_enter Try.func38, Try.ntmps38
    go_wp2
    refine bodyPost_ret (v := .tuple #[.int .i64 0, .int .i64 0, .int .i64 1]) ?_ rfl ?_
    · rw [results_cells2_tmp rfl]; go_simp
    exact ⟨rfl, ((Below.refl _ _).alloc (Nat.le_refl _) _).alloc (by simp) _⟩
  · have h2 : (s : Int) < n := by omega
    clear hn
    go_enter Try.func38, Try.ntmps38
    go_wp2
    refine bodyPost_ret (v := .tuple #[.int .i64 0, .int .i64 0, .int .i64 1]) ?_ rfl ?_
    · rw [results_cells2_tmp rfl]; go_simp
    exact ⟨rfl, ((Below.refl _ _).alloc (Nat.le_refl _) _).alloc (by simp) _⟩

theorem sum_any {w : World} {b g t s : Nat} {now : Int} {m : Bool} {fg fb : Int → Int} (h : BG w b g t s now m fg fb) (n : Nat) (hn : 1 ≤ n) (hn2 : n ≤ s) :
    Calls Try.prog 38 #[.pointer (some ⟨b, 0, none⟩), .int .i64 n] w fun e w' => e = .returned (.tuple #[.int .i64 (wrap64 (tot fg now n)), .int .i64 (wrap64 (tot fb now n)), .int .i64 0]) ∧ Below w.heap.size w w' := by
  have hmf : ∀ (fn : Fn) (first cap : Array Value) (w : World), (Instr.makeFunc fn first cap).run Try.prog w = .ok (.func fn first cap) w := fun _ _ _ _ => rfl
  have hb := h
  obtain ⟨rg, rb, h, hi⟩ := h
  have s1 := h.s1
  have s2 := h.s2
  have hl := h.lt
  have l1 := hl.1
  have l2 := hl.2
  obtain ⟨c0, c1, c2, c3⟩ := h.cells
  have i1 : ¬ ((n : Int) < 1) := by omega
  have i2 : ¬ ((s : Int) < n) := by omega
  have hbel : Below w.heap.size w ((w.alloc (.cells #[.int .i64 0] 3)).alloc (.cells #[.int .i64 0] 3)) := ((Below.refl _ _).alloc (Nat.le_refl _) _).alloc (by simp) _
  have hb2 : BG ((w.alloc (.cells #[.int .i64 0] 3)).alloc (.cells #[.int .i64 0] 3)) b g t s now m fg fb := ⟨rg, rb, h.own hbel, hi⟩
  have hp2 : IB ((w.alloc (.cells #[.int .i64 0] 3)).alloc (.cells #[.int .i64 0] 3)) w.heap.size 0 := IB.alloc (alloc_at _ _) _
  have hq2 : IB ((w.alloc (.cells #[.int .i64 0] 3)).alloc (.cells #[.int .i64 0] 3)) (w.heap.size + 1) 0 := alloc_at' _ _ _ (by simp)
  have key := Lib.hid (over_sum hb2 n hn2 l1 l2 (Nat.le_refl _) (by omega) (by omega) hp2 hq2)
  clear h hi hb hb2 hp2 hq2
  go_enter Try.func38, Try.ntmps38
  go_wp2_with fail
  refine key.out.mono ?_
  rintro e w2 ⟨rfl, hp, hq, hbel2⟩
  have hbel3 := hbel.trans hbel2
  clear key hbel hbel2 c0 c1 c2 c3
  have hsz := hp.lt
  have p0 := hp.cell
  have q0 := hq.cell
  have z0 := frozen_of_block hp 0
  have z1 := frozen_of_block hq 0
  go_wp2_with fail
  go_region
  go_wp2
  have hp3 : IB ((w2.setCell ⟨w.heap.size, 0, none⟩ (.int .i64 (wrap64 (tot fg now n)))).setCell ⟨w.heap.size + 1, 0, none⟩ (.int .i64 (wrap64 (tot fb now n)))).drew w.heap.size (wrap64 (tot fg now n)) := (hp.set _).other (by omega) _ _
  have hq3 : IB ((w2.setCell ⟨w.heap.size, 0, none⟩ (.int .i64 (wrap64 (tot fg now n)))).setCell ⟨w.heap.size + 1, 0, none⟩ (.int .i64 (wrap64 (tot fb now n)))).drew (w.heap.size + 1) (wrap64 (tot fb now n)) := (hq.other (by omega) _ _).set _
  have hbel4 : Below w.heap.size w ((w2.setCell ⟨w.heap.size, 0, none⟩ (.int .i64 (wrap64 (tot fg now n)))).setCell ⟨w.heap.size + 1, 0, none⟩ (.int .i64 (wrap64 (tot fb now n)))).drew :=
    ((hbel3.setCell (p := ⟨w.heap.size, 0, none⟩) (Nat.le_refl _) _).setCell (p := ⟨w.heap.size + 1, 0, none⟩) (Nat.le_succ _) _).drew
  generalize ((w2.setCell ⟨w.heap.size, 0, none⟩ (.int .i64 (wrap64 (tot fg now n)))).setCell ⟨w.heap.size + 1, 0, none⟩ (.int .i64 (wrap64 (tot fb now n)))).drew = w4 at *
  have e1 := hp3.cell
  have e2 := hq3.cell
  refine bodyPost_ret (v := .tuple #[.int .i64 (wrap64 (tot fg now n)), .int .i64 (wrap64 (tot fb now n)), .int .i64 0]) ?_ rfl ?_
  · rw [results_cells2_tmp rfl]; go_simp
  exact ⟨rfl, hbel4⟩
end Go.Proofs.Ytmdfkljmgijdlaa
