/- RetryBuckets where no bucket is made; and the opening of its arguments. -/
import Derived.Test.YtmdfkljmgijdlaaIf
import Derived.Test.YtmdfkljmgijdlaaFrame
import Derived.Test.YtmdfkljmgijdlaaOpen
import Derived.Deep.Slices
namespace Go.Proofs.Ytmdfkljmgijdlaa
open Go.RowKit Go.ChangeShapes Go.WideShapes Go.ChangeAt
set_option linter.unusedVariables false

set_option maxRecDepth 100000 in
theorem buckets_bad (r u m : Nat) (a : Option Addr) (n cp : Nat) (w : World) (wr : r < 18446744073709551616) (wu : u < 18446744073709551616) (wm : m < 18446744073709551616)
    (h : (sizeF r && sizeF u && finiteF m) = false) :
    Calls Try.prog 5 #[.agg #[.float .f64 r, .float .f64 u, .float .f64 m], .slice a n cp] w fun e w' => e = .returned (.bool true) ∧ Below w.heap.size w w' := by
  go_enter Try.func5, Try.ntmps5
  go_wp2_with fail
  refine (new_bad r u m _ h).mono ?_
  rintro e w1 ⟨rfl, rfl⟩
  go_wp2_with fail
  refine (new24_bad r u m _ wr wu wm h).mono ?_
  rintro e w1 ⟨rfl, rfl⟩
  go_wp2_with fail
  go_loopw [9] (fun i x => i = .int .i64 0 ∧ x = w.alloc (.cells #[.float .f64 r, .float .f64 u, .float .f64 m] 56)) (fun i _ => 0)
  case atStart => exact ⟨rfl, rfl⟩
  case round =>
    obtain ⟨rfl, rfl⟩ := hrel
    go_wp2_with fail
    refine (awake_any _).mono ?_
    rintro e w5 ⟨rfl, hb5⟩
    go_wp2
    go_ret
    exact ⟨rfl, ((Below.refl _ _).alloc (Nat.le_refl _) _).trans (hb5.mono (by simp))⟩

theorem c57 : Try.prog.cellsOf 57 = 1 := by kernel_rfl
theorem c56 : Try.prog.cellsOf 56 = 3 := by kernel_rfl
theorem c65 : Try.prog.cellsOf 65 = 3 := by kernel_rfl
theorem arr3 (cs : Array Value) (h : cs.size = 3) : ∃ a b c, cs = #[a, b, c] := by
  obtain ⟨l⟩ := cs
  match l, h with
  | [a, b, c], _ => exact ⟨a, b, c, rfl⟩
theorem list3 (l : List Value) (h : l.length = 3) : ∃ a b c, l = [a, b, c] := by
  match l, h with
  | [a, b, c], _ => exact ⟨a, b, c, rfl⟩

set_option maxRecDepth 100000 in
/-- A pail that came in. -/
theorem open_pail {H : Type} {enc : TypeId × Value → H} {W : World} {b0 : Nat} {v : Value} {d : DataW H} {p : List MemPlace} (hval : Value.okWide Try.prog W .any b0 56 v)
    (h : DataW.Trod enc Try.prog W 0 (fun _ => true) true 56 v d p) : ∃ r u m : Nat, v = .agg #[.float .f64 r, .float .f64 u, .float .f64 m] ∧ r < 18446744073709551616 ∧ u < 18446744073709551616 ∧ m < 18446744073709551616 := by
  obtain ⟨cs, rfl, hcs⟩ := okWide_struct Try.underlying56 hval
  rw [c56] at hcs
  obtain ⟨v0, v1, v2, rfl⟩ := arr3 cs hcs
  obtain ⟨fuel, h⟩ := h
  obtain ⟨xs, m, rfl, hx, _, hxl, hf⟩ := DataW.trod_struct Try.underlying56 h
  obtain ⟨y0, hy0, e0⟩ := trod_fieldAt hxl hf 0 22 0 rfl
  obtain ⟨y1, hy1, e1⟩ := trod_fieldAt hxl hf 1 22 1 rfl
  obtain ⟨y2, hy2, e2⟩ := trod_fieldAt hxl hf 2 22 2 rfl
  simp only [Value.cells, c22, List.drop_succ_cons, List.drop_zero, List.take_succ_cons, List.take_zero] at e0 e1 e2
  obtain ⟨f, h0, _, w0⟩ := trod_float Try.underlying22 e0
  obtain ⟨g, h1, _, w1⟩ := trod_float Try.underlying22 e1
  obtain ⟨c, h2, _, w2⟩ := trod_float Try.underlying22 e2
  simp only [List.cons.injEq, and_true] at h0 h1 h2
  subst h0 h1 h2
  exact ⟨f, g, c, rfl, wf_f64 w0, wf_f64 w1, wf_f64 w2⟩

theorem add_field (p : Addr) (i j : Nat) : (p.add i).add (j + 1) = ⟨(p.add i).block, (p.add i).off + (j + 1), none⟩ := by
  conv => lhs; unfold Addr.add
  rw [if_neg (by omega)]
  rfl

set_option maxRecDepth 100000 in
/-- Questions that came in. -/
theorem open_draws {H : Type} {enc : TypeId × Value → H} {W : World} {b0 : Nat} {v : Value} {d : DataW H} {p : List MemPlace} (hval : Value.okWide Try.prog W .any b0 57 v)
    (h : DataW.Trod enc Try.prog W 0 (fun _ => true) true 57 v d p) : ∃ (a : Option Addr) (n cp : Nat) (V : Nat → Int × Nat × Nat), v = .slice a n cp ∧ n ≤ maxLen ∧ DrawsIn W a n V := by
  obtain ⟨a, n, cp, rfl⟩ := okWide_slice Try.underlying57 hval
  obtain ⟨fuel, h⟩ := h
  rcases Deep.open_slice Try.underlying57 h with ⟨hcs, _⟩ | ⟨q, len, cap, m, k, D, Pl, hcs, _, hl, hm, hmm, _, hx⟩
  · simp only [Value.cells, List.cons.injEq, and_true, Value.slice.injEq] at hcs
    obtain ⟨rfl, rfl, rfl⟩ := hcs
    exact ⟨none, 0, 0, fun _ => (0, 0, 0), rfl, by decide, fun h => by omega⟩
  · simp only [Value.cells, List.cons.injEq, and_true, Value.slice.injEq] at hcs
    obtain ⟨rfl, rfl, rfl⟩ := hcs
    have each : ∀ i, i < n → ∃ t : Int × Nat × Nat, W.cell? (q.add (i * 3)) = some (.int .i64 t.1) ∧ W.cell? ⟨(q.add (i * 3)).block, (q.add (i * 3)).off + 1, none⟩ = some (.float .f64 t.2.1) ∧
        W.cell? ⟨(q.add (i * 3)).block, (q.add (i * 3)).off + 2, none⟩ = some (.float .f64 t.2.2) ∧ t.2.1 < 18446744073709551616 ∧ t.2.2 < 18446744073709551616 := by
      intro i hi
      simp only [if_true] at hmm
      obtain ⟨cs', h1, h2⟩ := hx i (by omega)
      rw [c65] at h1
      obtain ⟨_, hlen, hcell⟩ := World.cells?_some h1
      obtain ⟨v0, v1, v2, rfl⟩ := list3 cs' hlen
      obtain ⟨xs, m', rfl, _, _, hxl, hf⟩ := DataW.trod_struct Try.underlying65 h2
      obtain ⟨y0, hy0, e0⟩ := trod_fieldAt hxl hf 0 3 0 rfl
      obtain ⟨y1, hy1, e1⟩ := trod_fieldAt hxl hf 1 22 1 rfl
      obtain ⟨y2, hy2, e2⟩ := trod_fieldAt hxl hf 2 22 2 rfl
      simp only [c3, c22, List.drop_succ_cons, List.drop_zero, List.take_succ_cons, List.take_zero] at e0 e1 e2
      obtain ⟨t, h0, _, w0⟩ := DataW.trod_int Try.underlying3 e0
      obtain ⟨g, h1', _, w1⟩ := trod_float Try.underlying22 e1
      obtain ⟨c, h2', _, w2⟩ := trod_float Try.underlying22 e2
      simp only [List.cons.injEq, and_true] at h0 h1' h2'
      subst h0 h1' h2'
      have k0 := hcell 0 (by omega)
      have k1 := hcell 1 (by omega)
      have k2 := hcell 2 (by omega)
      rw [show (q.add (i * 3)).add 0 = q.add (i * 3) from rfl] at k0
      rw [add_field] at k1 k2
      exact ⟨(t, g, c), k0, k1, k2, wf_f64 w1, wf_f64 w2⟩
    obtain ⟨V, hV⟩ := Deep.choose_lt each
    exact ⟨some q, n, cp, V, rfl, by omega, fun _ => ⟨q, rfl, fun i hi => hV i hi⟩⟩
end Go.Proofs.Ytmdfkljmgijdlaa
