/- Opening a retry plan that came in. -/
import Derived.Test.YtmdfkljmgijdlaaFrame
import Derived.Test.YtmdfkljmgijdlaaRows
namespace Go.Proofs.Ytmdfkljmgijdlaa
open Go.ChangeShapes Go.WideShapes Go.ChangeAt Go.RowKit
open Go.ChangeMaps (open_string shut_string)
set_option linter.unusedVariables false

theorem c3 : Try.prog.cellsOf 3 = 1 := by kernel_rfl
theorem c22 : Try.prog.cellsOf 22 = 1 := by kernel_rfl
theorem c23 : Try.prog.cellsOf 23 = 1 := by kernel_rfl
theorem c24 : Try.prog.cellsOf 24 = 1 := by kernel_rfl
theorem c26 : Try.prog.cellsOf 26 = 8 := by kernel_rfl
theorem c129 : Try.prog.cellsOf 129 = 1 := by kernel_rfl
theorem b129 : Try.prog.bytesOf 129 = 2 := by kernel_rfl

theorem arr8 (cs : Array Value) (h : cs.size = 8) : ∃ a b c d e f g i, cs = #[a, b, c, d, e, f, g, i] := by
  obtain ⟨l⟩ := cs
  match l, h with
  | [a, b, c, d, e, f, g, i], _ => exact ⟨a, b, c, d, e, f, g, i, rfl⟩

set_option maxRecDepth 100000 in
/-- A plan of the document's that came in. -/
theorem open_plan {H : Type} {enc : TypeId × Value → H} {W : World} {b0 : Nat} {v : Value} {d : DataW H} {p : List MemPlace} (hval : Value.okWide Try.prog W .any b0 26 v)
    (h : DataW.Trod enc Try.prog W 0 (fun _ => true) true 26 v d p) (hsz : (DataW.weightsEach Try.prog [26] [d]).all (· ≤ reachBytes) = true) :
    ∃ (t : Int) (f g c j dl : Nat) (s : Int) (a : Option Addr) (n cp : Nat) (L : List Int), v = .agg #[.int .i64 t, .float .f64 f, .float .f64 g, .float .f64 c, .float .f64 j, .float .f64 dl, .int .u64 s, .slice a n cp] ∧
      RowIn W a n cp (L.map (.int .i16)) ∧ n * 2 ≤ 140737488351232 ∧ f < 18446744073709551616 ∧ g < 18446744073709551616 ∧ c < 18446744073709551616 ∧ j < 18446744073709551616 ∧ dl < 18446744073709551616 ∧
      -9223372036854775808 ≤ t ∧ t ≤ 9223372036854775807 ∧ 0 ≤ s ∧ s ≤ 18446744073709551615 ∧ (∀ z ∈ L, -32768 ≤ z ∧ z ≤ 32767) ∧ L.length = n := by
  obtain ⟨cs, rfl, hcs⟩ := okWide_struct Try.underlying26 hval
  rw [c26] at hcs
  obtain ⟨v0, v1, v2, v3, v4, v5, v6, v7, rfl⟩ := arr8 cs hcs
  obtain ⟨fuel, h⟩ := h
  obtain ⟨xs, m, rfl, hx, _, hxl, hf⟩ := DataW.trod_struct Try.underlying26 h
  simp only [Prod.mk.injEq] at hx
  obtain ⟨rfl, _⟩ := hx
  obtain ⟨y0, hy0, e0⟩ := trod_fieldAt hxl hf 0 3 0 rfl
  obtain ⟨y1, hy1, e1⟩ := trod_fieldAt hxl hf 1 22 1 rfl
  obtain ⟨y2, hy2, e2⟩ := trod_fieldAt hxl hf 2 22 2 rfl
  obtain ⟨y3, hy3, e3⟩ := trod_fieldAt hxl hf 3 22 3 rfl
  obtain ⟨y4, hy4, e4⟩ := trod_fieldAt hxl hf 4 22 4 rfl
  obtain ⟨y5, hy5, e5⟩ := trod_fieldAt hxl hf 5 22 5 rfl
  obtain ⟨y6, hy6, e6⟩ := trod_fieldAt hxl hf 6 23 6 rfl
  obtain ⟨y7, hy7, e7⟩ := trod_fieldAt hxl hf 7 24 7 rfl
  simp only [Value.cells, c3, c22, c23, c24, List.drop_succ_cons, List.drop_zero, List.take_succ_cons, List.take_zero] at e0 e1 e2 e3 e4 e5 e6 e7
  obtain ⟨t, h0, _, w0⟩ := DataW.trod_int Try.underlying3 e0
  obtain ⟨f, h1, _, w1⟩ := trod_float Try.underlying22 e1
  obtain ⟨g, h2, _, w2⟩ := trod_float Try.underlying22 e2
  obtain ⟨c, h3, _, w3⟩ := trod_float Try.underlying22 e3
  obtain ⟨j, h4, _, w4⟩ := trod_float Try.underlying22 e4
  obtain ⟨dl, h5, _, w5⟩ := trod_float Try.underlying22 e5
  obtain ⟨s, h6, _, w6⟩ := DataW.trod_int Try.underlying23 e6
  obtain ⟨a, n, cp, L, h7, hrow, hwf, hlen, hd⟩ := rowIn_ints Try.underlying24 Try.underlying129 c129 e7
  simp only [List.cons.injEq, and_true] at h0 h1 h2 h3 h4 h5 h6
  subst h0 h1 h2 h3 h4 h5 h6 h7
  refine ⟨t, f, g, c, j, dl, s, a, n, cp, L, rfl, hrow, ?_, wf_f64 w1, wf_f64 w2, wf_f64 w3, wf_f64 w4, wf_f64 w5, (wf_i64' w0).1, (wf_i64' w0).2, ?_, ?_, ?_, hlen⟩
  · rcases hd with ⟨_, rfl⟩ | ⟨el, r, hd, hel⟩
    · omega
    · have hmem := List.all_eq_true.1 hsz ((el.length + r.length) * 2) (DataW.weights_mem_each (j := 0) (t := 26) rfl rfl _ (by
        simp only [DataW.weights, Try.underlying26]
        exact DataW.weights_mem_each (j := 7) (t := 24) rfl (show (xs.map (·.1))[7]? = some (.slice el r) by rw [List.getElem?_map, hy7]; simp [hd]) _ (by simp [DataW.weights, Try.underlying24, b129])))
      have h47 := reachBytes_lt
      simp only [decide_eq_true_eq] at hmem
      have : reachBytes ≤ 140737488351232 := by decide
      omega
  · simp [Lit.wf, IntKind.min, IntKind.max, IntKind.signed, IntKind.bits] at w6; omega
  · simp [Lit.wf, IntKind.min, IntKind.max, IntKind.signed, IntKind.bits] at w6; omega
  · intro z hz
    have := hwf z hz
    simp [Lit.wf, IntKind.min, IntKind.max, IntKind.signed, IntKind.bits] at this; omega

end Go.Proofs.Ytmdfkljmgijdlaa
