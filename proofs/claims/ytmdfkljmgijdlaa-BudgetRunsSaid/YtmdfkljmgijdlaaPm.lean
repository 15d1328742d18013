/- Opening notes and yes-or-no that came in. -/
import Derived.Test.YtmdfkljmgijdlaaPj
import Derived.Test.YtmdfkljmgijdlaaFrame
import Derived.Test.YtmdfkljmgijdlaaRows
import Derived.Deep.Slices
namespace Go.Proofs.Ytmdfkljmgijdlaa
open Go.RowKit Go.ChangeShapes Go.WideShapes Go.ChangeAt
set_option linter.unusedVariables false

theorem ci2 : Try.prog.cellsOf 2 = 1 := by kernel_rfl
theorem ci3 : Try.prog.cellsOf 3 = 1 := by kernel_rfl
theorem ci4 : Try.prog.cellsOf 4 = 1 := by kernel_rfl
theorem ci43 : Try.prog.cellsOf 43 = 3 := by kernel_rfl
theorem list3v (l : List Value) (h : l.length = 3) : ∃ a b c, l = [a, b, c] := by
  match l, h with
  | [a, b, c], _ => exact ⟨a, b, c, rfl⟩
theorem add_fieldv (p : Addr) (i j : Nat) : (p.add i).add (j + 1) = ⟨(p.add i).block, (p.add i).off + (j + 1), none⟩ := by
  conv => lhs; unfold Addr.add
  rw [if_neg (by omega)]
  rfl

set_option maxRecDepth 100000 in
/-- Notes that came in. -/
theorem open_counts {H : Type} {enc : TypeId × Value → H} {W : World} {b0 : Nat} {v : Value} {d : DataW H} {p : List MemPlace} (hval : Value.okWide Try.prog W .any b0 35 v)
    (h : DataW.Trod enc Try.prog W 0 (fun _ => true) true 35 v d p) : ∃ (a : Option Addr) (n cp : Nat) (V : Nat → Int × Int × Int), v = .slice a n cp ∧ n ≤ maxLen ∧ CountsIn W a n V := by
  obtain ⟨a, n, cp, rfl⟩ := okWide_slice Try.underlying35 hval
  obtain ⟨fuel, h⟩ := h
  rcases Deep.open_slice Try.underlying35 h with ⟨hcs, _⟩ | ⟨q, len, cap, m, k, D, Pl, hcs, _, hl, hm, hmm, _, hx⟩
  · simp only [Value.cells, List.cons.injEq, and_true, Value.slice.injEq] at hcs
    obtain ⟨rfl, rfl, rfl⟩ := hcs
    exact ⟨none, 0, 0, fun _ => (0, 0, 0), rfl, by decide, fun h => by omega⟩
  · simp only [Value.cells, List.cons.injEq, and_true, Value.slice.injEq] at hcs
    obtain ⟨rfl, rfl, rfl⟩ := hcs
    have each : ∀ i, i < n → ∃ t : Int × Int × Int, W.cell? (q.add (i * 3)) = some (.int .i64 t.1) ∧ W.cell? ⟨(q.add (i * 3)).block, (q.add (i * 3)).off + 1, none⟩ = some (.int .i64 t.2.1) ∧
        W.cell? ⟨(q.add (i * 3)).block, (q.add (i * 3)).off + 2, none⟩ = some (.int .i64 t.2.2) := by
      intro i hi
      simp only [if_true] at hmm
      obtain ⟨cs', h1, h2⟩ := hx i (by omega)
      rw [ci43] at h1
      obtain ⟨_, hlen, hcell⟩ := World.cells?_some h1
      obtain ⟨v0, v1, v2, rfl⟩ := list3v cs' hlen
      obtain ⟨xs, m', rfl, _, _, hxl, hf⟩ := DataW.trod_struct Try.underlying43 h2
      obtain ⟨y0, hy0, e0⟩ := trod_fieldAt hxl hf 0 2 0 rfl
      obtain ⟨y1, hy1, e1⟩ := trod_fieldAt hxl hf 1 3 1 rfl
      obtain ⟨y2, hy2, e2⟩ := trod_fieldAt hxl hf 2 3 2 rfl
      simp only [ci2, ci3, List.drop_succ_cons, List.drop_zero, List.take_succ_cons, List.take_zero] at e0 e1 e2
      obtain ⟨t, h0, _, w0⟩ := DataW.trod_int Try.underlying2 e0
      obtain ⟨g, h1', _, w1⟩ := DataW.trod_int Try.underlying3 e1
      obtain ⟨c, h2', _, w2⟩ := DataW.trod_int Try.underlying3 e2
      simp only [List.cons.injEq, and_true] at h0 h1' h2'
      subst h0 h1' h2'
      have k0 := hcell 0 (by omega)
      have k1 := hcell 1 (by omega)
      have k2 := hcell 2 (by omega)
      rw [show (q.add (i * 3)).add 0 = q.add (i * 3) from rfl] at k0
      rw [add_fieldv] at k1 k2
      exact ⟨(t, g, c), k0, k1, k2⟩
    obtain ⟨V, hV⟩ := Deep.choose_lt each
    exact ⟨some q, n, cp, V, rfl, by omega, fun _ => ⟨q, rfl, fun i hi => hV i hi⟩⟩

set_option maxRecDepth 100000 in
/-- Yes or no, as they came in. -/
theorem open_yes {H : Type} {enc : TypeId × Value → H} {W : World} {b0 : Nat} {v : Value} {d : DataW H} {p : List MemPlace} (hval : Value.okWide Try.prog W .any b0 47 v)
    (h : DataW.Trod enc Try.prog W 0 (fun _ => true) true 47 v d p) : ∃ (a : Option Addr) (n cp : Nat) (B : Nat → Bool), v = .slice a n cp ∧ n ≤ maxLen ∧ (0 < n → ∃ p, a = some p ∧ ∀ i, i < n → W.cell? (p.add i) = some (.bool (B i))) := by
  obtain ⟨a, n, cp, rfl⟩ := okWide_slice Try.underlying47 hval
  obtain ⟨fuel, h⟩ := h
  rcases Deep.open_slice1 Try.underlying47 ci4 h with ⟨hcs, _⟩ | ⟨q, len, cap, m, k, V, D, Pl, hcs, _, hl, hm, hmm, _, hx⟩
  · simp only [Value.cells, List.cons.injEq, and_true, Value.slice.injEq] at hcs
    obtain ⟨rfl, rfl, rfl⟩ := hcs
    exact ⟨none, 0, 0, fun _ => false, rfl, by decide, fun h => by omega⟩
  · simp only [Value.cells, List.cons.injEq, and_true, Value.slice.injEq] at hcs
    obtain ⟨rfl, rfl, rfl⟩ := hcs
    have each : ∀ i, i < n → ∃ b : Bool, W.cell? (q.add i) = some (.bool b) := by
      intro i hi
      simp only [if_true] at hmm
      obtain ⟨h1, h2⟩ := hx i (by omega)
      obtain ⟨b, hb, _⟩ := DataW.trod_bool Try.underlying4 h2
      simp only [List.cons.injEq, and_true] at hb
      rw [hb] at h1
      exact ⟨b, h1⟩
    obtain ⟨B, hB⟩ := Deep.choose_lt each
    exact ⟨some q, n, cp, B, rfl, by omega, fun _ => ⟨q, rfl, fun i hi => hB i hi⟩⟩
end Go.Proofs.Ytmdfkljmgijdlaa
