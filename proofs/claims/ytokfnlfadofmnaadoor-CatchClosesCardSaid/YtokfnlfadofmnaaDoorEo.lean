/- Opening deeds that came in. -/
import Derived.Test.YtokfnlfadofmnaaDoorEf
import Derived.Test.YtokfnlfadofmnaaDoorFrame
import Derived.Test.YtokfnlfadofmnaaDoorLaid
import Derived.Deep.Slices
namespace Go.Proofs.YtokfnlfadofmnaaDoor
open Go.RowKit Go.ChangeShapes Go.WideShapes Go.ChangeAt
set_option linter.unusedVariables false

theorem cd3 : Tryd.prog.cellsOf 3 = 1 := by kernel_rfl
theorem cd33 : Tryd.prog.cellsOf 33 = 1 := by kernel_rfl
theorem cd9 : Tryd.prog.cellsOf 9 = 1 := by kernel_rfl
theorem cd42 : Tryd.prog.cellsOf 42 = 3 := by kernel_rfl
theorem arr3d (cs : Array Value) (h : cs.size = 3) : ∃ a b c, cs = #[a, b, c] := by
  obtain ⟨l⟩ := cs
  match l, h with
  | [a, b, c], _ => exact ⟨a, b, c, rfl⟩
theorem list3d (l : List Value) (h : l.length = 3) : ∃ a b c, l = [a, b, c] := by
  match l, h with
  | [a, b, c], _ => exact ⟨a, b, c, rfl⟩
theorem add_fieldd (p : Addr) (i j : Nat) : (p.add i).add (j + 1) = ⟨(p.add i).block, (p.add i).off + (j + 1), none⟩ := by
  conv => lhs; unfold Addr.add
  rw [if_neg (by omega)]
  rfl
set_option maxRecDepth 100000 in
/-- A deed that came in. -/
theorem open_deed {H : Type} {enc : TypeId × Value → H} {W : World} {b0 : Nat} {v : Value} {d : DataW H} {p : List MemPlace} (hval : Value.okWide Tryd.prog W .any b0 42 v)
    (h : DataW.Trod enc Tryd.prog W 0 (fun _ => true) true 42 v d p) : ∃ D : Ded, v = .agg #[.int .i64 D.kind, .int .i64 D.e, .string D.word] := by
  obtain ⟨cs, rfl, hcs⟩ := okWide_struct Tryd.underlying42 hval
  rw [cd42] at hcs
  obtain ⟨v0, v1, v2, rfl⟩ := arr3d cs hcs
  obtain ⟨fuel, h⟩ := h
  obtain ⟨xs, m, rfl, hx, _, hxl, hf⟩ := DataW.trod_struct Tryd.underlying42 h
  obtain ⟨y0, hy0, e0⟩ := trod_fieldAt hxl hf 0 3 0 rfl
  obtain ⟨y1, hy1, e1⟩ := trod_fieldAt hxl hf 1 33 1 rfl
  obtain ⟨y2, hy2, e2⟩ := trod_fieldAt hxl hf 2 9 2 rfl
  simp only [Value.cells, cd3, cd33, cd9, List.drop_succ_cons, List.drop_zero, List.take_succ_cons, List.take_zero] at e0 e1 e2
  obtain ⟨f, h0, _⟩ := DataW.trod_int Tryd.underlying3 e0
  obtain ⟨g, h1, _⟩ := DataW.trod_int Tryd.underlying33 e1
  obtain ⟨c, h2, _⟩ := DataW.trod_string Tryd.underlying9 e2
  simp only [List.cons.injEq, and_true] at h0 h1 h2
  subst h0 h1 h2
  exact ⟨⟨f, g, c⟩, rfl⟩
def DeedsIn (W : World) (a : Option Addr) (n : Nat) (R : Nat → Ded) : Prop :=
  0 < n → ∃ q, a = some q ∧ ∀ i, i < n → W.cell? (q.add (i * 3)) = some (.int .i64 (R i).kind) ∧ W.cell? ⟨(q.add (i * 3)).block, (q.add (i * 3)).off + 1, none⟩ = some (.int .i64 (R i).e) ∧ W.cell? ⟨(q.add (i * 3)).block, (q.add (i * 3)).off + 2, none⟩ = some (.string (R i).word)
set_option maxRecDepth 100000 in
theorem open_deeds {H : Type} {enc : TypeId × Value → H} {W : World} {b0 : Nat} {v : Value} {d : DataW H} {p : List MemPlace} (hval : Value.okWide Tryd.prog W .any b0 43 v)
    (h : DataW.Trod enc Tryd.prog W 0 (fun _ => true) true 43 v d p) : ∃ (a : Option Addr) (n cp : Nat) (R : Nat → Ded), v = .slice a n cp ∧ DeedsIn W a n R ∧ n ≤ maxLen := by
  obtain ⟨a, n, cp, rfl⟩ := okWide_slice Tryd.underlying43 hval
  obtain ⟨fuel, h⟩ := h
  rcases Deep.open_slice Tryd.underlying43 h with ⟨hcs, hd⟩ | ⟨q, len, cap, m, k, D, Pl, hcs, _, hl, hm, hmm, hd, hx⟩
  · simp only [Value.cells, List.cons.injEq, and_true, Value.slice.injEq] at hcs
    obtain ⟨rfl, rfl, rfl⟩ := hcs
    exact ⟨none, 0, 0, fun _ => default, rfl, fun h => by omega, Nat.zero_le _⟩
  · simp only [Value.cells, List.cons.injEq, and_true, Value.slice.injEq] at hcs
    obtain ⟨rfl, rfl, rfl⟩ := hcs
    have each : ∀ i, i < n → ∃ t : Ded, W.cell? (q.add (i * 3)) = some (.int .i64 t.kind) ∧ W.cell? ⟨(q.add (i * 3)).block, (q.add (i * 3)).off + 1, none⟩ = some (.int .i64 t.e) ∧
        W.cell? ⟨(q.add (i * 3)).block, (q.add (i * 3)).off + 2, none⟩ = some (.string t.word) := by
      intro i hi
      simp only [if_true] at hmm
      obtain ⟨cs', h1, h2⟩ := hx i (by omega)
      rw [cd42] at h1
      obtain ⟨_, hlen, hcell⟩ := World.cells?_some h1
      obtain ⟨v0, v1, v2, rfl⟩ := list3d cs' hlen
      obtain ⟨xs, m', rfl, _, _, hxl, hf⟩ := DataW.trod_struct Tryd.underlying42 h2
      obtain ⟨y0, hy0, e0⟩ := trod_fieldAt hxl hf 0 3 0 rfl
      obtain ⟨y1, hy1, e1⟩ := trod_fieldAt hxl hf 1 33 1 rfl
      obtain ⟨y2, hy2, e2⟩ := trod_fieldAt hxl hf 2 9 2 rfl
      simp only [cd3, cd33, cd9, List.drop_succ_cons, List.drop_zero, List.take_succ_cons, List.take_zero] at e0 e1 e2
      obtain ⟨t, h0, _⟩ := DataW.trod_int Tryd.underlying3 e0
      obtain ⟨g, h1', _⟩ := DataW.trod_int Tryd.underlying33 e1
      obtain ⟨c, h2', _⟩ := DataW.trod_string Tryd.underlying9 e2
      simp only [List.cons.injEq, and_true] at h0 h1' h2'
      subst h0 h1' h2'
      have k0 := hcell 0 (by omega)
      have k1 := hcell 1 (by omega)
      have k2 := hcell 2 (by omega)
      rw [show (q.add (i * 3)).add 0 = q.add (i * 3) from rfl] at k0
      rw [add_fieldd] at k1 k2
      exact ⟨⟨t, g, c⟩, k0, k1, k2⟩
    obtain ⟨R, hR⟩ := Deep.choose_lt each
    exact ⟨some q, n, cp, R, rfl, fun _ => ⟨q, rfl, fun i hi => hR i hi⟩, Nat.le_trans hl hm⟩
end Go.Proofs.YtokfnlfadofmnaaDoor
