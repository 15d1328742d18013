/- Opening rules that came in. -/
import Derived.Test.YtmdfkljmgijdlaaPm
import Derived.Test.YtmdfkljmgijdlaaRc
namespace Go.Proofs.Ytmdfkljmgijdlaa
open Go.RowKit Go.ChangeShapes Go.WideShapes Go.ChangeAt
set_option linter.unusedVariables false

theorem ci23 : Try.prog.cellsOf 23 = 1 := by kernel_rfl
theorem ci165 : Try.prog.cellsOf 165 = 3 := by kernel_rfl
theorem b165 : Try.prog.bytesOf 165 = 24 := by kernel_rfl

set_option maxRecDepth 100000 in
/-- Rules that came in. -/
theorem open_rules {H : Type} {enc : TypeId × Value → H} {W : World} {b0 : Nat} {v : Value} {d : DataW H} {p : List MemPlace} (hval : Value.okWide Try.prog W .any b0 36 v)
    (h : DataW.Trod enc Try.prog W 0 (fun _ => true) true 36 v d p) : ∃ (a : Option Addr) (n cp : Nat) (R : Nat → Int × Int × Nat), v = .slice a n cp ∧ RulesIn W a n R ∧ ∃ el r : List (DataW H), ((d = .nil ∧ n = 0) ∨ d = .slice el r) ∧ (d = .slice el r → el.length = n) := by
  obtain ⟨a, n, cp, rfl⟩ := okWide_slice Try.underlying36 hval
  obtain ⟨fuel, h⟩ := h
  rcases Deep.open_slice Try.underlying36 h with ⟨hcs, hd⟩ | ⟨q, len, cap, m, k, D, Pl, hcs, _, hl, hm, hmm, hd, hx⟩
  · simp only [Value.cells, List.cons.injEq, and_true, Value.slice.injEq] at hcs
    obtain ⟨rfl, rfl, rfl⟩ := hcs
    simp only [Prod.mk.injEq] at hd
    exact ⟨none, 0, 0, fun _ => (0, 0, 0), rfl, fun h => by omega, [], [], Or.inl ⟨hd.1, rfl⟩, fun e => by rw [hd.1] at e; cases e⟩
  · simp only [Value.cells, List.cons.injEq, and_true, Value.slice.injEq] at hcs
    obtain ⟨rfl, rfl, rfl⟩ := hcs
    have each : ∀ i, i < n → ∃ t : Int × Int × Nat, W.cell? (q.add (i * 3)) = some (.int .i64 t.1) ∧ W.cell? ⟨(q.add (i * 3)).block, (q.add (i * 3)).off + 1, none⟩ = some (.int .i64 t.2.1) ∧
        W.cell? ⟨(q.add (i * 3)).block, (q.add (i * 3)).off + 2, none⟩ = some (.int .u64 (t.2.2 : Nat)) := by
      intro i hi
      simp only [if_true] at hmm
      obtain ⟨cs', h1, h2⟩ := hx i (by omega)
      rw [ci165] at h1
      obtain ⟨_, hlen, hcell⟩ := World.cells?_some h1
      obtain ⟨v0, v1, v2, rfl⟩ := list3v cs' hlen
      obtain ⟨xs, m', rfl, _, _, hxl, hf⟩ := DataW.trod_struct Try.underlying165 h2
      obtain ⟨y0, hy0, e0⟩ := trod_fieldAt hxl hf 0 3 0 rfl
      obtain ⟨y1, hy1, e1⟩ := trod_fieldAt hxl hf 1 3 1 rfl
      obtain ⟨y2, hy2, e2⟩ := trod_fieldAt hxl hf 2 23 2 rfl
      simp only [ci3, ci23, List.drop_succ_cons, List.drop_zero, List.take_succ_cons, List.take_zero] at e0 e1 e2
      obtain ⟨t, h0, _, w0⟩ := DataW.trod_int Try.underlying3 e0
      obtain ⟨g, h1', _, w1⟩ := DataW.trod_int Try.underlying3 e1
      obtain ⟨c, h2', _, w2⟩ := DataW.trod_int Try.underlying23 e2
      simp only [List.cons.injEq, and_true] at h0 h1' h2'
      subst h0 h1' h2'
      have k0 := hcell 0 (by omega)
      have k1 := hcell 1 (by omega)
      have k2 := hcell 2 (by omega)
      rw [show (q.add (i * 3)).add 0 = q.add (i * 3) from rfl] at k0
      rw [add_fieldv] at k1 k2
      have hc : ((c.toNat : Nat) : Int) = c := by
        simp [Lit.wf, IntKind.min, IntKind.max, IntKind.signed, IntKind.bits] at w2
        omega
      exact ⟨(t, g, c.toNat), k0, k1, by rw [hc]; exact k2⟩
    obtain ⟨R, hR⟩ := Deep.choose_lt each
    simp only [Prod.mk.injEq] at hd
    exact ⟨some q, n, cp, R, rfl, fun _ => ⟨q, rfl, fun i hi => hR i hi⟩, _, _, Or.inr hd.1, fun e => by rw [hd.1] at e; cases e; simp⟩
end Go.Proofs.Ytmdfkljmgijdlaa
