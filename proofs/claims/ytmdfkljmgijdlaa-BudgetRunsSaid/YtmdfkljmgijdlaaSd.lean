/- Notes appended; a note taken. -/
import Derived.Test.YtmdfkljmgijdlaaSc
import Derived.Deep.Slices
namespace Go.Proofs.Ytmdfkljmgijdlaa
open Go.RowKit
set_option linter.unusedVariables false

theorem info75 : ∃ i : TypeInfo, Try.prog.info? 75 = some i ∧ i.zero = some (.agg #[.int .i64 0, .int .i64 0, .int .i64 0]) ∧ i.size = 3 ∧ i.bytes = 24 :=
  info_parts (by kernel_rfl)

theorem notes_cell {w : World} {p : Addr} {L : List Nt} (h : ∀ i, i < L.length → w.cell? (p.add (i * 3)) = some (.int .i64 (gd L i).1) ∧ w.cell? ⟨(p.add (i * 3)).block, (p.add (i * 3)).off + 1, none⟩ = some (.int .i64 (gd L i).2.1) ∧ w.cell? ⟨(p.add (i * 3)).block, (p.add (i * 3)).off + 2, none⟩ = some (.int .i64 (gd L i).2.2))
    (j : Nat) (u : Value) (hj : (nc L)[j]? = some u) : w.cell? (p.add j) = some u := by
  have hl : j < (nc L).length := (List.getElem?_eq_some_iff.1 hj).1
  rw [nc_len] at hl
  have hi : j / 3 < L.length := by omega
  obtain ⟨e1, e2, e3⟩ := h (j / 3) hi
  obtain ⟨q1, q2, q3⟩ := nc_get L (j / 3) hi
  have key : ∀ r, (⟨(p.add (j / 3 * 3)).block, (p.add (j / 3 * 3)).off + (r + 1), none⟩ : Addr) = p.add (j / 3 * 3 + (r + 1)) := by
    intro r
    rw [← Deep.add_add]
    conv => rhs; unfold Addr.add
    rw [if_neg (by omega)]
    rfl
  have hm : j % 3 = 0 ∨ j % 3 = 1 ∨ j % 3 = 2 := by omega
  rcases hm with hm | hm | hm
  · have e : j = j / 3 * 3 := by omega
    rw [← e] at q1 e1
    rw [q1] at hj; cases hj; exact e1
  · have e : j = j / 3 * 3 + 1 := by omega
    rw [key 0, ← e] at e2
    rw [← e] at q2
    rw [q2] at hj; cases hj; exact e2
  · have e : j = j / 3 * 3 + 2 := by omega
    rw [key 1, ← e] at e3
    rw [← e] at q3
    rw [q3] at hj; cases hj; exact e3

/-- All notes appended to nothing. -/
theorem app_notes {w : World} {base : Nat} {v : Value} {p : Addr} {cp : Nat} {L : List Nt} (hown : w.ownsRow base 75 3 v 0 []) (hb : base ≤ w.heap.size) (hc : CountsIn w (some p) L.length (gd L)) (h0 : 0 < L.length) (hl : L.length ≤ 1000000000) :
    ∃ v1 w1, (∀ ty, (Builtin.append_ #[101, 101] ty #[v, .slice (some p) L.length cp]).run Try.prog w = .ok v1 w1) ∧ w1.ownsRow base 75 3 v1 L.length (nc L) ∧ w.grownBy w1 v.ownBlock := by
  obtain ⟨i0, hi, hz0, hz1, hz2⟩ := info75
  obtain ⟨q, hq, hcells⟩ := hc h0
  cases hq
  have hr := fun ty => run_append_own (P := Try.prog) w base 101 ty 75 i0 (.agg #[.int .i64 0, .int .i64 0, .int .i64 0]) 3 24 Try.underlying101 hi hz0 hz1 hz2 rfl (by decide) v 0 [] hown p L.length cp (nc L) (nc_len L) (notes_cell hcells) (nc_one L) (by simp only [maxLen]; omega) (by omega) hb
  obtain ⟨v1, w1, h1, h2, h3, _⟩ := hr 101
  refine ⟨v1, w1, fun ty => ?_, by simpa using h2, h3⟩
  obtain ⟨v2, w2, k1, _⟩ := hr ty
  have e : (Builtin.append_ #[101, 101] ty #[v, .slice (some p) L.length cp]) = (Builtin.append_ #[101, 101] 101 #[v, .slice (some p) L.length cp]) := rfl
  rw [e]; exact h1
/-- One more note appended. -/
theorem app_one {w : World} {base q k : Nat} {v : Value} {xs : List Value} {x y z : Int} (hown : w.ownsRow base 75 3 v k xs) (hb : base ≤ w.heap.size) (h0 : w.cell? ⟨q, 0, none⟩ = some (.int .i64 x)) (h1 : w.cell? ⟨q, 1, none⟩ = some (.int .i64 y)) (h2 : w.cell? ⟨q, 2, none⟩ = some (.int .i64 z)) (hl : k ≤ 1000000000) :
    ∃ v1 w1, (∀ ty, (Builtin.append_ #[101, 101] ty #[v, .slice (some ⟨q, 0, none⟩) 1 1]).run Try.prog w = .ok v1 w1) ∧ w1.ownsRow base 75 3 v1 (k + 1) (xs ++ [.int .i64 x, .int .i64 y, .int .i64 z]) ∧ w.grownBy w1 v.ownBlock := by
  obtain ⟨i0, hi, hz0, hz1, hz2⟩ := info75
  obtain ⟨v1, w1, k1, k2, k3, _⟩ := run_append_own (P := Try.prog) w base 101 101 75 i0 (.agg #[.int .i64 0, .int .i64 0, .int .i64 0]) 3 24 Try.underlying101 hi hz0 hz1 hz2 rfl (by decide) v k xs hown ⟨q, 0, none⟩ 1 1 [.int .i64 x, .int .i64 y, .int .i64 z] rfl
    (by intro m u hu; rcases m with _ | _ | _ | m <;> simp at hu <;> subst hu
        · exact h0
        · exact h1
        · exact h2)
    (by intro u hu; simp at hu; rcases hu with rfl | rfl | rfl <;> rfl) (by simp only [maxLen]; omega) (by omega) hb
  exact ⟨v1, w1, fun ty => k1, k2, k3⟩

/-- A budget of the document's, its notes a list. -/
def MG (Bq : Nat) (w : World) (b t s : Nat) (now : Int) (m : Bool) (L : List Nt) : Prop :=
  ∃ a cp, MR w b t s now m a L.length cp (gd L) ∧ (m = false → now = 0 ∧ L = []) ∧ (L = [] → a = none ∧ cp = 0) ∧ (∀ p, a = some p → Bq ≤ p.block)
theorem MG.own {Bq : Nat} {w w' : World} {b t s : Nat} {now : Int} {m : Bool} {L : List Nt} (h : MG Bq w b t s now m L) (hb : Below w.heap.size w w') : MG Bq w' b t s now m L := by
  obtain ⟨a, cp, h1, h2, h3⟩ := h
  exact ⟨a, cp, h1.own hb, h2, h3⟩

set_option maxRecDepth 100000 in
set_option maxHeartbeats 4000000 in
theorem take_loop {w5 : World} {b t s n : Nat} {now : Int} : True := trivial
end Go.Proofs.Ytmdfkljmgijdlaa
