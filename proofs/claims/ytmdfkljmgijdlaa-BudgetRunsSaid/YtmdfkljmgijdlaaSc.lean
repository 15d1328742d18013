/- The document's budget: new; notes as a list; what a filter keeps. -/
import Derived.Test.YtmdfkljmgijdlaaSb
namespace Go.Proofs.Ytmdfkljmgijdlaa
open Go.RowKit
set_option linter.unusedVariables false

abbrev Nt := Int × Int × Int
theorem goodN_congr {V V' : Nat → Nt} {n : Nat} (h : ∀ i, i < n → V i = V' i) : goodN V n = goodN V' n ∧ badN V n = badN V' n := by
  induction n with
  | zero => exact ⟨rfl, rfl⟩
  | succ n ih =>
    obtain ⟨e1, e2⟩ := ih (fun i hi => h i (by omega))
    simp only [goodN, badN, e1, e2, h n (by omega)]
    exact ⟨trivial, trivial⟩
/-- A list's element. -/
def gd (L : List Nt) (i : Nat) : Nt := L.getD i (0, 0, 0)
theorem gd_left {L : List Nt} {x : Nt} {i : Nat} (h : i < L.length) : gd (L ++ [x]) i = gd L i := by
  unfold gd; rw [List.getD_eq_getElem?_getD, List.getD_eq_getElem?_getD, List.getElem?_append_left h]
theorem gd_last (L : List Nt) (x : Nt) : gd (L ++ [x]) L.length = x := by
  unfold gd; rw [List.getD_eq_getElem?_getD, List.getElem?_append_right (Nat.le_refl _)]; simp
def GL (L : List Nt) : Int → Int := goodN (gd L) L.length
def BL (L : List Nt) : Int → Int := badN (gd L) L.length
theorem GL_nil : GL [] = noneF := rfl
theorem BL_nil : BL [] = noneF := rfl
theorem GL_append {L : List Nt} {x : Nt} (h : mayB x.1 x.2.1 x.2.2) : GL (L ++ [x]) = addAt (GL L) x.1 x.2.1 ∧ BL (L ++ [x]) = addAt (BL L) x.1 x.2.2 := by
  unfold GL BL
  rw [List.length_append, List.length_singleton]
  obtain ⟨e1, e2⟩ := goodN_congr (V := gd (L ++ [x])) (V' := gd L) (n := L.length) (fun i hi => gd_left hi)
  simp only [goodN, badN, gd_last, if_pos h, e1, e2]
  exact ⟨trivial, trivial⟩

/-- The cells of notes. -/
def nc (L : List Nt) : List Value := L.flatMap fun x => [.int .i64 x.1, .int .i64 x.2.1, .int .i64 x.2.2]
theorem nc_append (L : List Nt) (x : Nt) : nc (L ++ [x]) = nc L ++ [.int .i64 x.1, .int .i64 x.2.1, .int .i64 x.2.2] := by
  unfold nc; simp
theorem nc_len (L : List Nt) : (nc L).length = L.length * 3 := by
  induction L with
  | nil => rfl
  | cons x L ih =>
    have : nc (x :: L) = [.int .i64 x.1, .int .i64 x.2.1, .int .i64 x.2.2] ++ nc L := by unfold nc; simp
    rw [this, List.length_append, ih]; simp; omega
theorem nc_get (L : List Nt) : ∀ (i : Nat), i < L.length → (nc L)[i * 3]? = some (.int .i64 (gd L i).1) ∧ (nc L)[i * 3 + 1]? = some (.int .i64 (gd L i).2.1) ∧ (nc L)[i * 3 + 2]? = some (.int .i64 (gd L i).2.2) := by
  induction L with
  | nil => intro i hi; simp at hi
  | cons x L ih =>
    intro i hi
    have e : nc (x :: L) = [.int .i64 x.1, .int .i64 x.2.1, .int .i64 x.2.2] ++ nc L := by unfold nc; simp
    rw [e]
    cases i with
    | zero => exact ⟨rfl, rfl, rfl⟩
    | succ i =>
      have hi' : i < L.length := by simp at hi; omega
      obtain ⟨h1, h2, h3⟩ := ih i hi'
      have hg : gd (x :: L) (i + 1) = gd L i := rfl
      rw [hg]
      refine ⟨?_, ?_, ?_⟩
      · rw [List.getElem?_append_right (by simp; omega)]; simp only [List.length_cons, List.length_nil]; rw [show (i + 1) * 3 - (0 + 1 + 1 + 1) = i * 3 by omega]; exact h1
      · rw [List.getElem?_append_right (by simp; omega)]; simp only [List.length_cons, List.length_nil]; rw [show (i + 1) * 3 + 1 - (0 + 1 + 1 + 1) = i * 3 + 1 by omega]; exact h2
      · rw [List.getElem?_append_right (by simp; omega)]; simp only [List.length_cons, List.length_nil]; rw [show (i + 1) * 3 + 2 - (0 + 1 + 1 + 1) = i * 3 + 2 by omega]; exact h3
theorem nc_one (L : List Nt) : ∀ u ∈ nc L, u.oneCell' = true := by
  intro u hu
  unfold nc at hu
  obtain ⟨x, _, hx⟩ := List.mem_flatMap.1 hu
  simp at hx
  rcases hx with rfl | rfl | rfl <;> rfl

/-- A row of notes that is owned: its slice. -/
theorem own_notes {w : World} {B : Nat} {v : Value} {L : List Nt} (h : w.ownsRow B 75 3 v L.length (nc L)) :
    ∃ a cp, v = .slice a L.length cp ∧ CountsIn w a L.length (gd L) ∧ (L.length = 0 → a = none ∧ cp = 0 ∨ a ≠ none) ∧ ∀ p, a = some p → B ≤ p.block ∧ p.block < w.heap.size ∧ p.off = 0 := by
  rcases h.2 with ⟨rfl, h0⟩ | ⟨g, cp, cur, rfl, _⟩
  · rw [h0]
    exact ⟨none, 0, rfl, fun q => by omega, fun _ => Or.inl ⟨rfl, rfl⟩, fun p hp => by cases hp⟩
  · have hl := h.lt g rfl
    refine ⟨some ⟨g, 0, none⟩, cp, rfl, fun _ => ⟨_, rfl, fun i hi => ?_⟩, fun _ => Or.inr (by simp), fun p hp => by cases hp; exact ⟨hl.1, hl.2, rfl⟩⟩
    obtain ⟨q1, q2, q3⟩ := nc_get L i hi
    have k1 := h.cells (g := g) rfl _ _ q1
    have k2 := h.cells (g := g) rfl _ _ q2
    have k3 := h.cells (g := g) rfl _ _ q3
    rw [Addr.add_lit, Nat.zero_add] at k1 k2 k3
    rw [Addr.add_lit, Nat.zero_add]
    exact ⟨k1, k2, k3⟩

/-- What is within of a counting. -/
def cutF (f : Int → Int) (lo : Int) : Int → Int := fun u => if lo < u then f u else 0
theorem cut_add (f : Int → Int) (lo u x : Int) : cutF (addAt f u x) lo = if lo < u then addAt (cutF f lo) u x else cutF f lo := by
  funext q
  by_cases h : lo < u
  · rw [if_pos h]
    unfold cutF addAt
    by_cases e : q = u
    · subst e; simp [h]
    · rw [if_neg e, if_neg e]
  · rw [if_neg h]
    unfold cutF addAt
    by_cases e : lo < q
    · rw [if_pos e, if_pos e, if_neg (by omega)]
    · rw [if_neg e, if_neg e]
theorem cut_none (lo : Int) : cutF noneF lo = noneF := by funext q; unfold cutF noneF; split <;> rfl

theorem rnew_any (t s : Nat) (hs1 : 1 ≤ s) (hs : s ≤ 1024) (h0 : (FloatKind.f64.format.order t 0 == some .gt) = true) (h1 : (FloatKind.f64.format.order t 4607182418800017408 == some .lt) = true) (w : World) :
    Calls Try.prog 46 #[.float .f64 t, .int .i64 s] w fun e w' => ∃ b, e = .returned (.tuple #[.pointer (some ⟨b, 0, none⟩), .int .i64 0]) ∧ MR w' b t s 0 false none 0 0 (gd []) ∧ w.heap.size ≤ b ∧ Below w.heap.size w w' := by
  have i1 : ¬ ((s : Int) < 1) := by omega
  have i2 : (s : Int) ≤ 1024 := by omega
  have H := Lib.hid (And.intro hs1 hs)
  clear hs1 hs
  go_enter Try.func46, Try.ntmps46
  go_wp2
  go_ret2
  exact ⟨w.heap.size, rfl, ⟨H.out.1, H.out.2, alloc_at _ _, fun q => by omega, fun p hp => (by cases hp), by omega, fun i hi => by omega, by omega⟩, Nat.le_refl _, (Below.refl _ _).alloc (Nat.le_refl _) _⟩
theorem rnew_bad (t : Nat) (s : Int) (c : Int) (w : World) (h : (¬ (1 ≤ s ∧ s ≤ 1024) ∧ c = 1) ∨ ((1 ≤ s ∧ s ≤ 1024) ∧ c = 260 ∧ ((FloatKind.f64.format.order t 0 == some .gt) = false ∨ (FloatKind.f64.format.order t 4607182418800017408 == some .lt) = false))) :
    Calls Try.prog 46 #[.float .f64 t, .int .i64 s] w fun e w' => e = .returned (.tuple #[.pointer none, .int .i64 c]) ∧ w' = w := by
  rcases h with ⟨h, rfl⟩ | ⟨⟨h1, h2⟩, rfl, h⟩
  · by_cases h1 : s < 1
    · clear h
      go_enter Try.func46, Try.ntmps46
      go_wp2
      go_ret2
      exact ⟨rfl, rfl⟩
    · have h2 : 1024 < s := by omega
      clear h
      go_enter Try.func46, Try.ntmps46
      go_wp2
      go_ret2
      exact ⟨rfl, rfl⟩
  · have i1 : ¬ (s < 1) := by omega
    have i2 : ¬ (1024 < s) := by omega
    clear h1
    cases h0 : (FloatKind.f64.format.order t 0 == some .gt)
    · clear h
      go_enter Try.func46, Try.ntmps46
      go_wp2
      go_ret2
      exact ⟨rfl, rfl⟩
    · have h1 : (FloatKind.f64.format.order t 4607182418800017408 == some .lt) = false := by rcases h with h | h; rw [h0] at h; cases h; exact h
      clear h
      go_enter Try.func46, Try.ntmps46
      go_wp2
      go_ret2
      exact ⟨rfl, rfl⟩
theorem bnew_bad (t : Nat) (s : Int) (c : Int) (w : World) (h : (¬ (1 ≤ s ∧ s ≤ 1024) ∧ c = 1) ∨ ((1 ≤ s ∧ s ≤ 1024) ∧ c = 260 ∧ ((FloatKind.f64.format.order t 0 == some .gt) = false ∨ (FloatKind.f64.format.order t 4607182418800017408 == some .lt) = false))) :
    Calls Try.prog 18 #[.float .f64 t, .int .i64 s] w fun e w' => e = .returned (.tuple #[.pointer none, .int .i64 c]) ∧ w' = w := by
  rcases h with ⟨h, rfl⟩ | ⟨⟨h1, h2⟩, rfl, h⟩
  · by_cases h1 : s < 1
    · clear h
      go_enter Try.func18, Try.ntmps18
      go_wp2
      go_ret2
      exact ⟨rfl, rfl⟩
    · have h2 : 1024 < s := by omega
      clear h
      go_enter Try.func18, Try.ntmps18
      go_wp2
      go_ret2
      exact ⟨rfl, rfl⟩
  · have i1 : ¬ (s < 1) := by omega
    have i2 : ¬ (1024 < s) := by omega
    clear h1
    cases h0 : (FloatKind.f64.format.order t 0 == some .gt)
    · clear h
      go_enter Try.func18, Try.ntmps18
      go_wp2
      go_ret2
      exact ⟨rfl, rfl⟩
    · have h1 : (FloatKind.f64.format.order t 4607182418800017408 == some .lt) = false := by rcases h with h | h; rw [h0] at h; cases h; exact h
      clear h
      go_enter Try.func18, Try.ntmps18
      go_wp2
      go_ret2
      exact ⟨rfl, rfl⟩
end Go.Proofs.Ytmdfkljmgijdlaa
