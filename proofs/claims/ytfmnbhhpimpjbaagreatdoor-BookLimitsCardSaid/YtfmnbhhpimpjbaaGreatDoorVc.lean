/- A book in memory; New, at, and what is read of a row. -/
import Derived.Test.YtfmnbhhpimpjbaaGreatDoorVb
import Derived.Test.YtfmnbhhpimpjbaaGreatDoorBz
import Derived.Test.YtfmnbhhpimpjbaaGreatDoorTd
namespace Go.Proofs.YtfmnbhhpimpjbaaGreatDoor
open Go.RowKit
set_option linter.unusedVariables false

def errAt (rows : List BRow) (h : Int) : Value := if h ≤ 0 then .nilIface else match rows[h.toNat - 1]? with | some r => r.err | none => .nilIface
/-- A row of a book: what it was made of lies in blocks of D; its error is that of its spec and its parts. -/
structure RowOk (D : Nat → Prop) (w : World) (rows : List BRow) (i : Nat) (r : BRow) : Prop where
  ok : r.sp.Ok
  chk : checkF r.sp = 0
  items : ItemsD D w r.ia r.sp.items
  parts : PartsD D w r.pa r.sp.parts
  hand : ∀ h ∈ r.sp.parts, 0 ≤ h ∧ h ≤ i
  err : ErrIn D w r.err r.sp (r.sp.parts.map (errAt rows))
  size : 1 ≤ r.size ∧ r.size ≤ 4096
  depth : 1 ≤ r.depth ∧ r.depth ≤ 64
  long : 0 ≤ r.long ∧ r.long ≤ 65536
  words : 0 ≤ r.words ∧ r.words ≤ 1048576
  ni : NilOk r.ia r.ic
  np : NilOk r.pa r.pc
structure BookIn (D : Nat → Prop) (w : World) (base bb : Nat) (v : Value) (rows : List BRow) : Prop where
  box : w.heap[bb]? = some (.cells #[v] 61 (0, 0))
  own : w.ownsRow base 68 16 v rows.length (rowsC rows)
  low : base ≤ bb
  nb : ¬ D bb
  nr : ∀ g, v.ownBlock = some g → ¬ D g
  ok : ∀ i r, rows[i]? = some r → RowOk D w rows i r
  len : rows.length ≤ 65536
theorem RowOk.ev {D : Nat → Prop} {w w' : World} {rows i r} (h : RowOk D w rows i r) (k : Ev D w w') : RowOk D w' rows i r :=
  ⟨h.ok, h.chk, h.items.ev k, h.parts.ev k, h.hand, h.err.ev k, h.size, h.depth, h.long, h.words, h.ni, h.np⟩
theorem RowOk.mono {D D' : Nat → Prop} {w : World} {rows i r} (h : RowOk D w rows i r) (k : ∀ b, D b → D' b) : RowOk D' w rows i r :=
  ⟨h.ok, h.chk, h.items.mono k, h.parts.mono k, h.hand, h.err.mono k, h.size, h.depth, h.long, h.words, h.ni, h.np⟩
theorem errAt_snoc (rows : List BRow) (r : BRow) (h : Int) (hh : h ≤ rows.length) : errAt (rows ++ [r]) h = errAt rows h := by
  unfold errAt
  by_cases h0 : h ≤ 0
  · rw [if_pos h0, if_pos h0]
  · rw [if_neg h0, if_neg h0, List.getElem?_append_left (by omega)]
theorem errAt_map_snoc (rows : List BRow) (r : BRow) (l : List Int) (hh : ∀ h ∈ l, h ≤ rows.length) : l.map (errAt (rows ++ [r])) = l.map (errAt rows) :=
  List.map_congr_left fun h hm => errAt_snoc rows r h (hh h hm)
theorem RowOk.snoc {D : Nat → Prop} {w : World} {rows i r} {r' : BRow} (h : RowOk D w rows i r) (hi : i < rows.length) : RowOk D w (rows ++ [r']) i r :=
  ⟨h.ok, h.chk, h.items, h.parts, h.hand, by rw [errAt_map_snoc _ _ _ (fun x hx => by have := (h.hand x hx).2; omega)]; exact h.err, h.size, h.depth, h.long, h.words, h.ni, h.np⟩
/-- A book stays, whatever else is done. -/
theorem BookIn.ex {D : Nat → Prop} {w w' : World} {base bb : Nat} {v : Value} {rows : List BRow} (h : BookIn D w base bb v rows) (k : Ev D w w') (hb : w'.heap[bb]? = w.heap[bb]?) (hr : ∀ g, v.ownBlock = some g → w'.heap[g]? = w.heap[g]?) : BookIn D w' base bb v rows :=
  ⟨by rw [hb]; exact h.box, by
    refine ⟨h.own.1, ?_⟩
    rcases h.own.2 with q | ⟨g, cap, cur, hv, hg, hh, r⟩
    · exact .inl q
    · exact .inr ⟨g, cap, cur, hv, hg, by rw [hr g (by rw [hv]; rfl)]; exact hh, r⟩, h.low, h.nb, h.nr, fun i r hi => (h.ok i r hi).ev k, h.len⟩
theorem own_at {w : World} {B : Nat} {e : TypeId} {size n g : Nat} {v : Value} {xs : List Value} (h : w.ownsRow B e size v n xs) (hg : v.ownBlock = some g) : B ≤ g ∧ g < w.heap.size ∧ ∃ cur, w.heap[g]? = some (.cells cur e (0, 0)) := by
  rcases h.2 with ⟨rfl, rfl⟩ | ⟨g', cap, cur, rfl, hbg, hh, _⟩
  · cases hg
  · cases hg
    exact ⟨hbg, (Array.getElem?_eq_some_iff.1 hh).1, cur, hh⟩
/-- .. by its two blocks. -/
def bookS (bb : Nat) (v : Value) : Nat → Prop := fun b => b = bb ∨ v.ownBlock = some b
theorem BookIn.below {D : Nat → Prop} {w w' : World} {base bb : Nat} {v : Value} {rows : List BRow} (h : BookIn D w base bb v rows) (k : Below w.heap.size w w') : BookIn D w' base bb v rows :=
  h.ex (Ev.of_below k) (k.block _ (lt_of_at h.box)) (fun g hg => k.block _ (own_at h.own hg).2.1)
theorem BookIn.apart {D S : Nat → Prop} {w w' : World} {base bb : Nat} {v : Value} {rows : List BRow} (h : BookIn D w base bb v rows) (k : Ex S w w') (hS : ∀ b, b < w.heap.size → S b → ¬ D b ∧ b ≠ bb ∧ v.ownBlock ≠ some b) : BookIn D w' base bb v rows :=
  h.ex (Ev.of_ex k fun b hb hD hs => (hS b hb hs).1 hD) (k.block _ (lt_of_at h.box) fun hs => (hS _ (lt_of_at h.box) hs).2.1 rfl)
    (fun g hg => k.block _ (own_at h.own hg).2.1 fun hs => (hS _ (own_at h.own hg).2.1 hs).2.2 hg)

def zSp : Sp := ⟨0, false, ⟨#[]⟩, 0, 0, 0, 0, false, 0, [], []⟩
def zRow : BRow := ⟨.nilIface, zSp, none, 0, none, 0, 0, 0, 0, 0⟩
def rowAt (rows : List BRow) (h : Int) : BRow := if 1 ≤ h ∧ h ≤ rows.length then rows.getD (h.toNat - 1) zRow else zRow
def atE (n : Nat) (h : Int) : Int := if 0 ≤ h ∧ h ≤ n then 0 else 50
theorem rowAt_zero (rows : List BRow) : rowAt rows 0 = zRow := by unfold rowAt; rw [if_neg (by omega)]
theorem rowAt_out (rows : List BRow) (h : Int) (hh : h < 1 ∨ rows.length < h) : rowAt rows h = zRow := by unfold rowAt; rw [if_neg (by omega)]
theorem rowAt_in (rows : List BRow) (h : Int) (h1 : 1 ≤ h) (h2 : h ≤ rows.length) : rows[h.toNat - 1]? = some (rowAt rows h) := by
  unfold rowAt
  rw [if_pos ⟨h1, h2⟩, List.getD_eq_getElem?_getD, List.getElem?_eq_getElem (by omega)]
  rfl
theorem rowAt_err (rows : List BRow) (h : Int) : (rowAt rows h).err = errAt rows h := by
  unfold rowAt errAt
  by_cases h0 : h ≤ 0
  · rw [if_neg (by omega), if_pos h0]; rfl
  · rw [if_neg h0]
    by_cases h2 : h ≤ rows.length
    · rw [if_pos (by omega), List.getD_eq_getElem?_getD, List.getElem?_eq_getElem (by omega)]; rfl
    · rw [if_neg (by omega), List.getElem?_eq_none (by omega)]; rfl

theorem range_of_row {w : World} {g k : Nat} {r : BRow} (h : ∀ j, j < 16 → w.cell? ⟨g, k + j, none⟩ = (rowC r)[j]?) : w.rangeAt g (k + 1) (spC r.sp r.ia r.ic r.pa r.pc).toList := by
  intro j u hu
  have hj : j < 11 := by
    have := (List.getElem?_eq_some_iff.1 hu).1
    simpa [spC] using this
  rw [show k + 1 + j = k + (j + 1) by omega, h (j + 1) (by omega)]
  rw [← hu]
  rcases j with _|_|_|_|_|_|_|_|_|_|_|j <;> first | rfl | omega

theorem new_any (w : World) : Calls Tryz.prog 5 #[] w fun e w' => e = .returned (.pointer (some ⟨w.heap.size, 0, none⟩)) ∧ w' = w.alloc (.cells #[.slice none 0 0] 61) := by
  go_enter Tryz.func5, Tryz.ntmps5
  go_wp2
  go_ret
  exact ⟨rfl, rfl⟩
theorem new_book (D : Nat → Prop) (w : World) (base : Nat) (hb : base ≤ w.heap.size) (hD : ∀ b, D b → b < w.heap.size) : BookIn D (w.alloc (.cells #[.slice none 0 0] 61)) base w.heap.size (.slice none 0 0) [] :=
  ⟨alloc_at _ _, ⟨rfl, .inl ⟨rfl, rfl⟩⟩, hb, (fun h => by have := hD _ h; omega), (fun g hg => by cases hg), (fun i r h => by simp at h), by simp⟩

set_option maxRecDepth 100000 in
/-- A handle's row; of 0, and of what names none, an empty one. -/
theorem at_any {D : Nat → Prop} {base bb : Nat} {v : Value} {rows : List BRow} (h : Int) (w : World) (hB : BookIn D w base bb v rows) :
    Calls Tryz.prog 24 #[.pointer (some ⟨bb, 0, none⟩), .int .i64 h] w fun e w' => ∃ g k, e = .returned (.tuple #[.pointer (some ⟨g, k, none⟩), .int .i64 (atE rows.length h)]) ∧
      (∀ j, j < 16 → w'.cell? ⟨g, k + j, none⟩ = (rowC (rowAt rows h))[j]?) ∧ Below w.heap.size w w' ∧ (v.ownBlock = some g ∨ w.heap.size ≤ g) := by
  have hbox := cell_of_block hB.box
  have c0 : w.cell? ⟨bb, 0, none⟩ = some v := hbox 0
  have hlen := hB.len
  have hz : ∀ j, j < 16 → (w.alloc (.cells rowZ 68)).cell? ⟨w.heap.size, 0 + j, none⟩ = (rowC zRow)[j]? := fun j _ => by rw [Nat.zero_add, rowZ_at]; exact (by rw [← List.getElem?_toArray]; rfl)
  by_cases h0 : h = 0
  · subst h0
    have HE := Lib.hid (show (0 : Int) = atE rows.length 0 by unfold atE; rw [if_pos (by omega)])
    have HZ := Lib.hid hz
    clear hbox c0 hB hz
    go_enter Tryz.func24, Tryz.ntmps24
    go_wp2
    go_ret2
    exact ⟨_, _, by rw [← HE.out]; rfl, by rw [rowAt_zero]; exact HZ.out, (Below.refl _ _).alloc (Nat.le_refl _) _, .inr (Nat.le_refl _)⟩
  · by_cases hn : h < 0
    · have HE := Lib.hid (show (50 : Int) = atE rows.length h by unfold atE; rw [if_neg (by omega)])
      have HR := Lib.hid (rowAt_out rows h (by omega))
      have i0 : (h == 0) = false := by simpa using h0
      have HZ := Lib.hid hz
      clear hbox hB hz h0
      go_enter Tryz.func24, Tryz.ntmps24
      go_wp2
      go_ret2
      exact ⟨_, _, by rw [← HE.out]; rfl, by rw [HR.out]; exact HZ.out, (Below.refl _ _).alloc (Nat.le_refl _) _, .inr (Nat.le_refl _)⟩
    · rcases hB.own.2 with ⟨hv, hx⟩ | ⟨g, cap, cur, hv, hg, hh, hnc, hcm, hcs, htk⟩
      · have hl0 : rows.length = 0 := hx
        have HE := Lib.hid (show (50 : Int) = atE rows.length h by unfold atE; rw [if_neg (by omega)])
        have HR := Lib.hid (rowAt_out rows h (by omega))
        have i0 : (h == 0) = false := by simpa using h0
        have hgt : 0 < h := by omega
        have HZ := Lib.hid hz
        rw [hv] at c0
        clear hbox hB hz h0 hl0 hlen hx
        go_enter Tryz.func24, Tryz.ntmps24
        go_wp2
        go_ret2
        exact ⟨_, _, by rw [← HE.out]; rfl, by rw [HR.out]; exact HZ.out, (Below.refl _ _).alloc (Nat.le_refl _) _, .inr (Nat.le_refl _)⟩
      · rw [hv] at c0
        by_cases hle : h ≤ rows.length
        · have HE := Lib.hid (show (0 : Int) = atE rows.length h by unfold atE; rw [if_pos (by omega)])
          have i0 : (h == 0) = false := by simpa using h0
          have hcells : ∀ j, j < 16 → w.cell? ⟨g, (h.toNat - 1) * 16 + j, none⟩ = (rowC (rowAt rows h))[j]? := by
            intro j hj
            have h3 := rowsC_get rows (h.toNat - 1) j _ (rowAt_in rows h (by omega) hle) hj
            obtain ⟨u, hu⟩ : ∃ u, (rowC (rowAt rows h))[j]? = some u := ⟨_, List.getElem?_eq_getElem (by rw [rowC_len]; exact hj)⟩
            rw [hu] at h3 ⊢
            have h4 := World.ownsRow.cells (g := g) hB.own (by rw [hv]; rfl) _ _ h3
            rw [show ((⟨g, 0, none⟩ : Addr).add ((h.toNat - 1) * 16 + j)) = ⟨g, (h.toNat - 1) * 16 + j, none⟩ by simp [Addr.add]; omega] at h4
            exact h4
          have hk : ((h - 1).toNat) = h.toNat - 1 := by omega
          have HC := Lib.hid hcells
          have j1 : ¬ ((rows.length : Int) < h) := by omega
          have j2 : h - 1 < (rows.length : Int) := by omega
          have j3 : 0 ≤ h - 1 := by omega
          clear hbox hB hz h0 hcells htk hcs
          go_enter Tryz.func24, Tryz.ntmps24
          go_wp2
          go_ret2
          exact ⟨_, _, by rw [← HE.out]; rfl, HC.out, Below.refl _ _, .inl rfl⟩
        · have HE := Lib.hid (show (50 : Int) = atE rows.length h by unfold atE; rw [if_neg (by omega)])
          have HR := Lib.hid (rowAt_out rows h (by omega))
          have i0 : (h == 0) = false := by simpa using h0
          have HZ := Lib.hid hz
          have j1 : (rows.length : Int) < h := by omega
          clear hbox hB hz h0 htk hcs
          go_enter Tryz.func24, Tryz.ntmps24
          go_wp2
          go_ret2
          exact ⟨_, _, by rw [← HE.out]; rfl, by rw [HR.out]; exact HZ.out, (Below.refl _ _).alloc (Nat.le_refl _) _, .inr (Nat.le_refl _)⟩
end Go.Proofs.YtfmnbhhpimpjbaaGreatDoor
