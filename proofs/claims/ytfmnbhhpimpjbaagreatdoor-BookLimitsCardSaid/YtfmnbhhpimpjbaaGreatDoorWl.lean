/- A book of a call's own: what else stays while it grows; what is refused; its rows' numbers. -/
import Derived.Test.YtfmnbhhpimpjbaaGreatDoorWk
namespace Go.Proofs.YtfmnbhhpimpjbaaGreatDoor
open Go.RowKit
set_option linter.unusedVariables false

/-- What is no book's stays. -/
def Keep (x y : World) : Prop := ∀ (c : Nat) (cs : Array Value) (t : TypeId) (fr : Nat × Nat), x.heap[c]? = some (.cells cs t fr) → t ≠ 61 → t ≠ 68 → y.heap[c]? = some (.cells cs t fr)
theorem Keep.refl (x : World) : Keep x x := fun _ _ _ _ h _ _ => h
theorem Keep.trans {x y z : World} (h : Keep x y) (k : Keep y z) : Keep x z := fun c cs t fr a b d => k c cs t fr (h c cs t fr a b d) b d
theorem Keep.of_below {x y : World} (h : Below x.heap.size x y) : Keep x y := fun c cs t fr a _ _ => by rw [h.block c (lt_of_at a)]; exact a
theorem Keep.of_ex {D : Nat → Prop} {x y : World} {base bb : Nat} {v : Value} {rows : List BRow} (hB : BookIn D x base bb v rows) (h : Ex (bookS bb v) x y) : Keep x y := fun c cs t fr a h1 h2 => by
  rw [h.block c (lt_of_at a) (fun q => by
    rcases q with rfl | q
    · rw [hB.box] at a; cases a; exact h1 rfl
    · obtain ⟨_, _, cur, hc⟩ := own_at hB.own q
      rw [hc] at a; cases a; exact h2 rfl)]
  exact a
theorem Keep.own {x y : World} (h : Keep x y) {B : Nat} {e : TypeId} {size n : Nat} {v : Value} {xs : List Value} (ho : x.ownsRow B e size v n xs) (h1 : e ≠ 61) (h2 : e ≠ 68) : y.ownsRow B e size v n xs := by
  refine ⟨ho.1, ?_⟩
  rcases ho.2 with q | ⟨g, cap, cur, hv, hg, hh, r⟩
  · exact .inl q
  · exact .inr ⟨g, cap, cur, hv, hg, h _ _ _ _ hh h1 h2, r⟩
def MadeAt (T : Txt) (w0 : World) (bb : Nat) (rows : List BRow) (s : Sp) (x : World) (e : Ending) (y : World) : Prop :=
  ∃ r, e = .returned (.tuple #[.int .i64 ((rows.length : Int) + 1), .int .i64 0]) ∧ Wk w0 bb (rows ++ [r]) y ∧ r.sp = s ∧ Nums T rows r ∧ Keep x y ∧ x.heap.size ≤ y.heap.size
theorem wk_make_at (W : World) (T : Txt) {w0 : World} {bb : Nat} {rows : List BRow} (s : Sp) (hs : s.Ok) (hko : KindOk W T s) (ia : Option Addr) (ic : Nat) (pa : Option Addr) (pc : Nat) (hia : NilOk ia ic) (hpa : NilOk pa pc) (x : World) (hW : Below W.heap.size W x)
    (hk : Wk w0 bb rows x) (hI : ItemsIn x ia s.items) (hP : PartsIn x pa s.parts) (hh : handsOk rows s) (hc : checkF s = 0) (hE : mkE T rows s = 0) :
    Calls Tryz.prog 6 #[.pointer (some ⟨bb, 0, none⟩), .agg (spC s ia ic pa pc)] x (MadeAt T w0 bb rows s x) := by
  obtain ⟨D, v, hB, hD, hb⟩ := hk
  refine (bmake_ok W T s hs hko ia ic pa pc hia hpa x hW hB hD hI hP hh hc).mono ?_
  rintro e y (⟨h, _⟩ | ⟨_, he, v', D', r, hB', hsp, h1, h2, h3, h4, hex, _, _, hD'⟩)
  · exact absurd hE h
  · refine ⟨r, he, ⟨D', v', hB', hD', hb.trans (hex.below (B := w0.heap.size) (fun b q => ?_) hb.size)⟩, hsp, ⟨by rw [hsp]; exact h1, by rw [hsp]; exact h2, by rw [hsp]; exact h3, by rw [hsp]; exact h4⟩, .of_ex hB hex, hex.size⟩
    rcases q with rfl | q
    · exact hB.low
    · exact (own_at hB.own q).1
theorem wk_make_no (W : World) (T : Txt) {w0 : World} {bb : Nat} {rows : List BRow} (s : Sp) (hs : s.Ok) (hko : KindOk W T s) (ia : Option Addr) (ic : Nat) (pa : Option Addr) (pc : Nat) (hia : NilOk ia ic) (hpa : NilOk pa pc) (x : World) (hW : Below W.heap.size W x)
    (hk : Wk w0 bb rows x) (hI : ItemsIn x ia s.items) (hP : PartsIn x pa s.parts) (hh : handsOk rows s) (hc : checkF s = 0) (E : Int) (hE : mkE T rows s = E) (hE0 : E ≠ 0) :
    Calls Tryz.prog 6 #[.pointer (some ⟨bb, 0, none⟩), .agg (spC s ia ic pa pc)] x fun e y => e = .returned (.tuple #[.int .i64 0, .int .i64 E]) ∧ Below x.heap.size x y := by
  obtain ⟨D, v, hB, hD, hb⟩ := hk
  refine (bmake_ok W T s hs hko ia ic pa pc hia hpa x hW hB hD hI hP hh hc).mono ?_
  rintro e y (⟨h, he, hb'⟩ | ⟨h, _⟩)
  · exact ⟨by rw [he, hE], hb'⟩
  · rw [hE] at h; exact absurd h hE0
theorem wk_make_bad (W : World) {w0 : World} {bb : Nat} {rows : List BRow} (s : Sp) (hs : s.Ok) (ia : Option Addr) (ic : Nat) (pa : Option Addr) (pc : Nat) (x : World)
    (hk : Wk w0 bb rows x) (hI : ItemsIn x ia s.items) (hP : PartsIn x pa s.parts) (hh : handsOk rows s) (hc : checkF s ≠ 0) :
    Calls Tryz.prog 6 #[.pointer (some ⟨bb, 0, none⟩), .agg (spC s ia ic pa pc)] x fun e y => e = .returned (.tuple #[.int .i64 0, .int .i64 (checkF s)]) ∧ Below x.heap.size x y := by
  obtain ⟨D, v, hB, hD, hb⟩ := hk
  refine (bmake_bad W s hs ia ic pa pc x hB hI hP (.inr hc)).mono ?_
  rintro e y ⟨E, he, h, hb'⟩
  rcases h with ⟨h, _⟩ | ⟨_, h⟩
  · exact absurd hh h
  · exact ⟨by rw [he, h], hb'⟩
/-- As Wk; blocks of G are none of the book's data. -/
def WkO (G : Nat → Prop) (w0 : World) (bb : Nat) (rows : List BRow) (x : World) : Prop := ∃ D v, BookIn D x w0.heap.size bb v rows ∧ (∀ b, D b → b < x.heap.size) ∧ Below w0.heap.size w0 x ∧ ∀ g, G g → ¬ D g
theorem WkO.wk {G : Nat → Prop} {w0 x : World} {bb : Nat} {rows : List BRow} (h : WkO G w0 bb rows x) : Wk w0 bb rows x := by obtain ⟨D, v, a, b, c, _⟩ := h; exact ⟨D, v, a, b, c⟩
theorem Wk.off {w0 x y : World} {bb : Nat} {rows : List BRow} (h : Wk w0 bb rows x) (k : Below x.heap.size x y) (G : Nat → Prop) (hG : ∀ g, G g → x.heap.size ≤ g) : WkO G w0 bb rows y := by
  obtain ⟨D, v, hB, hD, hb⟩ := h
  exact ⟨D, v, hB.below k, fun b q => Nat.lt_of_lt_of_le (hD b q) k.size, hb.trans (k.mono hb.size), fun g hg hd => by have := hG g hg; have := hD g hd; omega⟩
theorem WkO.below {G : Nat → Prop} {w0 x y : World} {bb : Nat} {rows : List BRow} (h : WkO G w0 bb rows x) (k : Below x.heap.size x y) : WkO G w0 bb rows y := by
  obtain ⟨D, v, hB, hD, hb, hg⟩ := h
  exact ⟨D, v, hB.below k, fun b q => Nat.lt_of_lt_of_le (hD b q) k.size, hb.trans (k.mono hb.size), hg⟩
/-- What is written to a block of G, or made new, is none of the book's. -/
theorem WkO.ex {G S : Nat → Prop} {w0 x y : World} {bb : Nat} {rows : List BRow} (h : WkO G w0 bb rows x) (k : Ex S x y) (hS : ∀ b, S b → G b ∧ w0.heap.size ≤ b ∧ ∃ cs t fr, x.heap[b]? = some (.cells cs t fr) ∧ t ≠ 61 ∧ t ≠ 68) : WkO G w0 bb rows y := by
  obtain ⟨D, v, hB, hD, hb, hg⟩ := h
  refine ⟨D, v, hB.apart k fun b hlt hs => ?_, fun b q => Nat.lt_of_lt_of_le (hD b q) k.size, hb.trans (k.below (fun b hs => (hS b hs).2.1) hb.size), hg⟩
  obtain ⟨h1, _, cs, t, fr, h2, h3, h4⟩ := hS b hs
  refine ⟨hg b h1, fun e => ?_, fun e => ?_⟩
  · subst e; rw [hB.box] at h2; cases h2; exact h3 rfl
  · obtain ⟨_, _, cur, hc⟩ := own_at hB.own e
    rw [hc] at h2; cases h2; exact h4 rfl
theorem WkO.set {G : Nat → Prop} {w0 x : World} {bb : Nat} {rows : List BRow} (h : WkO G w0 bb rows x) (g i : Nat) (v : Value) (hg : G g) (hlo : w0.heap.size ≤ g) {cs : Array Value} {t : TypeId} {fr : Nat × Nat} (hx : x.heap[g]? = some (.cells cs t fr)) (h1 : t ≠ 61) (h2 : t ≠ 68) : WkO G w0 bb rows (x.setCell ⟨g, i, none⟩ v) :=
  h.ex ((Ex.refl (fun b => b = g) x).setCell _ _ (.inl rfl)) fun b hb => by subst hb; exact ⟨hg, hlo, cs, t, fr, hx, h1, h2⟩
def MadeO (T : Txt) (G : Nat → Prop) (w0 : World) (bb : Nat) (rows : List BRow) (s : Sp) (x : World) (e : Ending) (y : World) : Prop :=
  ∃ r, e = .returned (.tuple #[.int .i64 ((rows.length : Int) + 1), .int .i64 0]) ∧ WkO G w0 bb (rows ++ [r]) y ∧ r.sp = s ∧ Nums T rows r ∧ Keep x y ∧ x.heap.size ≤ y.heap.size
theorem wk_make_o (W : World) (T : Txt) {G : Nat → Prop} {w0 : World} {bb : Nat} {rows : List BRow} (s : Sp) (hs : s.Ok) (hko : KindOk W T s) (ia : Option Addr) (ic : Nat) (pa : Option Addr) (pc : Nat) (hia : NilOk ia ic) (hpa : NilOk pa pc) (x : World) (hW : Below W.heap.size W x)
    (hk : WkO G w0 bb rows x) (hG : ∀ g, G g → g < x.heap.size) (hI : ItemsIn x ia s.items) (hP : PartsIn x pa s.parts) (hh : handsOk rows s) (hc : checkF s = 0) (hE : mkE T rows s = 0) :
    Calls Tryz.prog 6 #[.pointer (some ⟨bb, 0, none⟩), .agg (spC s ia ic pa pc)] x (MadeO T G w0 bb rows s x) := by
  obtain ⟨D, v, hB, hD, hb, hg⟩ := hk
  refine (bmake_ok W T s hs hko ia ic pa pc hia hpa x hW hB hD hI hP hh hc).mono ?_
  rintro e y (⟨h, _⟩ | ⟨_, he, v', D', r, hB', hsp, h1, h2, h3, h4, hex, _, hback, hD'⟩)
  · exact absurd hE h
  · refine ⟨r, he, ⟨D', v', hB', hD', hb.trans (hex.below (B := w0.heap.size) (fun b q => ?_) hb.size), fun g h1 h2 => hg g h1 (hback g (hG g h1) h2)⟩, hsp, ⟨by rw [hsp]; exact h1, by rw [hsp]; exact h2, by rw [hsp]; exact h3, by rw [hsp]; exact h4⟩, .of_ex hB hex, hex.size⟩
    rcases q with rfl | q
    · exact hB.low
    · exact (own_at hB.own q).1
/-- A handle's numbers. -/
structure At (rows : List BRow) (h : Int) (sz dp lg wd : Int) : Prop where
  lo : 0 ≤ h
  hi : h ≤ rows.length
  size : (rowAt rows h).size = sz
  depth : (rowAt rows h).depth = dp
  long : (rowAt rows h).long = lg
  words : (rowAt rows h).words = wd
theorem At.zero (rows : List BRow) : At rows 0 0 0 0 0 := by
  refine ⟨by omega, by omega, ?_, ?_, ?_, ?_⟩ <;> rw [rowAt_zero] <;> rfl
theorem rowAt_snoc (rows : List BRow) (r : BRow) (h : Int) (hh : h ≤ rows.length) : rowAt (rows ++ [r]) h = rowAt rows h := by
  unfold rowAt
  by_cases h1 : 1 ≤ h
  · rw [if_pos ⟨h1, by simp; omega⟩, if_pos ⟨h1, hh⟩, List.getD_eq_getElem?_getD, List.getD_eq_getElem?_getD, List.getElem?_append_left (by omega)]
  · rw [if_neg (by omega), if_neg (by omega)]
theorem rowAt_last (rows : List BRow) (r : BRow) (h : Int) (hh : h = rows.length + 1) : rowAt (rows ++ [r]) h = r := by
  subst hh
  unfold rowAt
  rw [if_pos ⟨by omega, by simp⟩, List.getD_eq_getElem?_getD, List.getElem?_append_right (by omega)]
  have : ((rows.length : Int) + 1).toNat - 1 - rows.length = 0 := by omega
  rw [this]; rfl
theorem At.snoc {rows : List BRow} {h sz dp lg wd : Int} (k : At rows h sz dp lg wd) (r : BRow) : At (rows ++ [r]) h sz dp lg wd := by
  have e := rowAt_snoc rows r h k.hi
  exact ⟨k.lo, by have := k.hi; simp; omega, by rw [e]; exact k.size, by rw [e]; exact k.depth, by rw [e]; exact k.long, by rw [e]; exact k.words⟩
theorem At.last {T : Txt} {rows : List BRow} {r : BRow} (hn : Nums T rows r) : At (rows ++ [r]) ((rows.length : Int) + 1) (sizeF rows r.sp) (depthF rows r.sp) (longT T rows r.sp) (wordsF rows r.sp) := by
  have e := rowAt_last rows r ((rows.length : Int) + 1) rfl
  exact ⟨by omega, by simp, by rw [e]; exact hn.size, by rw [e]; exact hn.depth, by rw [e]; exact hn.long, by rw [e]; exact hn.words⟩
/-- The sums, in short. -/
theorem sizeF_eq (rows : List BRow) (s : Sp) : sizeF rows s = 1 + (s.parts.map fun h => (rowAt rows h).size).sum := by unfold sizeF sumTo; rw [List.take_length]
theorem wordsF_eq (rows : List BRow) (s : Sp) : wordsF rows s = s.text.size + (s.items.map fun x => (x.size : Int)).sum + (s.parts.map fun h => (rowAt rows h).words).sum := by unfold wordsF sumTo itemsTo; rw [List.take_length, List.take_length]
theorem maxTo_le (f : Int → Int) (l : List Int) (B : Int) (hf : ∀ x ∈ l, f x ≤ B) (h0 : 0 ≤ B) : ∀ k, k ≤ l.length → maxTo f l k ≤ B + 1
  | 0, _ => by simp [maxTo]; omega
  | k + 1, hk => by
    have := maxTo_le f l B hf h0 k (by omega)
    have hm := hf (l.getD k 0) (by rw [List.getD_eq_getElem?_getD, List.getElem?_eq_getElem (by omega)]; exact List.getElem_mem _)
    simp only [maxTo]; omega
theorem depthF_le (rows : List BRow) (s : Sp) (B : Int) (hf : ∀ x ∈ s.parts, (rowAt rows x).depth ≤ B) (h0 : 0 ≤ B) : depthF rows s ≤ B + 1 := maxTo_le _ _ B hf h0 _ (Nat.le_refl _)
theorem lensF_eq (rows : List BRow) (l : List Int) : lensF l (l.map fun h => (rowAt rows h).long) l.length = (l.filter fun h => decide (h ≠ 0)).map fun h => clampF (rowAt rows h).long := by
  have key : ∀ k, k ≤ l.length → lensF l (l.map fun h => (rowAt rows h).long) k = ((l.take k).filter fun h => decide (h ≠ 0)).map fun h => clampF (rowAt rows h).long := by
    intro k
    induction k with
    | zero => intro _; simp [lensF]
    | succ k ih =>
      intro hk
      have hlt : k < l.length := by omega
      rw [lensF_succ, ih (by omega), List.take_add_one, List.getElem?_eq_getElem hlt, List.filter_append, List.map_append]
      congr 1
      have e1 : l.getD k 0 = l[k] := by rw [List.getD_eq_getElem?_getD, List.getElem?_eq_getElem hlt]; rfl
      have e2 : (l.map fun h => (rowAt rows h).long).getD k 0 = (rowAt rows l[k]).long := by
        rw [List.getD_eq_getElem?_getD, List.getElem?_map, List.getElem?_eq_getElem hlt]; rfl
      rw [e1, e2]
      by_cases h0 : l[k] = 0
      · rw [if_pos h0]; simp [h0]
      · rw [if_neg h0]; simp [h0]
  have := key l.length (Nat.le_refl _)
  rwa [List.take_length] at this
theorem longT_eq (T : Txt) (rows : List BRow) (s : Sp) : longT T rows s = longK T s (((s.parts.filter fun h => decide (h ≠ 0)).map fun h => clampF (rowAt rows h).long).sum) ((s.parts.filter fun h => decide (h ≠ 0)).length) := by
  unfold longT longOf longsOf
  rw [lensF_eq, List.length_map]
end Go.Proofs.YtfmnbhhpimpjbaaGreatDoor
