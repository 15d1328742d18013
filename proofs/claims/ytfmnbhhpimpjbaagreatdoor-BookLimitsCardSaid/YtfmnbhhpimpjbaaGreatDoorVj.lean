/- Book.Make. -/
import Derived.Test.YtfmnbhhpimpjbaaGreatDoorVg
import Derived.Test.YtfmnbhhpimpjbaaGreatDoorRg
namespace Go.Proofs.YtfmnbhhpimpjbaaGreatDoor
open Go.RowKit
set_option linter.unusedVariables false

/-- What is asked of a kind: how it is made, how long its text is. -/
structure KindOk (W : World) (T : Txt) (s : Sp) : Prop where
  make : ∀ ia ic pa pc ps a c w, NilOk ia ic → NilOk a c → ps.length = s.parts.length → (∀ v ∈ ps, EV v) → ItemsIn w ia s.items → ErrsIn w a ps →
    Calls Tryz.prog 27 #[.agg (spC s ia ic pa pc), .slice a ps.length c] w (Made w s ps)
  long : ∀ ia ic pa pc (ls : List Int) la lc w, Below W.heap.size W w → ls.length = s.parts.length → (∀ y ∈ ls, 0 ≤ y ∧ y ≤ 65536) → ItemsIn w ia s.items → PartsIn w pa s.parts → PartsIn w la ls →
    Calls Tryz.prog 28 #[.agg (spC s ia ic pa pc), .slice la ls.length lc] w fun e w' => e = .returned (.int .i64 (longOf T s ls)) ∧ Below w.heap.size w w'

def sumTo (f : Int → Int) (l : List Int) (k : Nat) : Int := ((l.take k).map f).sum
theorem sumTo_succ (f : Int → Int) (l : List Int) (k : Nat) (h : k < l.length) : sumTo f l (k + 1) = sumTo f l k + f (l.getD k 0) := by
  unfold sumTo
  rw [List.take_add_one, List.map_append, List.sum_append, List.getD_eq_getElem?_getD, List.getElem?_eq_getElem h]
  simp
theorem sumTo_bound (f : Int → Int) (l : List Int) (B : Int) (hf : ∀ x, 0 ≤ f x ∧ f x ≤ B) (k : Nat) : 0 ≤ sumTo f l k ∧ sumTo f l k ≤ B * k := by
  induction k with
  | zero => simp [sumTo]
  | succ k ih =>
    by_cases h : k < l.length
    · rw [sumTo_succ f l k h]
      have := hf (l.getD k 0)
      rw [show B * ((k + 1 : Nat) : Int) = B * k + B by rw [Int.natCast_add, Int.mul_add]; simp]
      omega
    · have e : sumTo f l (k + 1) = sumTo f l k := by unfold sumTo; rw [List.take_of_length_le (by omega), List.take_of_length_le (by omega)]
      rw [e, show B * ((k + 1 : Nat) : Int) = B * k + B by rw [Int.natCast_add, Int.mul_add]; simp]
      have := (hf 0)
      omega
def maxTo (f : Int → Int) (l : List Int) : Nat → Int
  | 0 => 1
  | k + 1 => max (maxTo f l k) (f (l.getD k 0) + 1)
theorem maxTo_bound (f : Int → Int) (l : List Int) (B : Int) (hB : 0 ≤ B) (hf : ∀ x, 0 ≤ f x ∧ f x ≤ B) (k : Nat) : 1 ≤ maxTo f l k ∧ maxTo f l k ≤ B + 1 := by
  induction k with
  | zero => simp [maxTo]; omega
  | succ k ih => have := hf (l.getD k 0); simp only [maxTo]; omega
def itemsTo (l : List ByteArray) (k : Nat) : Int := ((l.take k).map fun x => (x.size : Int)).sum
theorem itemsTo_succ (l : List ByteArray) (k : Nat) (h : k < l.length) : itemsTo l (k + 1) = itemsTo l k + ((l.getD k ⟨#[]⟩).size : Int) := by
  unfold itemsTo
  rw [List.take_add_one, List.map_append, List.sum_append, List.getD_eq_getElem?_getD, List.getElem?_eq_getElem h]
  simp
theorem itemsTo_bound (l : List ByteArray) (h : ∀ x ∈ l, x.size ≤ 4096) (k : Nat) : 0 ≤ itemsTo l k ∧ itemsTo l k ≤ 4096 * k := by
  induction k with
  | zero => simp [itemsTo]
  | succ k ih =>
    by_cases hk : k < l.length
    · rw [itemsTo_succ l k hk, List.getD_eq_getElem?_getD, List.getElem?_eq_getElem hk]
      have := h _ (List.getElem_mem hk)
      simp only [Option.getD_some]
      omega
    · have e : itemsTo l (k + 1) = itemsTo l k := by unfold itemsTo; rw [List.take_of_length_le (by omega), List.take_of_length_le (by omega)]
      rw [e]; omega
def sizeF (rows : List BRow) (s : Sp) : Int := 1 + sumTo (fun h => (rowAt rows h).size) s.parts s.parts.length
def depthF (rows : List BRow) (s : Sp) : Int := maxTo (fun h => (rowAt rows h).depth) s.parts s.parts.length
def wordsF (rows : List BRow) (s : Sp) : Int := s.text.size + itemsTo s.items s.items.length + sumTo (fun h => (rowAt rows h).words) s.parts s.parts.length
def longsOf (rows : List BRow) (s : Sp) : List Int := s.parts.map fun h => (rowAt rows h).long
def handsOk (rows : List BRow) (s : Sp) : Prop := ∀ h ∈ s.parts, 0 ≤ h ∧ h ≤ rows.length
/-- Bounds of any row that is asked. -/
theorem rowAt_bounds {D : Nat → Prop} {w : World} {base bb : Nat} {v : Value} {rows : List BRow} (hB : BookIn D w base bb v rows) (h : Int) :
    (0 ≤ (rowAt rows h).size ∧ (rowAt rows h).size ≤ 4096) ∧ (0 ≤ (rowAt rows h).depth ∧ (rowAt rows h).depth ≤ 64) ∧ (0 ≤ (rowAt rows h).long ∧ (rowAt rows h).long ≤ 65536) ∧ (0 ≤ (rowAt rows h).words ∧ (rowAt rows h).words ≤ 1048576) := by
  by_cases hh : 1 ≤ h ∧ h ≤ rows.length
  · have r := hB.ok _ _ (rowAt_in rows h hh.1 hh.2)
    have := r.size; have := r.depth; have := r.long; have := r.words
    omega
  · rw [rowAt_out rows h (by omega)]; decide

set_option maxRecDepth 100000 in
set_option maxHeartbeats 16000000 in
theorem bmake_bad (W : World) {D : Nat → Prop} {base bb : Nat} {v : Value} {rows : List BRow} (s : Sp) (hs : s.Ok) (ia : Option Addr) (ic : Nat) (pa : Option Addr) (pc : Nat) (w : World) (hB : BookIn D w base bb v rows) (hI : ItemsIn w ia s.items) (hP : PartsIn w pa s.parts)
    (hbad : ¬ handsOk rows s ∨ checkF s ≠ 0) :
    Calls Tryz.prog 6 #[.pointer (some ⟨bb, 0, none⟩), .agg (spC s ia ic pa pc)] w fun e w' => ∃ E, e = .returned (.tuple #[.int .i64 0, .int .i64 E]) ∧ (¬ handsOk rows s ∧ E = 50 ∨ handsOk rows s ∧ E = checkF s) ∧ Below w.heap.size w w' := by
  have HX := Lib.hid (alloc_at w (.cells (spC s ia ic pa pc) 34))
  have hb0 : Below w.heap.size w (w.alloc (.cells (spC s ia ic pa pc) 34)) := (Below.refl _ _).alloc (Nat.le_refl _) _
  have hcell := fun i => cell_of_block HX.out i
  have HB := Lib.hid hB
  have HI := Lib.hid hI
  have HP := Lib.hid hP
  have HS := Lib.hid hs
  have HBAD := Lib.hid hbad
  have hp := hs.parts
  have HB0 := Lib.hid hb0
  clear hB hI hP hs hbad
  unfold spC at *
  go_enter Tryz.func6, Tryz.ntmps6
  go_wp2_with fail
  go_loopw [27] (fun i x => ∃ k : Nat, i = .int .i64 k ∧ k ≤ s.parts.length ∧ (∀ j, j < k → 0 ≤ s.parts.getD j 0 ∧ s.parts.getD j 0 ≤ rows.length) ∧ Below w.heap.size w x ∧ x.heap[w.heap.size]? = some (.cells #[.int .u8 s.kind, .bool s.nil, .string s.text, .int .i16 s.number, .int .i8 s.small, .float .f64 s.re, .float .f64 s.im, .bool s.flag, .int .u32 s.mask, .slice ia s.items.length ic, .slice pa s.parts.length pc] 34 (0, 0))) (fun i _ => s.parts.length - (intOf i).toNat)
  case atStart => exact ⟨0, rfl, by omega, fun j hj => by omega, HB0.out, HX.out⟩
  case round =>
    obtain ⟨k, rfl, hk, hall, hb, hx⟩ := hrel
    clear hcell
    by_cases hlt : k < s.parts.length
    · obtain ⟨p, rfl, hq⟩ := (HP.out.below hb) (by omega)
      have ck := hq k hlt
      have i1 : (k : Int) < (s.parts.length : Int) := by omega
      obtain ⟨y, hy⟩ : ∃ y, y = s.parts.getD k 0 := ⟨_, rfl⟩
      have HA := Lib.hid (at_any y wr (HB.out.below hb))
      rw [← hy] at ck
      have HY := Lib.hid hy
      have HALL := Lib.hid hall
      have HXR := Lib.hid hx
      by_cases hin : 0 ≤ y ∧ y ≤ rows.length
      · have hE : atE rows.length y = 0 := by unfold atE; rw [if_pos hin]
        rw [hE] at HA
        have HIN := Lib.hid hin
        clear hq hall hx hin hE hy
        go_wp2_with fail
        refine HA.out.mono ?_
        rintro e w3 ⟨g, o, rfl, _, b3, _⟩
        have HB3 := Lib.hid (hb.trans (b3.mono hb.size))
        have HX3 := Lib.hid ((b3.block _ (lt_of_at HXR.out)).trans HXR.out)
        clear b3 HA
        go_wp2
        go_roundw
        case rel => exact ⟨k + 1, by go_num, by omega, fun j hj => by
          by_cases e : j = k
          · subst e; rw [← HY.out]; exact HIN.out
          · exact HALL.out j (by omega), HB3.out, HX3.out⟩
        case measure => simp [intOf]; omega
      · have hE : atE rows.length y = 50 := by unfold atE; rw [if_neg hin]
        have HNO := Lib.hid (show ¬ handsOk rows s from fun h => hin (by
          have hm : y ∈ s.parts := by rw [hy, List.getD_eq_getElem?_getD, List.getElem?_eq_getElem hlt]; exact List.getElem_mem hlt
          exact h y hm))
        rw [hE] at HA
        clear hq hall hx hin hE hy
        go_wp2_with fail
        refine HA.out.mono ?_
        rintro e w3 ⟨g, o, rfl, _, b3, _⟩
        have HB3 := Lib.hid (hb.trans (b3.mono hb.size))
        clear b3 HA
        go_wp2
        go_ret2
        exact ⟨50, rfl, .inl ⟨HNO.out, rfl⟩, HB3.out⟩
    · obtain rfl : k = s.parts.length := by omega
      have HOK := Lib.hid (show handsOk rows s from fun h hm => by
        obtain ⟨j, hj, e⟩ := List.getElem_of_mem hm
        have := hall j hj
        rw [List.getD_eq_getElem?_getD, List.getElem?_eq_getElem hj] at this
        rw [← e]; exact this)
      have HXR := Lib.hid hx
      have hc0 : checkF s ≠ 0 := HBAD.out.resolve_left (fun h => h HOK.out)
      have hcn : (checkF s != 0) = true := by simpa using hc0
      have HC := Lib.hid (check_any s HS.out ia ic pa pc wr (HI.out.below hb))
      unfold spC at HC
      obtain ⟨c, hcc⟩ : ∃ c, c = checkF s := ⟨_, rfl⟩
      rw [← hcc] at HC hcn
      have HCC := Lib.hid hcc
      clear hall hx hlt hc0 HBAD hcc
      go_wp2_with ((with_reducible refine at_op (.load 34 (.tmp 3)) rfl ?_); refine wpList_load_row rfl 34 (.tmp 3) rfl w.heap.size rfl 34 _ (0, 0) _ HXR.out Tryz.underlying34 rfl (by kernel_rfl) ?_)
      refine HC.out.mono ?_
      rintro e w3 ⟨rfl, b3⟩
      have HB3 := Lib.hid (hb.trans (b3.mono hb.size))
      clear b3 HC
      go_wp2
      go_ret2
      exact ⟨c, rfl, .inr ⟨HOK.out, HCC.out⟩, HB3.out⟩
end Go.Proofs.YtfmnbhhpimpjbaaGreatDoor
