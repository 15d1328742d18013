/- BookLimits, plainly: the numbers of what is made. -/
import Derived.Test.YtfmnbhhpimpjbaaGreatDoorWl
namespace Go.Proofs.YtfmnbhhpimpjbaaGreatDoor
open Go.RowKit
set_option linter.unusedVariables false

def spL (k : Int) (t : ByteArray) (n : Int) (it : List ByteArray) (l : List Int) : Sp := ⟨k, false, t, n, 0, 0, 0, false, 0, it, l⟩
theorem spL_ok (k : Int) (t : ByteArray) (n : Int) (it : List ByteArray) (l : List Int) (h1 : 0 ≤ k ∧ k ≤ 255) (h2 : -32768 ≤ n ∧ n ≤ 32767) (h3 : t.size ≤ 4096) (h4 : it.length ≤ 64) (h5 : ∀ x ∈ it, x.size ≤ 4096) (h6 : l.length ≤ 64) : (spL k t n it l).Ok :=
  ⟨h1, h2, ⟨by show -128 ≤ (0 : Int); decide, by show (0 : Int) ≤ 127; decide⟩, ⟨by show 0 ≤ (0 : Int); decide, by show (0 : Int) ≤ 4294967295; decide⟩, by show t.size ≤ _; omega, by show it.length ≤ _; omega, by show l.length ≤ _; omega, fun x hx => by have := h5 x hx; omega⟩
def e0 : ByteArray := ⟨#[]⟩
theorem e0_size : e0.size = 0 := rfl
def Tz : Txt := ⟨fun _ => ⟨#[]⟩, fun _ _ => ⟨#[]⟩, fun _ _ => ⟨#[]⟩⟩
theorem own_slice_form' {w : World} {B : Nat} {e : TypeId} {size n : Nat} {v : Value} {xs : List Value} (h : w.ownsRow B e size v n xs) : ∃ a c, v = .slice a n c := by
  rcases h.2 with ⟨rfl, q⟩ | ⟨g, cap, cur, hv, _⟩
  · subst q; exact ⟨_, _, rfl⟩
  · exact ⟨_, _, hv⟩
theorem i16_range (x : Int) : -32768 ≤ IntKind.i16.wrap x ∧ IntKind.i16.wrap x ≤ 32767 := by
  unfold IntKind.wrap
  show -32768 ≤ (if (true && decide (x % 2 ^ 16 ≥ 2 ^ (16 - 1))) = true then x % 2 ^ 16 - 2 ^ 16 else x % 2 ^ 16) ∧ (if (true && decide (x % 2 ^ 16 ≥ 2 ^ (16 - 1))) = true then x % 2 ^ 16 - 2 ^ 16 else x % 2 ^ 16) ≤ 32767
  by_cases h : x % 2 ^ 16 ≥ 2 ^ (16 - 1)
  · rw [if_pos (by simpa using h)]; omega
  · rw [if_neg (by simpa using h)]; omega
/-- A spec that may be. -/
theorem chk_of (s : Sp) (hn : s.nil = false) (h1 : ownF s = true) (h2 : s.text.size ≤ 4096) (h3 : s.items.length ≤ 64) (h4 : ∀ x ∈ s.items, x.size ≤ 4096) (h5 : bareF s (fieldsF s.kind s.number) = true) (h6 : (s.parts.length : Int) ≤ mostF s.kind) : checkF s = 0 := by
  unfold checkF
  have h4' : longF s = false := by
    unfold longF
    rw [List.any_eq_false]
    intro x hx
    have := h4 x hx
    simp; omega
  rw [if_neg (by rw [h1]; simp; omega), if_neg (by rw [h4']; simp), if_neg (by rw [h5]; simp), if_neg (by rw [hn]; simp), if_neg (by rw [hn]; simp; exact h6)]
theorem chkL (k : Int) (t : ByteArray) (n : Int) (it : List ByteArray) (l : List Int) (h1 : ownF (spL k t n it l) = true) (h2 : t.size ≤ 4096) (h3 : it.length ≤ 64) (h4 : ∀ x ∈ it, x.size ≤ 4096) (h5 : bareF (spL k t n it l) (fieldsF k n) = true) (h6 : (l.length : Int) ≤ mostF k) : checkF (spL k t n it l) = 0 :=
  chk_of _ rfl h1 h2 h3 h4 h5 h6
/-- What mkE says, by its numbers. -/
theorem mkE_ok (T : Txt) (rows : List BRow) (s : Sp) (h1 : sizeF rows s ≤ 4096) (h2 : depthF rows s ≤ 64) (h3 : longT T rows s ≤ 65536) (h4 : wordsF rows s ≤ 1048576) (h5 : rows.length < 65536) : mkE T rows s = 0 := by
  unfold mkE
  rw [if_neg (by omega), if_neg (by omega), if_neg (by omega), if_neg (by omega)]
theorem mkE_text (T : Txt) (rows : List BRow) (s : Sp) (h1 : sizeF rows s ≤ 4096) (h2 : depthF rows s ≤ 64) (h3 : 65536 < longT T rows s ∨ 1048576 < wordsF rows s) : mkE T rows s = 53 := by
  unfold mkE
  rw [if_neg (by omega), if_neg (by omega), if_pos h3]
theorem mkE_size (T : Txt) (rows : List BRow) (s : Sp) (h1 : 4096 < sizeF rows s) : mkE T rows s = 51 := by
  unfold mkE
  rw [if_pos h1]
/-- A chain of Wraps. -/
theorem chain_step (T : Txt) (rows : List BRow) (k : Nat) (lg : Int) (hk : k ≤ 63) (h : At rows k k k lg 0) (h0 : 0 ≤ lg ∧ lg ≤ 2 * k) (hn : rows.length < 65536) :
    mkE T rows (spL 14 e0 0 [] [(k : Int)]) = 0 ∧ ∀ r, Nums T rows r → r.sp = spL 14 e0 0 [] [(k : Int)] → rows.length = k → ∃ lg', At (rows ++ [r]) ((k : Int) + 1) ((k : Int) + 1) ((k : Int) + 1) lg' 0 ∧ 0 ≤ lg' ∧ lg' ≤ 2 * ((k : Int) + 1) := by
  have e1 : sizeF rows (spL 14 e0 0 [] [(k : Int)]) = 1 + k := by rw [sizeF_eq]; simp [spL, h.size]
  have e2 : depthF rows (spL 14 e0 0 [] [(k : Int)]) = k + 1 := by unfold depthF; simp [spL, maxTo, h.depth]; omega
  have e3 : wordsF rows (spL 14 e0 0 [] [(k : Int)]) = 0 := by rw [wordsF_eq]; simp [spL, h.words, e0_size]
  have e4 : 0 ≤ longT T rows (spL 14 e0 0 [] [(k : Int)]) ∧ longT T rows (spL 14 e0 0 [] [(k : Int)]) ≤ 2 * ((k : Int) + 1) := by
    rw [longT_eq]
    by_cases hz : k = 0
    · subst hz; simp [spL, longK, e0_size]
    · have : (k : Int) ≠ 0 := by omega
      have hf : ((spL 14 e0 0 [] [(k : Int)]).parts.filter fun h => decide (h ≠ 0)) = [(k : Int)] := by simp [spL, hz]
      rw [hf]
      simp [spL, longK, e0_size, h.long, clampF]
      omega
  refine ⟨mkE_ok T rows _ (by omega) (by omega) (by omega) (by omega) hn, fun r hr hs hl => ?_⟩
  have hA := At.last hr
  rw [hs, e1, e2, e3, hl] at hA
  refine ⟨_, ?_, e4⟩
  rw [show (1 : Int) + k = k + 1 by omega] at hA
  exact hA
theorem chain_end (T : Txt) (rows : List BRow) (lg : Int) (h : At rows 64 64 64 lg 0) : mkE T rows (spL 15 e0 0 [] [64]) = 52 := by
  have e1 : sizeF rows (spL 15 e0 0 [] [64]) = 65 := by rw [sizeF_eq]; simp [spL, h.size]
  have e2 : depthF rows (spL 15 e0 0 [] [64]) = 65 := by unfold depthF; simp [spL, maxTo, h.depth]; omega
  unfold mkE
  rw [if_neg (by omega), if_pos (by omega)]
/-- A leaf without words. -/
theorem leaf9 (T : Txt) (rows : List BRow) (hn : rows.length < 65536) : mkE T rows (spL 9 e0 0 [] []) = 0 ∧ ∀ r, Nums T rows r → r.sp = spL 9 e0 0 [] [] → At (rows ++ [r]) ((rows.length : Int) + 1) 1 1 0 0 := by
  have e1 : sizeF rows (spL 9 e0 0 [] []) = 1 := by rw [sizeF_eq]; simp [spL]
  have e2 : depthF rows (spL 9 e0 0 [] []) = 1 := by unfold depthF; simp [spL, maxTo]
  have e3 : wordsF rows (spL 9 e0 0 [] []) = 0 := by rw [wordsF_eq]; simp [spL, e0_size]
  have e4 : longT T rows (spL 9 e0 0 [] []) = 0 := by rw [longT_eq]; simp [spL, longK, e0_size]
  refine ⟨mkE_ok T rows _ (by omega) (by omega) (by omega) (by omega) hn, fun r hr hs => ?_⟩
  have hA := At.last hr
  rw [hs, e1, e2, e3, e4] at hA
  exact hA
theorem sum_rep (n : Nat) (x : Int) : (List.replicate n x).sum = n * x := by
  induction n with
  | zero => simp
  | succ n ih => rw [List.replicate_succ, List.sum_cons, ih]; push_cast; rw [Int.add_mul]; omega
/-- Many alike in a Join, and others behind them. -/
theorem join_nums (T : Txt) (rows : List BRow) (a : Int) (n : Nat) (l : List Int) (sz dp lg wd : Int) (h : At rows a sz dp lg wd) (ha : a ≠ 0) (hlg : 0 ≤ lg ∧ lg ≤ 65536) :
    sizeF rows (spL 16 e0 0 [] (List.replicate n a ++ l)) = 1 + n * sz + (l.map fun h => (rowAt rows h).size).sum ∧
    wordsF rows (spL 16 e0 0 [] (List.replicate n a ++ l)) = n * wd + (l.map fun h => (rowAt rows h).words).sum ∧
    longT T rows (spL 16 e0 0 [] (List.replicate n a ++ l)) = n * lg + ((l.filter fun h => decide (h ≠ 0)).map fun h => clampF (rowAt rows h).long).sum + max 0 (((n + (l.filter fun h => decide (h ≠ 0)).length : Nat) : Int) - 1) := by
  refine ⟨?_, ?_, ?_⟩
  · rw [sizeF_eq]
    show 1 + ((List.replicate n a ++ l).map fun h => (rowAt rows h).size).sum = _
    rw [List.map_append, List.map_replicate, List.sum_append, sum_rep, h.size]; omega
  · rw [wordsF_eq]
    show (0 : Int) + 0 + ((List.replicate n a ++ l).map fun h => (rowAt rows h).words).sum = _
    rw [List.map_append, List.map_replicate, List.sum_append, sum_rep, h.words]; omega
  · rw [longT_eq]
    have hf : (List.replicate n a ++ l).filter (fun h => decide (h ≠ 0)) = List.replicate n a ++ l.filter (fun h => decide (h ≠ 0)) := by
      rw [List.filter_append, List.filter_replicate, if_pos (by simpa using ha)]
    show longK T (spL 16 e0 0 [] _) ((((List.replicate n a ++ l).filter fun h => decide (h ≠ 0)).map fun h => clampF (rowAt rows h).long).sum) (((List.replicate n a ++ l).filter fun h => decide (h ≠ 0)).length) = _
    rw [hf, List.map_append, List.map_replicate, List.sum_append, sum_rep, h.long, List.length_append, List.length_replicate]
    have hc : clampF lg = lg := by unfold clampF; omega
    rw [hc]
    rfl
theorem join_depth (rows : List BRow) (l : List Int) (B : Int) (hf : ∀ x ∈ l, (rowAt rows x).depth ≤ B) (h0 : 0 ≤ B) : depthF rows (spL 16 e0 0 [] l) ≤ B + 1 := depthF_le rows _ B hf h0
/-- A code. -/
theorem code_nums (T : Txt) (rows : List BRow) (n : Int) (h1 : -32768 ≤ n) (h2 : n ≤ 32767) : sizeF rows (spL 1 e0 n [] []) = 1 ∧ depthF rows (spL 1 e0 n [] []) = 1 ∧ wordsF rows (spL 1 e0 n [] []) = 0 ∧ longT T rows (spL 1 e0 n [] []) ≤ 26 := by
  refine ⟨by rw [sizeF_eq]; simp [spL], by unfold depthF; simp [spL, maxTo], by rw [wordsF_eq]; simp [spL, e0_size], ?_⟩
  rw [longT_eq]
  have := itoaB_size n (by omega) (by omega)
  simp [spL, longK]; omega
theorem code_ok (T : Txt) (rows : List BRow) (n : Int) (h1 : -32768 ≤ n) (h2 : n ≤ 32767) (hl : rows.length < 65536) : mkE T rows (spL 1 e0 n [] []) = 0 := by
  obtain ⟨a, b, c, d⟩ := code_nums T rows n h1 h2
  exact mkE_ok T rows _ (by omega) (by omega) (by omega) (by omega) hl
theorem code_full (T : Txt) (rows : List BRow) (n : Int) (h1 : -32768 ≤ n) (h2 : n ≤ 32767) (hl : rows.length = 65536) : mkE T rows (spL 1 e0 n [] []) = 3 := by
  obtain ⟨a, b, c, d⟩ := code_nums T rows n h1 h2
  unfold mkE
  rw [if_neg (by omega), if_neg (by omega), if_neg (by omega), if_pos (by omega)]
end Go.Proofs.YtfmnbhhpimpjbaaGreatDoor
