/- kinds.Long: how many bytes an error's text has, by its spec and its parts' lengths (kinds without floats, tags, boxes). -/
import Derived.Test.YtfmnbhhpimpjbaaGreatDoorVc
import Derived.Lib.ItoaNum
import Derived.Lib.ItoaLen
namespace Go.Proofs.YtfmnbhhpimpjbaaGreatDoor
open Go.RowKit
set_option linter.unusedVariables false
set_option linter.unusedSimpArgs false

def clampF (x : Int) : Int := max 0 (min 65537 x)
theorem clampF_bound (x : Int) : 0 ≤ clampF x ∧ clampF x ≤ 65537 := by unfold clampF; omega
/-- The lengths of the parts that are errors, of the first k. -/
def lensF (hs ls : List Int) (k : Nat) : List Int := (List.range k).filterMap fun i => if hs.getD i 0 = 0 then none else some (clampF (ls.getD i 0))
theorem lensF_succ (hs ls : List Int) (k : Nat) : lensF hs ls (k + 1) = lensF hs ls k ++ (if hs.getD k 0 = 0 then [] else [clampF (ls.getD k 0)]) := by
  unfold lensF
  rw [List.range_succ, List.filterMap_append]
  congr 1
  by_cases h : hs.getD k 0 = 0
  · rw [if_pos h]; simp only [List.filterMap_cons, List.filterMap_nil, if_pos h]
  · rw [if_neg h]; simp only [List.filterMap_cons, List.filterMap_nil, if_neg h]
theorem lensF_len (hs ls : List Int) (k : Nat) : (lensF hs ls k).length ≤ k := by
  induction k with
  | zero => simp [lensF]
  | succ k ih => rw [lensF_succ, List.length_append]; split <;> simp <;> omega
theorem lensF_bound (hs ls : List Int) (k : Nat) : ∀ x ∈ lensF hs ls k, 0 ≤ x ∧ x ≤ 65537 := by
  intro x hx
  unfold lensF at hx
  rw [List.mem_filterMap] at hx
  obtain ⟨i, _, hi⟩ := hx
  split at hi
  · cases hi
  · cases hi; exact clampF_bound _
theorem sum_bound (l : List Int) (h : ∀ x ∈ l, 0 ≤ x ∧ x ≤ 65537) : 0 ≤ l.sum ∧ l.sum ≤ 65537 * l.length := by
  induction l with
  | nil => simp
  | cons a l ih =>
    have h1 := h a (by simp)
    have h2 := ih (fun x hx => h x (by simp [hx]))
    simp only [List.sum_cons, List.length_cons]
    omega
theorem sum_take_succ (l : List Int) (k : Nat) (h : k < l.length) : (l.take (k + 1)).sum = (l.take k).sum + l.getD k 0 := by
  rw [List.take_add_one, List.sum_append, List.getD_eq_getElem?_getD, List.getElem?_eq_getElem h]
  simp
def itoaB (n : Int) : ByteArray := ⟨(Lib.itoa n).toArray⟩
theorem itoaB_size (n : Int) (h0 : -9223372036854775808 ≤ n) (h1 : n ≤ 9223372036854775807) : (itoaB n).size ≤ 21 := by
  have := Lib.itoa_length_le n h0 h1
  unfold itoaB
  show (Lib.itoa n).toArray.size ≤ 21
  rw [List.size_toArray]; exact this
/-- Lengths of texts that tell floats, tags. -/
structure Txt where
  float : Nat → ByteArray
  complex : Nat → Nat → ByteArray
  tags : List ByteArray → Int → ByteArray
/-- The length of an error's text. -/
def longK (T : Txt) (s : Sp) (sum : Int) (n : Int) : Int :=
  if s.kind = 14 ∨ s.kind = 15 then s.text.size + (sum + 2) * n
  else if s.kind = 20 then 4 + (sum + 2) * n
  else if s.kind = 16 then sum + max 0 (n - 1)
  else if s.kind = 17 ∨ s.kind = 18 then sum
  else if s.kind = 6 then (T.tags s.items s.number).size
  else if s.kind = 10 then (if s.nil = true then 5 else s.text.size)
  else if s.kind = 1 then 5 + (itoaB s.number).size
  else if s.kind = 3 then 6 + (T.float s.re).size
  else if s.kind = 4 then 5 + (T.complex s.re s.im).size
  else if s.kind = 5 then 13
  else if s.kind = 8 then 4
  else if s.kind = 19 then 5 + (itoaB s.number).size + 1 + (T.float s.re).size
  else if s.kind = 23 then (if s.number = 1 then 4 + (itoaB s.small).size else if s.number = 2 then 4 + (T.float s.re).size else 4 + s.text.size)
  else if s.kind = 25 then 6 + s.text.size
  else if (s.kind = 7 ∨ s.kind = 24) ∧ s.flag = true then 0
  else s.text.size
def longOf (T : Txt) (s : Sp) (ls : List Int) : Int := longK T s (lensF s.parts ls s.parts.length).sum (lensF s.parts ls s.parts.length).length
theorem checkF_parts {s : Sp} (hc : checkF s = 0) : s.parts.length ≤ 64 ∧ s.text.size ≤ 4096 ∧ s.items.length ≤ 64 := by
  unfold checkF at hc
  have h1 : ¬ (ownF s = false ∨ 4096 < s.text.size ∨ 64 < s.items.length) := fun q => by rw [if_pos q] at hc; omega
  rw [if_neg h1] at hc
  have h2 : ¬ (longF s = true) := fun q => by rw [if_pos q] at hc; omega
  rw [if_neg h2] at hc
  have h3 : ¬ (bareF s (fieldsF s.kind s.number) = false) := fun q => by rw [if_pos q] at hc; omega
  rw [if_neg h3] at hc
  have h4 : ¬ (s.nil = true ∧ bareF s (48 :: if s.kind = 23 then [78] else []) = false) := fun q => by rw [if_pos q] at hc; omega
  rw [if_neg h4] at hc
  have h5 : ¬ ((if s.nil = true then 0 else mostF s.kind) < (s.parts.length : Int)) := fun q => by rw [if_pos q] at hc; omega
  have : 0 ≤ mostF s.kind ∧ mostF s.kind ≤ 64 := by unfold mostF; repeat' split <;> omega
  simp only [not_or] at h1
  refine ⟨?_, by omega, by omega⟩
  cases hn : s.nil
  · rw [hn] at h5; simp only [Bool.false_eq_true, if_false] at h5; omega
  · rw [hn] at h5; simp only [if_true] at h5; omega
/-- Itoa at a number. -/
def ItoaC (w : World) (n : Int) : Prop := ∀ w', Below w.heap.size w w' → Calls Tryz.prog 58 #[.int .i64 n] w' fun e w'' => e = .returned (.string (itoaB n)) ∧ Below w'.heap.size w' w''
theorem info_int : (Tryz.prog.info? 3).map (fun i => (i.zero, i.size, i.bytes)) = some (some (.int .i64 0), 1, 8) := by kernel_rfl

def simpleK (k : Int) : Prop := k = 1 ∨ k = 2 ∨ k = 5 ∨ k = 7 ∨ k = 8 ∨ k = 9 ∨ k = 10 ∨ k = 11 ∨ k = 12 ∨ k = 13 ∨ k = 14 ∨ k = 15 ∨ k = 16 ∨ k = 17 ∨ k = 18 ∨ k = 20 ∨ k = 21 ∨ k = 22 ∨ k = 24 ∨ k = 25 ∨ k = 26

set_option maxRecDepth 100000 in
set_option maxHeartbeats 16000000 in
theorem long_simple (T : Txt) (s : Sp) (hs : s.Ok) (hc : checkF s = 0) (hsk : simpleK s.kind) (ia : Option Addr) (ic : Nat) (pa : Option Addr) (pc : Nat) (ls : List Int) (la : Option Addr) (lc : Nat) (hll : ls.length = s.parts.length) (hbd : ∀ y ∈ ls, 0 ≤ y ∧ y ≤ 65536)
    (w : World) (hI : ItemsIn w ia s.items) (hP : PartsIn w pa s.parts) (hL : PartsIn w la ls) (hT : s.kind = 1 → ItoaC w s.number) :
    Calls Tryz.prog 28 #[.agg (spC s ia ic pa pc), .slice la ls.length lc] w fun e w' => e = .returned (.int .i64 (longOf T s ls)) ∧ Below w.heap.size w w' := by
  have hb0 : Below w.heap.size w (w.alloc (.cells (spC s ia ic pa pc) 34)) := (Below.refl _ _).alloc (Nat.le_refl _) _
  have HX := Lib.hid (alloc_at w (.cells (spC s ia ic pa pc) 34))
  have HC := Lib.hid (check_any s hs ia ic pa pc _ (hI.below hb0))
  rw [hc] at HC
  obtain ⟨hp64, ht4, hi64⟩ := checkF_parts hc
  have hnum := hs.number
  obtain ⟨i0, hi, hz0, hz1, hz2⟩ := info_parts info_int
  have HT := Lib.hid hT
  have HP := Lib.hid hP
  have HLL := Lib.hid hL
  clear hc hI hb0 hs hT hP hL
  unfold spC at *
  go_enter Tryz.func28, Tryz.ntmps28
  go_wp2_with ((with_reducible refine at_op (.load 34 (.tmp 2)) rfl ?_); refine wpList_load_row rfl 34 (.tmp 2) rfl w.heap.size rfl 34 _ (0, 0) _ HX.out Tryz.underlying34 rfl (by kernel_rfl) ?_)
  refine HC.out.mono ?_
  rintro e w2 ⟨rfl, b2⟩
  have bel2 : Below w.heap.size w w2 := ((Below.refl _ _).alloc (Nat.le_refl _) _).trans (b2.mono (by simp))
  have H2 := Lib.hid ((b2.block w.heap.size (by simp)).trans HX.out)
  have s2 : w.heap.size < w2.heap.size := by have := b2.size; simp at this; omega
  have hcell := fun i => cell_of_block H2.out i
  have BEL2 := Lib.hid bel2
  clear HC b2 HX bel2
  go_wp2_with fail
  go_loopw [5, 18] (fun v i x => ∃ k : Nat, i = .int .i64 k ∧ k ≤ s.parts.length ∧ x.ownsRow w2.heap.size 3 1 v (lensF s.parts ls k).length ((lensF s.parts ls k).map (Value.int .i64)) ∧ Below w2.heap.size w2 x) (fun _ i _ => s.parts.length - (intOf i).toNat)
  case atStart => exact ⟨0, rfl, by omega, ⟨rfl, .inl ⟨rfl, rfl⟩⟩, Below.refl _ _⟩
  case round =>
    obtain ⟨k, rfl, hk, hown, hb⟩ := hrel
    by_cases hlt : k < s.parts.length
    · have hbel : Below w.heap.size w wr := BEL2.out.trans (hb.mono BEL2.out.size)
      obtain ⟨p, rfl, hq⟩ := (HP.out.below hbel) (by omega)
      have ck := hq k hlt
      obtain ⟨q, rfl, hr⟩ := (HLL.out.below hbel) (by omega)
      have cl := hr k (by omega)
      obtain ⟨x, hx⟩ : ∃ x, x = s.parts.getD k 0 := ⟨_, rfl⟩
      obtain ⟨y, hy⟩ : ∃ y, y = ls.getD k 0 := ⟨_, rfl⟩
      rw [← hx] at ck
      rw [← hy] at cl
      have i1 : (k : Int) < (s.parts.length : Int) := by omega
      have hl3 := lensF_len s.parts ls k
      by_cases h0 : x = 0
      · subst h0
        have HF := Lib.hid (show lensF s.parts ls (k + 1) = lensF s.parts ls k by rw [lensF_succ, if_pos hx.symm, List.append_nil])
        have HO := Lib.hid hown
        clear hq hr hx hy hown hbel
        go_wp2
        go_roundw
        case rel => exact ⟨k + 1, by go_num, by omega, by rw [HF.out]; exact HO.out, hb⟩
        case measure => simp [intOf]; omega
      · have HF := Lib.hid (show lensF s.parts ls (k + 1) = lensF s.parts ls k ++ [clampF y] by rw [lensF_succ, if_neg (by rw [← hx]; exact h0), hy])
        have i0' : (x == 0) = false := by simpa using h0
        have i2 : (k : Int) < (ls.length : Int) := by omega
        have hbs := hb.size
        have hyb : 0 ≤ y ∧ y ≤ 65536 := by
          rw [hy, List.getD_eq_getElem?_getD, List.getElem?_eq_getElem (by omega)]
          exact hbd _ (List.getElem_mem (by omega))
        have hcl : clampF y = y := by unfold clampF; omega
        rw [hcl] at HF
        have i3 : y < 65537 := by omega
        clear hq hr hx hy hbel h0 hcl
        have hy0 : y = 0 ∨ 0 < y := by omega
        rcases hy0 with h00 | i4
        · have j4 : ¬ (0 < y) := by omega
          rw [h00] at HF j4 i3
          rw [h00] at cl
          go_wp2_with (at_builtin; refine wpList_append_own _ rfl (.tmp 35) (.tmp 37) 27 rfl w2.heap.size 3 i0 (.int .i64 0) 1 8 Tryz.underlying27 hi hz0 hz1 hz2 rfl (by decide) _ _ _ rfl (hown.alloc _) ⟨wr.heap.size, 0, none⟩ 1 1 [.int .i64 0] rfl rfl ?c1 ?c2 ?c3 ?c4 ?c5 ?_)
          case c2 => first | rfl | (intro u hu; simp at hu; subst hu; rfl)
          case c3 => simp only [maxLen]; omega
          case c4 => omega
          case c5 => omega
          intro v' w4 hown2 hg _
          have HO := Lib.hid hown2
          have hb4 := Lib.hid ((hb.alloc hbs _).grown hg (by simp; omega) (fun k hk => (own_at hown hk).1))
          clear hown2 hg hown
          go_wp2_with fail
          exact ⟨⟨k + 1, by go_num, by omega, by rw [HF.out]; simpa using HO.out, hb4.out⟩, by simp [intOf]; omega⟩
        · skip
          go_wp2_with (at_builtin; refine wpList_append_own _ rfl (.tmp 35) (.tmp 37) 27 rfl w2.heap.size 3 i0 (.int .i64 0) 1 8 Tryz.underlying27 hi hz0 hz1 hz2 rfl (by decide) _ _ _ rfl (hown.alloc _) ⟨wr.heap.size, 0, none⟩ 1 1 [.int .i64 y] rfl rfl ?d1 ?d2 ?d3 ?d4 ?d5 ?_)
          case d1 => intro m u hu; rcases m with _ | m <;> simp at hu; subst hu; exact cell_of_block (alloc_at _ _) 0
          case d2 => first | rfl | (intro u hu; simp at hu; subst hu; rfl)
          case d3 => simp only [maxLen]; omega
          case d4 => omega
          case d5 => simp; omega
          intro v' w4 hown2 hg _
          have HO := Lib.hid hown2
          have hb4 := Lib.hid ((hb.alloc hbs _).grown hg (by simp; omega) (fun k hk => (own_at hown hk).1))
          clear hown2 hg hown
          go_wp2_with fail
          exact ⟨⟨k + 1, by go_num, by omega, by rw [HF.out]; simpa using HO.out, hb4.out⟩, by simp [intOf]; omega⟩
    · obtain rfl : k = s.parts.length := by omega
      obtain ⟨va, vc, rfl⟩ : ∃ a c, u5 = .slice a (lensF s.parts ls s.parts.length).length c := by
        rcases hown.2 with ⟨rfl, h⟩ | ⟨g, cap, cur, rfl, _⟩
        · exact ⟨none, 0, by rw [h]⟩
        · exact ⟨_, _, rfl⟩
      have hl3 := lensF_len s.parts ls s.parts.length
      have hlb := lensF_bound s.parts ls s.parts.length
      have hbel : Below w.heap.size w wr := BEL2.out.trans (hb.mono BEL2.out.size)
      have H3 := Lib.hid ((hb.block w.heap.size s2).trans H2.out)
      have HLF0 : longOf T s ls = longK T s (lensF s.parts ls s.parts.length).sum (lensF s.parts ls s.parts.length).length := rfl
      generalize lensF s.parts ls s.parts.length = L at *
      have HLF := Lib.hid HLF0
      clear HLF0
      have HBEL := Lib.hid hbel
      have HO := Lib.hid hown
      have HLB := Lib.hid hlb
      clear hown hlb hlt hk
      go_wp2_with fail
      go_loopw [9, 42] (fun v i x => ∃ k : Nat, i = .int .i64 k ∧ k ≤ L.length ∧ v = .int .i64 (L.take k).sum ∧ wr = x) (fun _ i _ => L.length - (intOf i).toNat)
      case atStart => exact ⟨0, rfl, by omega, rfl, rfl⟩
      case round =>
        obtain ⟨k, rfl, hk, rfl, rfl⟩ := hrel
        by_cases hlt : k < L.length
        · obtain ⟨g, cap, cur, hv, hg, hh, hnc, hcm, hcs, htk⟩ : ∃ g cap cur, Value.slice va L.length vc = .slice (some ⟨g, 0, none⟩) L.length cap ∧ w2.heap.size ≤ g ∧ wr.heap[g]? = some (.cells cur 3 (0, 0)) ∧ L.length ≤ cap ∧ cap ≤ maxLen ∧ cur.size = cap * 1 ∧ List.take (L.length * 1) cur.toList = L.map (Value.int .i64) := by
            rcases HO.out.2 with ⟨_, h⟩ | h
            · omega
            · exact h
          injection hv with hv1 _ hv2
          subst hv1
          have cl : wr.cell? ⟨g, k, none⟩ = some (.int .i64 (L.getD k 0)) := by
            have := HO.out.cells (g := g) rfl k (.int .i64 (L.getD k 0)) (by rw [List.getElem?_map, List.getElem?_eq_getElem hlt, List.getD_eq_getElem?_getD, List.getElem?_eq_getElem hlt]; rfl)
            rwa [show ((⟨g, 0, none⟩ : Addr).add k) = ⟨g, k, none⟩ by unfold Addr.add; split <;> simp_all] at this
          have HS := Lib.hid (sum_take_succ L k hlt)
          have b1 := sum_bound (L.take k) (fun x hx => HLB.out x (List.mem_of_mem_take hx))
          have b2 := HLB.out (L.getD k 0) (by rw [List.getD_eq_getElem?_getD, List.getElem?_eq_getElem hlt]; exact List.getElem_mem hlt)
          have b3 : (L.take k).length ≤ 64 := by rw [List.length_take]; omega
          have i1 : (k : Int) < (L.length : Int) := by omega
          generalize L.getD k 0 = y at *
          generalize (L.take k).sum = z at *
          clear htk hh hlt
          go_wp2
          go_roundw
          case rel => exact ⟨k + 1, by go_num, by omega, by rw [HS.out], trivial⟩
          case measure => simp [intOf]; omega
        · obtain rfl : k = L.length := by omega
          have b1 := sum_bound L HLB.out
          rw [List.take_length]
          clear HO HLB hlt
          have hcell := fun i => cell_of_block H3.out i
          generalize L.sum = z at *
          generalize L.length = n at *
          have hn64 : n ≤ 64 := by omega
          have hmul : 0 ≤ (z + 2) * (n : Int) ∧ (z + 2) * (n : Int) ≤ 300000000 :=
            ⟨Int.mul_nonneg (by omega) (by omega), Int.le_trans (Int.mul_le_mul_of_nonneg_left (by omega : (n : Int) ≤ 64) (by omega)) (by omega)⟩
          have HLF2 := HLF.out
          clear hk HLF HP HLL H2 hbel hb
          obtain ⟨kind, nil, text, number, small, re, im, flag, mask, items, parts⟩ := s
          simp only at *
          rcases hsk with rfl | rfl | rfl | rfl | rfl | rfl | rfl | rfl | rfl | rfl | rfl | rfl | rfl | rfl | rfl | rfl | rfl | rfl | rfl | rfl | rfl
          · simp only [longK] at HLF2
            have KI := Lib.hid (HT.out rfl wr HBEL.out)
            have HLF3 := Lib.hid HLF2
            clear HLF2
            go_wp2_with fail
            refine KI.out.mono ?_
            rintro e w5 ⟨rfl, b5⟩
            have hb5 := HBEL.out.trans (b5.mono HBEL.out.size)
            have HBEL5 := Lib.hid hb5
            have hil : (itoaB number).size ≤ 21 := itoaB_size number (by omega) (by omega)
            clear b5 hb5
            go_wp2
            go_ret
            exact ⟨by rw [HLF3.out]; rfl, HBEL5.out⟩
          · simp only [longK] at HLF2
            have HLF3 := Lib.hid HLF2
            clear HLF2
            go_wp2
            all_goals go_ret
            all_goals exact ⟨by rw [HLF3.out]; first | rfl | (show Ending.returned (Value.int .i64 _) = Ending.returned (Value.int .i64 _); congr 2; omega), HBEL.out⟩
          · simp only [longK] at HLF2
            have HLF3 := Lib.hid HLF2
            clear HLF2
            go_wp2
            all_goals go_ret
            all_goals exact ⟨by rw [HLF3.out]; first | rfl | (show Ending.returned (Value.int .i64 _) = Ending.returned (Value.int .i64 _); congr 2; omega), HBEL.out⟩
          · simp only [longK] at HLF2
            rcases flag with _ | _
            all_goals
              have HLF3 := Lib.hid HLF2
              clear HLF2
              go_wp2
              all_goals go_ret
              all_goals exact ⟨by rw [HLF3.out]; first | rfl | (show Ending.returned (Value.int .i64 _) = Ending.returned (Value.int .i64 _); congr 2; omega), HBEL.out⟩
          · simp only [longK] at HLF2
            have HLF3 := Lib.hid HLF2
            clear HLF2
            go_wp2
            all_goals go_ret
            all_goals exact ⟨by rw [HLF3.out]; first | rfl | (show Ending.returned (Value.int .i64 _) = Ending.returned (Value.int .i64 _); congr 2; omega), HBEL.out⟩
          · simp only [longK] at HLF2
            have HLF3 := Lib.hid HLF2
            clear HLF2
            go_wp2
            all_goals go_ret
            all_goals exact ⟨by rw [HLF3.out]; first | rfl | (show Ending.returned (Value.int .i64 _) = Ending.returned (Value.int .i64 _); congr 2; omega), HBEL.out⟩
          · simp only [longK] at HLF2
            rcases nil with _ | _
            all_goals
              have HLF3 := Lib.hid HLF2
              clear HLF2
              go_wp2
              all_goals go_ret
              all_goals exact ⟨by rw [HLF3.out]; first | rfl | (show Ending.returned (Value.int .i64 _) = Ending.returned (Value.int .i64 _); congr 2; omega), HBEL.out⟩
          · simp only [longK] at HLF2
            have HLF3 := Lib.hid HLF2
            clear HLF2
            go_wp2
            all_goals go_ret
            all_goals exact ⟨by rw [HLF3.out]; first | rfl | (show Ending.returned (Value.int .i64 _) = Ending.returned (Value.int .i64 _); congr 2; omega), HBEL.out⟩
          · simp only [longK] at HLF2
            have HLF3 := Lib.hid HLF2
            clear HLF2
            go_wp2
            all_goals go_ret
            all_goals exact ⟨by rw [HLF3.out]; first | rfl | (show Ending.returned (Value.int .i64 _) = Ending.returned (Value.int .i64 _); congr 2; omega), HBEL.out⟩
          · simp only [longK] at HLF2
            have HLF3 := Lib.hid HLF2
            clear HLF2
            go_wp2
            all_goals go_ret
            all_goals exact ⟨by rw [HLF3.out]; first | rfl | (show Ending.returned (Value.int .i64 _) = Ending.returned (Value.int .i64 _); congr 2; omega), HBEL.out⟩
          · simp only [longK] at HLF2
            have HLF3 := Lib.hid HLF2
            clear HLF2
            go_wp2
            all_goals go_ret
            all_goals exact ⟨by rw [HLF3.out]; first | rfl | (show Ending.returned (Value.int .i64 _) = Ending.returned (Value.int .i64 _); congr 2; omega), HBEL.out⟩
          · simp only [longK] at HLF2
            have HLF3 := Lib.hid HLF2
            clear HLF2
            go_wp2
            all_goals go_ret
            all_goals exact ⟨by rw [HLF3.out]; first | rfl | (show Ending.returned (Value.int .i64 _) = Ending.returned (Value.int .i64 _); congr 2; omega), HBEL.out⟩
          · simp only [longK] at HLF2
            simp (config := { decide := true }) only [if_true, if_false, or_false] at HLF2
            have HLF3 := Lib.hid HLF2
            clear HLF2
            go_wp2
            all_goals go_ret
            all_goals exact ⟨by rw [HLF3.out]; first | rfl | (show Ending.returned (Value.int .i64 _) = Ending.returned (Value.int .i64 _); congr 2; omega), HBEL.out⟩
          · simp only [longK] at HLF2
            have HLF3 := Lib.hid HLF2
            clear HLF2
            go_wp2
            all_goals go_ret
            all_goals exact ⟨by rw [HLF3.out]; first | rfl | (show Ending.returned (Value.int .i64 _) = Ending.returned (Value.int .i64 _); congr 2; omega), HBEL.out⟩
          · simp only [longK] at HLF2
            have HLF3 := Lib.hid HLF2
            clear HLF2
            go_wp2
            all_goals go_ret
            all_goals exact ⟨by rw [HLF3.out]; first | rfl | (show Ending.returned (Value.int .i64 _) = Ending.returned (Value.int .i64 _); congr 2; omega), HBEL.out⟩
          · simp only [longK] at HLF2
            have HLF3 := Lib.hid HLF2
            clear HLF2
            go_wp2
            all_goals go_ret
            all_goals exact ⟨by rw [HLF3.out]; first | rfl | (show Ending.returned (Value.int .i64 _) = Ending.returned (Value.int .i64 _); congr 2; omega), HBEL.out⟩
          · simp only [longK] at HLF2
            have HLF3 := Lib.hid HLF2
            clear HLF2
            go_wp2
            all_goals go_ret
            all_goals exact ⟨by rw [HLF3.out]; first | rfl | (show Ending.returned (Value.int .i64 _) = Ending.returned (Value.int .i64 _); congr 2; omega), HBEL.out⟩
          · simp only [longK] at HLF2
            have HLF3 := Lib.hid HLF2
            clear HLF2
            go_wp2
            all_goals go_ret
            all_goals exact ⟨by rw [HLF3.out]; first | rfl | (show Ending.returned (Value.int .i64 _) = Ending.returned (Value.int .i64 _); congr 2; omega), HBEL.out⟩
          · simp only [longK] at HLF2
            rcases flag with _ | _
            all_goals
              have HLF3 := Lib.hid HLF2
              clear HLF2
              go_wp2
              all_goals go_ret
              all_goals exact ⟨by rw [HLF3.out]; first | rfl | (show Ending.returned (Value.int .i64 _) = Ending.returned (Value.int .i64 _); congr 2; omega), HBEL.out⟩
          · simp only [longK] at HLF2
            have HLF3 := Lib.hid HLF2
            clear HLF2
            go_wp2
            all_goals go_ret
            all_goals exact ⟨by rw [HLF3.out]; first | rfl | (show Ending.returned (Value.int .i64 _) = Ending.returned (Value.int .i64 _); congr 2; omega), HBEL.out⟩
          · simp only [longK] at HLF2
            have HLF3 := Lib.hid HLF2
            clear HLF2
            go_wp2
            all_goals go_ret
            all_goals exact ⟨by rw [HLF3.out]; first | rfl | (show Ending.returned (Value.int .i64 _) = Ending.returned (Value.int .i64 _); congr 2; omega), HBEL.out⟩
end Go.Proofs.YtfmnbhhpimpjbaaGreatDoor
