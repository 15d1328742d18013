/- kinds: what a kind alone asks; its fields that count; how many parts. -/
import Derived.Test.YtfmnbhhpimpjbaaGreatDoorTa
namespace Go.Proofs.YtfmnbhhpimpjbaaGreatDoor
open Go.RowKit
set_option linter.unusedVariables false

def ownF (s : Sp) : Bool :=
  if s.kind = 5 then decide (s.text.size = 4)
  else if s.kind = 23 then decide (1 ≤ s.number ∧ s.number ≤ 3)
  else if s.kind = 26 then s.nil || (decide (s.items.length = 1) && decide (s.items.getD 0 ⟨#[]⟩ ≠ ⟨#[]⟩))
  else decide (1 ≤ s.kind ∧ s.kind ≤ 26)

set_option maxRecDepth 100000 in
theorem own_any (s : Sp) (hs : s.Ok) (ia : Option Addr) (ic : Nat) (pa : Option Addr) (pc : Nat) (w : World) (hI : ItemsIn w ia s.items) :
    Calls Tryz.prog 43 #[.agg (spC s ia ic pa pc)] w fun e w' => e = .returned (.bool (ownF s)) ∧ Below w.heap.size w w' := by
  unfold spC
  have ht := hs.text
  have hl := hs.items
  by_cases h5 : s.kind = 5
  · have i1 : (s.kind == 5) = true := by simpa using h5
    have HF := Lib.hid (show ((s.text.size : Int) == 4) = ownF s by
      unfold ownF; rw [if_pos h5]
      by_cases q : s.text.size = 4
      · rw [q]; rfl
      · have : ¬ ((s.text.size : Int) = 4) := by omega
        simp [q, this])
    clear h5
    go_enter Tryz.func43, Tryz.ntmps43
    go_wp2
    go_ret
    exact ⟨by rw [← HF.out]; rfl, (Below.refl _ _).alloc (Nat.le_refl _) _⟩
  · have i1 : (s.kind == 5) = false := by simpa using h5
    by_cases h23 : s.kind = 23
    · have i2 : (s.kind == 23) = true := by simpa using h23
      by_cases h1 : 1 ≤ s.number
      · by_cases h3 : s.number ≤ 3
        · have HF := Lib.hid (show true = ownF s by unfold ownF; rw [if_neg h5, if_pos h23]; simp [h1, h3])
          clear h5 h23
          go_enter Tryz.func43, Tryz.ntmps43
          go_wp2
          go_ret
          exact ⟨by rw [← HF.out]; rfl, (Below.refl _ _).alloc (Nat.le_refl _) _⟩
        · have HF := Lib.hid (show false = ownF s by unfold ownF; rw [if_neg h5, if_pos h23]; simp [h3])
          clear h5 h23
          go_enter Tryz.func43, Tryz.ntmps43
          go_wp2
          go_ret
          exact ⟨by rw [← HF.out]; rfl, (Below.refl _ _).alloc (Nat.le_refl _) _⟩
      · have HF := Lib.hid (show false = ownF s by unfold ownF; rw [if_neg h5, if_pos h23]; simp [h1])
        clear h5 h23
        go_enter Tryz.func43, Tryz.ntmps43
        go_wp2
        go_ret
        exact ⟨by rw [← HF.out]; rfl, (Below.refl _ _).alloc (Nat.le_refl _) _⟩
    · have i2 : (s.kind == 23) = false := by simpa using h23
      by_cases h26 : s.kind = 26
      · have i3 : (s.kind == 26) = true := by simpa using h26
        rcases hn : s.nil with _ | _
        · by_cases h1 : s.items.length = 1
          · obtain ⟨p, rfl, hp⟩ := hI (by omega)
            have c0 := hp 0 (by omega)
            rw [show p.add 0 = p from rfl] at c0
            obtain ⟨x, hx⟩ : ∃ x, x = s.items.getD 0 ⟨#[]⟩ := ⟨_, rfl⟩
            rw [← hx] at c0
            have HF := Lib.hid (show (!x.toList.isEmpty) = ownF s by
              unfold ownF
              rw [if_neg h5, if_neg h23, if_pos h26, hn, h1, ← hx, Go.ByteArray.toList_eq]
              obtain ⟨⟨l⟩⟩ := x
              cases l <;> simp)
            have j1 : (s.items.length : Int) = 1 := by omega
            have J1 := Lib.hid j1
            have hlt := block_lt c0
            have hz : ((s.items.length : Int) == 1) = true := by simpa using j1
            have hz0 : 0 < s.items.length := by omega
            clear h5 h23 h26 hp hx hI j1 h1
            go_enter Tryz.func43, Tryz.ntmps43
            go_wp2
            go_ret
            exact ⟨by rw [← HF.out]; rfl, (Below.refl _ _).alloc (Nat.le_refl _) _⟩
          · have hz : ((s.items.length : Int) == 1) = false := by simp; omega
            have HF := Lib.hid (show false = ownF s by unfold ownF; rw [if_neg h5, if_neg h23, if_pos h26, hn]; simp [h1])
            clear h5 h23 h26 h1
            go_enter Tryz.func43, Tryz.ntmps43
            go_wp2
            go_ret
            exact ⟨by rw [← HF.out]; rfl, (Below.refl _ _).alloc (Nat.le_refl _) _⟩
        · have HF := Lib.hid (show true = ownF s by unfold ownF; rw [if_neg h5, if_neg h23, if_pos h26, hn]; rfl)
          clear h5 h23 h26
          go_enter Tryz.func43, Tryz.ntmps43
          go_wp2
          go_ret
          exact ⟨by rw [← HF.out]; rfl, (Below.refl _ _).alloc (Nat.le_refl _) _⟩
      · have i3 : (s.kind == 26) = false := by simpa using h26
        by_cases h1 : 1 ≤ s.kind
        · by_cases h2 : s.kind ≤ 26
          · have HF := Lib.hid (show true = ownF s by unfold ownF; rw [if_neg h5, if_neg h23, if_neg h26]; simp [h1, h2])
            clear h5 h23 h26
            go_enter Tryz.func43, Tryz.ntmps43
            go_wp2
            go_ret
            exact ⟨by rw [← HF.out]; rfl, (Below.refl _ _).alloc (Nat.le_refl _) _⟩
          · have HF := Lib.hid (show false = ownF s by unfold ownF; rw [if_neg h5, if_neg h23, if_neg h26]; simp [h2])
            clear h5 h23 h26
            go_enter Tryz.func43, Tryz.ntmps43
            go_wp2
            go_ret
            exact ⟨by rw [← HF.out]; rfl, (Below.refl _ _).alloc (Nat.le_refl _) _⟩
        · have HF := Lib.hid (show false = ownF s by unfold ownF; rw [if_neg h5, if_neg h23, if_neg h26]; simp [h1])
          clear h5 h23 h26
          go_enter Tryz.func43, Tryz.ntmps43
          go_wp2
          go_ret
          exact ⟨by rw [← HF.out]; rfl, (Below.refl _ _).alloc (Nat.le_refl _) _⟩

/-- The letters of the fields that count. -/
def boxF (n : Int) : List UInt8 := if n = 1 then [78, 83] else if n = 2 then [78, 82] else [78, 84, 48]
def fieldsF (k n : Int) : List UInt8 :=
  if k = 1 ∨ k = 18 then [78]
  else if k = 2 ∨ k = 5 ∨ k = 13 ∨ k = 15 then [84]
  else if k = 3 then [82]
  else if k = 4 then [82, 77]
  else if k = 6 then [73, 78, 48]
  else if k = 7 ∨ k = 10 ∨ k = 21 ∨ k = 24 then [84, 70, 48]
  else if k = 8 ∨ k = 16 then [48]
  else if k = 9 ∨ k = 14 then [84, 48]
  else if k = 11 ∨ k = 25 then [78, 84]
  else if k = 12 then [84, 73]
  else if k = 17 then [70]
  else if k = 19 then [78, 82]
  else if k = 22 then [84, 78, 48]
  else if k = 23 then boxF n
  else if k = 26 then [84, 75, 73, 48]
  else []
theorem kind_cases (k : Int) : (k = 1 ∨ k = 2 ∨ k = 3 ∨ k = 4 ∨ k = 5 ∨ k = 6 ∨ k = 7 ∨ k = 8 ∨ k = 9 ∨ k = 10 ∨ k = 11 ∨ k = 12 ∨ k = 13 ∨ k = 14 ∨ k = 15 ∨ k = 16 ∨ k = 17 ∨ k = 18 ∨ k = 19 ∨ k = 20 ∨ k = 21 ∨ k = 22 ∨ k = 24 ∨ k = 25 ∨ k = 26) ∨ k = 23 ∨ (k < 1 ∨ 26 < k) := by omega

theorem box_any (n : Int) (w : World) : Calls Tryz.prog 67 #[.int .i16 n] w fun e w' => e = .returned (.string ⟨(boxF n).toArray⟩) ∧ w = w' := by
  by_cases h1 : n = 1
  · subst h1
    go_enter Tryz.func67, Tryz.ntmps67
    go_wp2
    go_ret
    exact ⟨rfl, rfl⟩
  · have i1 : (n == 1) = false := by simpa using h1
    by_cases h2 : n = 2
    · subst h2
      go_enter Tryz.func67, Tryz.ntmps67
      go_wp2
      go_ret
      exact ⟨rfl, rfl⟩
    · have i2 : (n == 2) = false := by simpa using h2
      have HF := Lib.hid (show [78, 84, 48] = boxF n by unfold boxF; rw [if_neg h1, if_neg h2])
      clear h1 h2
      go_enter Tryz.func67, Tryz.ntmps67
      go_wp2
      go_ret
      exact ⟨by rw [← HF.out]; rfl, rfl⟩

set_option maxRecDepth 100000 in
set_option maxHeartbeats 8000000 in
theorem fields_any (s : Sp) (ia : Option Addr) (ic : Nat) (pa : Option Addr) (pc : Nat) (w : World) :
    Calls Tryz.prog 44 #[.agg (spC s ia ic pa pc)] w fun e w' => e = .returned (.string ⟨(fieldsF s.kind s.number).toArray⟩) ∧ Below w.heap.size w w' := by
  obtain ⟨kind, nil, text, number, small, re, im, flag, mask, items, parts⟩ := s
  unfold spC
  rcases kind_cases kind with h | rfl | h
  · rcases h with rfl | rfl | rfl | rfl | rfl | rfl | rfl | rfl | rfl | rfl | rfl | rfl | rfl | rfl | rfl | rfl | rfl | rfl | rfl | rfl | rfl | rfl | rfl | rfl | rfl
    all_goals
      go_enter Tryz.func44, Tryz.ntmps44
      go_wp2
      go_ret
      exact ⟨rfl, (Below.refl _ _).alloc (Nat.le_refl _) _⟩
  · have K := Lib.hid (box_any number)
    go_enter Tryz.func44, Tryz.ntmps44
    go_wp2_with (go_at_call 67; refine (K.out _).mono ?_; rintro e w' ⟨rfl, rfl⟩)
    go_ret
    exact ⟨rfl, (Below.refl _ _).alloc (Nat.le_refl _) _⟩
  · have HF := Lib.hid (show [] = fieldsF kind number by
      unfold fieldsF
      repeat rw [if_neg (by omega)])
    have i1 : (kind == 1) = false := by simp; omega
    have i2 : (kind == 2) = false := by simp; omega
    have i3 : (kind == 3) = false := by simp; omega
    have i4 : (kind == 4) = false := by simp; omega
    have i5 : (kind == 5) = false := by simp; omega
    have i6 : (kind == 6) = false := by simp; omega
    have i7 : (kind == 7) = false := by simp; omega
    have i8 : (kind == 8) = false := by simp; omega
    have i9 : (kind == 9) = false := by simp; omega
    have i10 : (kind == 10) = false := by simp; omega
    have i11 : (kind == 11) = false := by simp; omega
    have i12 : (kind == 12) = false := by simp; omega
    have i13 : (kind == 13) = false := by simp; omega
    have i14 : (kind == 14) = false := by simp; omega
    have i15 : (kind == 15) = false := by simp; omega
    have i16 : (kind == 16) = false := by simp; omega
    have i17 : (kind == 17) = false := by simp; omega
    have i18 : (kind == 18) = false := by simp; omega
    have i19 : (kind == 19) = false := by simp; omega
    have i20 : (kind == 20) = false := by simp; omega
    have i21 : (kind == 21) = false := by simp; omega
    have i22 : (kind == 22) = false := by simp; omega
    have i23 : (kind == 23) = false := by simp; omega
    have i24 : (kind == 24) = false := by simp; omega
    have i25 : (kind == 25) = false := by simp; omega
    have i26 : (kind == 26) = false := by simp; omega
    clear h
    go_enter Tryz.func44, Tryz.ntmps44
    go_wp2
    go_ret
    exact ⟨by rw [← HF.out]; rfl, (Below.refl _ _).alloc (Nat.le_refl _) _⟩

/-- How many parts a kind may have at most. -/
def mostF (k : Int) : Int :=
  if k = 13 ∨ k = 14 ∨ k = 15 ∨ k = 17 ∨ k = 18 ∨ k = 20 ∨ k = 25 then 1 else if k = 16 ∨ k = 26 then 64 else 0
set_option maxRecDepth 100000 in
set_option maxHeartbeats 8000000 in
theorem parts_any (k : Int) (w : World) : Calls Tryz.prog 46 #[.int .u8 k] w fun e w' => e = .returned (.tuple #[.int .i64 0, .int .i64 (mostF k)]) ∧ w = w' := by
  by_cases h : k = 13 ∨ k = 14 ∨ k = 15 ∨ k = 17 ∨ k = 18 ∨ k = 20 ∨ k = 25 ∨ k = 16 ∨ k = 26
  · rcases h with rfl | rfl | rfl | rfl | rfl | rfl | rfl | rfl | rfl
    all_goals
      go_enter Tryz.func46, Tryz.ntmps46
      go_wp2
      go_ret2
      exact ⟨rfl, rfl⟩
  · have HF := Lib.hid (show (0 : Int) = mostF k by
      unfold mostF
      repeat rw [if_neg (by omega)])
    have i13 : (k == 13) = false := by simp; omega
    have i14 : (k == 14) = false := by simp; omega
    have i15 : (k == 15) = false := by simp; omega
    have i17 : (k == 17) = false := by simp; omega
    have i18 : (k == 18) = false := by simp; omega
    have i20 : (k == 20) = false := by simp; omega
    have i25 : (k == 25) = false := by simp; omega
    have i16 : (k == 16) = false := by simp; omega
    have i26 : (k == 26) = false := by simp; omega
    clear h
    go_enter Tryz.func46, Tryz.ntmps46
    go_wp2
    go_ret2
    exact ⟨by rw [← HF.out]; rfl, rfl⟩
end Go.Proofs.YtfmnbhhpimpjbaaGreatDoor
