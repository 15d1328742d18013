/- grasp: what each statement asks first. -/
import Derived.Test.YtfmnbhhpimpjbaaGreatDoorGr
namespace Go.Proofs.YtfmnbhhpimpjbaaGreatDoor
open Go.RowKit
set_option linter.unusedVariables false

theorem list1 {α : Type} (l : List α) (h : l.length = 1) : ∃ a, l = [a] := by
  match l, h with
  | [a], _ => exact ⟨a, rfl⟩
/-- The three rows, as they lie. -/
structure Three (r1 r2 r3 : BRow) : Prop where
  a : r1.sp = s1
  b : r2.sp = s2
  c : r3.sp = s3
  e1 : r1.err = .iface 91 (.int .i16 5)
  e2 : ∃ u, r2.err = .iface 119 u
  e3 : ∃ u, r3.err = .iface 175 u
theorem three_of {D : Nat → Prop} {x : World} {r1 r2 r3 : BRow} (h : ∀ i r, [r1, r2, r3][i]? = some r → RowOk D x [r1, r2, r3] i r) (a : r1.sp = s1) (b : r2.sp = s2) (c : r3.sp = s3) : Three r1 r2 r3 := by
  refine ⟨a, b, c, ?_, ?_, ?_⟩
  · have q := (h 0 r1 rfl).err
    rw [a] at q
    cases q with
    | nil hn _ => cases hn
    | leaf hn hk h => exact h
    | box hn hk hb a c h hi => cases hk
    | mark hn hk _ => cases hk
    | tags hn hk _ _ => cases hk
    | plain hn hk _ => cases hk
    | quiet hn hk _ => cases hk
    | echo hn hk _ => cases hk
    | guise hn hk _ => cases hk
    | lazy hn hk _ _ _ => cases hk
    | line hn hk _ _ => cases hk
    | bag hn hk _ _ _ _ => cases hk
    | hold hn hk _ => cases hk
    | wrap hn hk _ => cases hk
    | over hn hk _ => cases hk
    | join hn hk _ _ _ _ => cases hk
    | timed hn hk _ => cases hk
    | placed hn hk _ => cases hk
    | veil hn hk _ => cases hk
    | slow hn hk _ _ _ _ _ => cases hk
    | full hn hk _ => cases hk
    | opaq hn hk _ _ _ _ => cases hk
  · have q := (h 1 r2 rfl).err
    rw [b] at q
    cases q with
    | nil hn _ => cases hn
    | leaf hn hk h => exfalso; revert hk; decide
    | wrap hn hk h => obtain ⟨_, p, rfl', _⟩ := h; exact ⟨_, rfl'⟩
    | box hn hk hb a c h hi => cases hk
    | mark hn hk _ => cases hk
    | tags hn hk _ _ => cases hk
    | plain hn hk _ => cases hk
    | quiet hn hk _ => cases hk
    | echo hn hk _ => cases hk
    | guise hn hk _ => cases hk
    | lazy hn hk _ _ _ => cases hk
    | line hn hk _ _ => cases hk
    | bag hn hk _ _ _ _ => cases hk
    | hold hn hk _ => cases hk
    | over hn hk _ => cases hk
    | join hn hk _ _ _ _ => cases hk
    | timed hn hk _ => cases hk
    | placed hn hk _ => cases hk
    | veil hn hk _ => cases hk
    | slow hn hk _ _ _ _ _ => cases hk
    | full hn hk _ => cases hk
    | opaq hn hk _ _ _ _ => cases hk
  · have q := (h 2 r3 rfl).err
    rw [c] at q
    cases q with
    | nil hn _ => cases hn
    | leaf hn hk h => exfalso; revert hk; decide
    | veil hn hk h => exact ⟨_, h⟩
    | box hn hk hb a c h hi => cases hk
    | mark hn hk _ => cases hk
    | tags hn hk _ _ => cases hk
    | plain hn hk _ => cases hk
    | quiet hn hk _ => cases hk
    | echo hn hk _ => cases hk
    | guise hn hk _ => cases hk
    | lazy hn hk _ _ _ => cases hk
    | line hn hk _ _ => cases hk
    | bag hn hk _ _ _ _ => cases hk
    | hold hn hk _ => cases hk
    | wrap hn hk _ => cases hk
    | over hn hk _ => cases hk
    | join hn hk _ _ _ _ => cases hk
    | timed hn hk _ => cases hk
    | placed hn hk _ => cases hk
    | slow hn hk _ _ _ _ _ => cases hk
    | full hn hk _ => cases hk
    | opaq hn hk _ _ _ _ => cases hk
theorem at3_1 (r1 r2 r3 : BRow) : rowAt [r1, r2, r3] 1 = r1 := rfl
theorem at3_2 (r1 r2 r3 : BRow) : rowAt [r1, r2, r3] 2 = r2 := rfl
theorem at3_3 (r1 r2 r3 : BRow) : rowAt [r1, r2, r3] 3 = r3 := rfl
theorem nodes3_2 {r1 r2 r3 : BRow} (h : Three r1 r2 r3) : nodesF [r1, r2, r3] 2 = [2, 1] := by
  unfold nodesF
  rw [if_pos (by simp)]
  show withinF _ 3 2 = _
  unfold withinF walkedF
  rw [at3_2, h.b]
  rw [if_neg (by simp [s2]), if_neg (by decide), if_pos (by decide)]
  show 2 :: (withinF [r1, r2, r3] 2 1 ++ []) = _
  unfold withinF walkedF
  rw [at3_1, h.a]
  rw [if_neg (by simp [s1]), if_neg (by decide), if_neg (by decide)]
  rfl
theorem nodes3_3 {r1 r2 r3 : BRow} (h : Three r1 r2 r3) : nodesF [r1, r2, r3] 3 = [3] := by
  unfold nodesF
  rw [if_pos (by simp)]
  show withinF _ 3 3 = _
  unfold withinF walkedF
  rw [at3_3, h.c]
  rw [if_neg (by simp [s3]), if_neg (by decide), if_neg (by decide)]
  rfl
theorem err3_1 {r1 r2 r3 : BRow} (h : Three r1 r2 r3) : errAt [r1, r2, r3] 1 = .iface 91 (.int .i16 5) := h.e1
theorem sel3_2 {r1 r2 r3 : BRow} (h : Three r1 r2 r3) : selCode (errAt [r1, r2, r3] 2) = none := by
  obtain ⟨u, hu⟩ := h.e2
  show selCode r2.err = none
  rw [hu]; rfl
theorem sel3_3 {r1 r2 r3 : BRow} (h : Three r1 r2 r3) : selCode (errAt [r1, r2, r3] 3) = none := by
  obtain ⟨u, hu⟩ := h.e3
  show selCode r3.err = none
  rw [hu]; rfl
theorem sel3_1 {r1 r2 r3 : BRow} (h : Three r1 r2 r3) : selCode (errAt [r1, r2, r3] 1) = some (.int .i16 5) := by
  rw [err3_1 h]; rfl
theorem found3_2 {r1 r2 r3 : BRow} (h : Three r1 r2 r3) : foundF selCode [r1, r2, r3] 2 = [(1, .int .i16 5)] := by
  unfold foundF
  rw [nodes3_2 h]
  show foundTo selCode [errAt [r1, r2, r3] 2, errAt [r1, r2, r3] 1] 2 = _
  unfold foundTo foundTo foundTo
  show ([] ++ (match selCode (errAt [r1, r2, r3] 2) with | some u => [(((0 : Nat) : Int), u)] | none => [])) ++ (match selCode (errAt [r1, r2, r3] 1) with | some u => [(((1 : Nat) : Int), u)] | none => []) = _
  rw [sel3_2 h, sel3_1 h]
  rfl
theorem found3_3 {r1 r2 r3 : BRow} (h : Three r1 r2 r3) : foundF selCode [r1, r2, r3] 3 = [] := by
  unfold foundF
  rw [nodes3_3 h]
  show foundTo selCode [errAt [r1, r2, r3] 3] 1 = _
  unfold foundTo foundTo
  show [] ++ (match selCode (errAt [r1, r2, r3] 3) with | some u => [(((0 : Nat) : Int), u)] | none => []) = _
  rw [sel3_3 h]
  rfl
theorem one3 {r1 r2 r3 : BRow} (h : Three r1 r2 r3) (k : Int) (hk : k = 2 ∨ k = 3) : ∀ x ∈ (nodesF [r1, r2, r3] k).map (errAt [r1, r2, r3]), ∀ u, selCode x = some u → ∃ n, u = .int .i16 n := by
  intro x hx u hu
  rcases hk with rfl | rfl
  · rw [nodes3_2 h] at hx
    simp at hx
    rcases hx with rfl | rfl
    · rw [sel3_2 h] at hu; cases hu
    · rw [sel3_1 h] at hu; cases hu; exact ⟨_, rfl⟩
  · rw [nodes3_3 h] at hx
    simp at hx
    subst hx
    rw [sel3_3 h] at hu; cases hu
end Go.Proofs.YtfmnbhhpimpjbaaGreatDoor
