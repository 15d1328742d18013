/- grasp.walked, plainly: the handles of an error's walked parts. -/
import Derived.Test.YtfmnbhhpimpjbaaGreatDoorGc
namespace Go.Proofs.YtfmnbhhpimpjbaaGreatDoor
open Go.RowKit
set_option linter.unusedVariables false

def holdsK (k : Int) : Prop := k = 14 ∨ k = 15 ∨ k = 16 ∨ k = 26
instance (k : Int) : Decidable (holdsK k) := by unfold holdsK; infer_instance
/-- Those that are errors. -/
def keepF (l : List Int) : List Int := l.filter (fun p => decide (p ≠ 0))
theorem keepF_len (l : List Int) : (keepF l).length ≤ l.length := List.length_filter_le _ _
def walkedF (rows : List BRow) : Nat → Int → List Int
  | 0, _ => []
  | n + 1, h =>
    if ¬ (1 ≤ h ∧ h ≤ rows.length) ∨ (rowAt rows h).sp.nil = true then []
    else if (rowAt rows h).sp.kind = 25 then (if (rowAt rows h).sp.parts.length = 1 ∧ (rowAt rows h).sp.parts.getD 0 0 ≠ 0 then walkedF rows n ((rowAt rows h).sp.parts.getD 0 0) else [])
    else if holdsK (rowAt rows h).sp.kind then keepF (rowAt rows h).sp.parts else []
/-- What a call that only makes memory hands back: a row of handles. -/
def HandsPost (L : List Int) (w : World) (e : Ending) (w' : World) : Prop := ∃ a c, e = .returned (.slice a L.length c) ∧ NilOk a c ∧ PartsD (Fresh w w') w' a L ∧ Below w.heap.size w w'
theorem HandsPost.nil (w w' : World) (hb : Below w.heap.size w w') : HandsPost [] w (.returned (.slice none 0 0)) w' := ⟨none, 0, rfl, fun _ => rfl, fun h => by simp at h, hb⟩
theorem Fresh.mono' {w w1 w' : World} (h : w.heap.size ≤ w1.heap.size) : ∀ b, Fresh w1 w' b → Fresh w w' b := fun b hb => ⟨Nat.le_trans h hb.1, hb.2⟩
theorem filter_take (l : List Int) (k : Nat) (h : k < l.length) : keepF (l.take (k + 1)) = keepF (l.take k) ++ (if l.getD k 0 = 0 then [] else [l.getD k 0]) := by
  unfold keepF
  rw [List.take_add_one, List.filter_append, List.getD_eq_getElem?_getD, List.getElem?_eq_getElem h]
  congr 1
  by_cases h0 : l[k] = 0
  · simp [h0]
  · simp [h0]
end Go.Proofs.YtfmnbhhpimpjbaaGreatDoor
