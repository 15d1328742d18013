/- CatchCloses, plainly: what went wrong first. -/
import Derived.Test.YtokfnlfadofmnaaDoorEf
namespace Go.Proofs.YtokfnlfadofmnaaDoor
open Go.RowKit
set_option linter.unusedVariables false

def badD (D : Ded) : Bool := (decide (1 ≤ D.kind) && decide (D.kind ≤ 3)) || (D.e != 0)
/-- What Closing holds, and what the statement holds. -/
def RR (s : Int × Pan) (f : Ded) (g : Bool) : Prop := (g = false ∧ s = (0, Pan.none)) ∨ (g = true ∧ badD f = true ∧ s = stT f (0, Pan.none))
theorem bad_ne {D : Ded} (h : badD D = true) : (stT D (0, Pan.none)).1 ≠ 0 := by
  unfold stT
  rw [if_pos rfl]
  cases hq : DQ D with
  | some p => simp
  | none =>
    unfold DQ at hq
    split at hq
    · cases hq
    · split at hq
      · cases hq
      · rename_i h1 h2
        simp [badD] at h
        rcases h with h | h
        · omega
        · exact h
theorem not_bad {D : Ded} (h : badD D = false) : stT D (0, Pan.none) = (0, Pan.none) := by
  simp [badD] at h
  have hq : DQ D = none := by unfold DQ; rw [if_neg (by omega), if_neg (by omega)]
  unfold stT
  rw [if_pos rfl, hq]
  show (D.e, Pan.none) = _
  rw [h.2]
theorem rr_step {s : Int × Pan} {f D : Ded} {g : Bool} (h : RR s f g) (hk : D.kind ≠ 4) : RR (sT D s) (if (!g && badD D) = true then D else f) (g || badD D) := by
  unfold sT
  rw [if_neg hk]
  rcases h with ⟨rfl, rfl⟩ | ⟨rfl, hb, rfl⟩
  · cases hd : badD D with
    | false => rw [not_bad hd]; exact .inl ⟨rfl, rfl⟩
    | true => exact .inr ⟨rfl, by simpa using hd, by simp⟩
  · refine .inr ⟨by simp, by simpa using hb, ?_⟩
    have e : ∀ s : Int × Pan, s.1 ≠ 0 → stT D s = s := fun s hs => by unfold stT; rw [if_neg hs]
    rw [e _ (bad_ne hb)]
    simp
theorem rr_first {D : Ded} (hk : D.kind ≠ 4) : RR (sT D (0, Pan.none)) (if badD D = true then D else ⟨0, 0, ⟨#[]⟩⟩) (badD D) := by
  have := rr_step (s := (0, Pan.none)) (f := ⟨0, 0, ⟨#[]⟩⟩) (g := false) (.inl ⟨rfl, rfl⟩) hk
  simpa using this
theorem rr_none {D : Ded} (hk : D.kind = 4) : RR (sT D (0, Pan.none)) ⟨0, 0, ⟨#[]⟩⟩ false := by unfold sT; rw [if_pos hk]; exact .inl ⟨rfl, rfl⟩
theorem rr_skip {s : Int × Pan} {f D : Ded} {g : Bool} (h : RR s f g) (hk : D.kind = 4) : RR (sT D s) f g := by unfold sT; rw [if_pos hk]; exact h
/-- The end: what Closing answers, by what went wrong first. -/
theorem rr_end {s : Int × Pan} {f : Ded} (h : RR s f true) : (f.kind = 1 ∧ s = (5, Pan.own f.word)) ∨ ((f.kind = 2 ∨ f.kind = 3) ∧ s = (5, Pan.rt)) ∨ (f.kind ≠ 1 ∧ f.kind ≠ 2 ∧ f.kind ≠ 3 ∧ s = (f.e, Pan.none)) := by
  rcases h with ⟨h, _⟩ | ⟨_, hb, rfl⟩
  · cases h
  · by_cases h1 : f.kind = 1
    · refine .inl ⟨h1, ?_⟩
      have hq : DQ f = some (Pan.own f.word) := by unfold DQ; rw [if_pos h1]
      unfold stT; rw [if_pos rfl, hq]
    · by_cases h2 : 2 ≤ f.kind ∧ f.kind ≤ 3
      · refine .inr (.inl ⟨by omega, ?_⟩)
        have hq : DQ f = some Pan.rt := by unfold DQ; rw [if_neg h1, if_pos h2]
        unfold stT; rw [if_pos rfl, hq]
      · refine .inr (.inr ⟨h1, by omega, by omega, ?_⟩)
        have hq : DQ f = none := by unfold DQ; rw [if_neg h1, if_neg h2]
        unfold stT; rw [if_pos rfl, hq]
end Go.Proofs.YtokfnlfadofmnaaDoor
