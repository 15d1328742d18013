/- How a frame stands beneath a deferred call that recovers: with a value that it panics with, or without. Over any program. -/
import Derived.Test.YtfmnbhhpimpjbaaGreatDoorXa
import Derived.Deep.RegionHeld
namespace Go
set_option linter.unusedVariables false

def NoExitP (l : List PanicEntry) : Prop := ∀ x ∈ l, x.goexit = false
def MdIn (u : FrameMode) : Option Value → Prop
  | none => u = .returning ∨ ∃ v older, u = .panicking ({ v := v, recovered := true } :: older) ∧ NoExitP older
  | some v => ∃ older, u = .panicking ({ v := v, recovered := false } :: older) ∧ NoExitP older
def MdOut (u : FrameMode) : Option Value → Prop
  | none => u = .returning
  | some v => ∃ older, u = .panicking ({ v := v, recovered := false } :: older) ∧ NoExitP older
theorem MdOut.inn {u : FrameMode} {p : Option Value} (h : MdOut u p) : MdIn u p := by
  cases p with
  | none => exact .inl h
  | some p => exact h
theorem MdOut.ne {u : FrameMode} {p : Option Value} (h : MdOut u p) : u ≠ .run := by
  cases p with
  | none => rw [h]; intro e; cases e
  | some p => obtain ⟨o, rfl, _⟩ := h; intro e; cases e
theorem dropExitP {l : List PanicEntry} (h : NoExitP l) : l.dropWhile (!·.goexit) = [] := by
  induction l with
  | nil => rfl
  | cons x l ih => simp [List.dropWhile, h x (by simp), ih (fun y hy => h y (by simp [hy]))]
theorem settle_md {u : FrameMode} {p : Option Value} (h : MdIn u p) : MdOut (settle u) p := by
  cases p with
  | none =>
    rcases h with rfl | ⟨v, o, rfl, ho⟩
    · rfl
    · simp [settle, dropExitP ho, MdOut]
  | some p => obtain ⟨o, rfl, h3⟩ := h; exact ⟨o, rfl, h3⟩
/-- What 'recover' answers in a deferred call, and how the frame stands behind it. -/
theorem md_rec {u : FrameMode} {q : Option Value} (h : MdIn u q) (c0 : Frame) (cs : List Frame) (hc : c0.mode = u) :
    (q = none ∧ recK .deferred (c0 :: cs) = none ∧ c0 :: cs = { c0 with mode := u } :: cs) ∨ ∃ v u', q = some v ∧ recK .deferred (c0 :: cs) = some (v, { c0 with mode := u' } :: cs) ∧ MdIn u' none := by
  subst hc
  cases q with
  | none =>
    refine .inl ⟨rfl, ?_, rfl⟩
    rcases h with h | ⟨v, o, h, ho⟩ <;> simp [recK, recoverD, h]
  | some v =>
    obtain ⟨o, h, ho⟩ := h
    exact .inr ⟨v, _, rfl, by simp [recK, recoverD, h], .inr ⟨v, o, rfl, ho⟩⟩
section
variable {P : Program} {kind : CallKind} {ops : Array Oper} {Q : Exit → Act → List Frame → World → Prop} {a : Act} {cs cs' : List Frame} {w : World}
/-- One operation of a region that is no 'recover'. -/
theorem wpOpsK_op {i : Nat} {rest : List Nat} {oi : Oper} (ho : ops[i]? = some oi) (hw : Region.wanted oi (yielded ops a.tmps) = true)
    (h : ∀ K : Act → World → Prop, Shut (∀ a w, wpOpsK P kind ops Q rest a cs w → K a w) → Oper.wp P oi a w K (fun e a' w' => Q e a' cs w')) : wpOpsK P kind ops Q (i :: rest) a cs w := by
  have h1 := h (fun a w => wpOpsK P kind ops Q rest a cs w) (fun _ _ h => h)
  simp only [wpOpsK, ho, hw, if_true]
  unfold Oper.wp at h1
  split
  · rename_i w' hr
    rw [hr] at h1
    exact h1.elim
  · exact h1
theorem wpOpsK_some {i : Nat} {rest : List Nat} {oi : Oper} {v : Value} (ho : ops[i]? = some oi) (hw : Region.wanted oi (yielded ops a.tmps) = true) (hr : (execOp a.eval oi).run P w = .ok .recover w) (hc : recK kind cs = some (v, cs'))
    (h : wpOpsK P kind ops Q rest (a.put oi.dst v) cs' w) : wpOpsK P kind ops Q (i :: rest) a cs w := by
  simp only [wpOpsK, ho, hw, if_true, hr, hc]
  exact h
theorem wpOpsK_none {i : Nat} {rest : List Nat} {oi : Oper} (ho : ops[i]? = some oi) (hw : Region.wanted oi (yielded ops a.tmps) = true) (hr : (execOp a.eval oi).run P w = .ok .recover w) (hc : recK kind cs = none)
    (h : wpOpsK P kind ops Q rest (a.put oi.dst .nilIface) cs w) : wpOpsK P kind ops Q (i :: rest) a cs w := by
  simp only [wpOpsK, ho, hw, if_true, hr, hc]
  exact h
end
end Go
