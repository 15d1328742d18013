/- A loop met round by round, with the frames beneath in sight; a scope. Over any program. -/
import Derived.Test.YtokfnlfadofmnaaDoorXa
import Derived.Scope
namespace Go
set_option linter.unusedVariables false

def Code.wpL (P : Program) (kind : CallKind) (c : Code) (Q : Exit → Act → List Frame → World → Prop) (a : Act) (cs : List Frame) (w : World) : Prop :=
  ∀ (b : Frame) (k : List Item), b.kind = kind → b.roundOf = none →
    ∃ e a' cs' w', Q e a' cs' w' ∧ Arrives P (lone (b.at a (.code c :: .inLoop c :: k)) cs w) b k cs' e a' w'

section
variable {P : Program} {kind : CallKind} {Q : Exit → Act → List Frame → World → Prop} {a : Act} {cs : List Frame} {w : World}

theorem wpK_loopL {c : Code} (h : c.wpL P kind Q a cs w) : (Code.loop c).wpK P kind Q a cs w :=
  fun b k h1 h2 => let ⟨e, a', cs', w', q, r⟩ := h b k h1 h2; ⟨e, a', cs', w', q, .of_steps (.one step_loop) r⟩

theorem wpL_round {c : Code} (h : c.wpK P kind (Exit.thenS (fun a cs w => c.wpL P kind Q a cs w) Q) a cs w) : c.wpL P kind Q a cs w := by
  intro b k hb hr
  obtain ⟨e, a₁, cs₁, w₁, hq, harr⟩ := h b (.inLoop c :: k) hb hr
  cases e with
  | normal =>
    obtain ⟨e₂, a₂, cs₂, w₂, hq₂, harr₂⟩ := hq b k hb hr
    exact ⟨e₂, a₂, cs₂, w₂, hq₂, .of_steps (Steps.trans harr (.one step_inLoop)) harr₂⟩
  | exit id => exact ⟨_, a₁, cs₁, w₁, hq, .pass (x := .inLoop c) rfl (fun _ _ => .inl (by simp)) harr⟩
  | goto l => exact ⟨_, a₁, cs₁, w₁, hq, .pass (x := .inLoop c) rfl (fun _ _ => .inl (by simp)) harr⟩
  | ret => exact ⟨_, a₁, cs₁, w₁, hq, .pass (x := .inLoop c) rfl (fun _ _ => .inl (by simp)) harr⟩
  | panic ch => exact ⟨_, a₁, cs₁, w₁, hq, .pass (x := .inLoop c) rfl (fun _ _ => .inl (by simp)) harr⟩
  | outgrown => exact ⟨_, a₁, cs₁, w₁, hq, .pass (x := .inLoop c) rfl (fun _ _ => .inl (by simp)) harr⟩

def Exit.noGotoS (Q : Exit → Act → List Frame → World → Prop) : Exit → Act → List Frame → World → Prop
  | .goto _, _, _, _ => False
  | e, a, cs, w => Q e a cs w

theorem wpK_scope {c : Code} (h : c.wpK P kind (Exit.noGotoS Q) a cs w) : (Code.scope c).wpK P kind Q a cs w := by
  intro b k hb hr
  obtain ⟨e, a₁, cs₁, w₁, hq, harr⟩ := h b (.inScope c :: k) hb hr
  cases e with
  | normal => exact ⟨.normal, a₁, cs₁, w₁, hq, .head step_scope (Steps.trans harr (.one step_inScope))⟩
  | exit id => exact ⟨.exit id, a₁, cs₁, w₁, hq, fun k' hk => .head step_scope (harr k' (by simp [exitTo, hk]))⟩
  | goto l => exact hq.elim
  | ret => exact ⟨_, a₁, cs₁, w₁, hq, .of_steps (.one step_scope) harr⟩
  | panic ch => exact ⟨_, a₁, cs₁, w₁, hq, .of_steps (.one step_scope) harr⟩
  | outgrown => exact ⟨_, a₁, cs₁, w₁, hq, .of_steps (.one step_scope) harr⟩
end

/-- A frame's temporaries, written out. -/
theorem tmps_lit (a : Array Value) (n : Nat) (h : a.size = n) : a = ((List.range n).map (fun i => a.getD i undef)).toArray := by
  subst h
  apply Array.ext
  · simp
  · intro i h1 h2
    simp [Array.getD, h1]
end Go
