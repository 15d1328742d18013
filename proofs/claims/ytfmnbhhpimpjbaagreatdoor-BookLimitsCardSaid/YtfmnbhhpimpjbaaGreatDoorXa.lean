/- A frame of either kind, walked with the frames beneath it in sight: 'recover' in a loop, in a frame that defers. Over any program. -/
import Derived.Recover
namespace Go
set_option linter.unusedVariables false

/-- What 'recover' meets from a frame of that kind. -/
def recK (kind : CallKind) (cs : List Frame) : Option (Value × List Frame) :=
  match kind with
  | .deferred => recoverD cs
  | _ => none

theorem tryRecover_recK {fr : Frame} {kind : CallKind} (hk : kind = .normal ∨ kind = .deferred) (h : fr.kind = kind) (cs : List Frame) : tryRecover fr cs = recK kind cs := by
  rcases hk with rfl | rfl
  · cases cs <;> simp [tryRecover, recK, h]
  · exact tryRecover_deferred h cs

def Code.wpK (P : Program) (kind : CallKind) (c : Code) (Q : Exit → Act → List Frame → World → Prop) (a : Act) (cs : List Frame) (w : World) : Prop :=
  ∀ (b : Frame) (k : List Item), b.kind = kind → b.roundOf = none →
    ∃ e a' cs' w', Q e a' cs' w' ∧ Arrives P (lone (b.at a (.code c :: k)) cs w) b k cs' e a' w'

section
variable {P : Program} {kind : CallKind} {Q : Exit → Act → List Frame → World → Prop} {a : Act} {cs : List Frame} {w : World}

theorem wpK_of_wp {c : Code} (h : c.wp P (fun e a' w' => Q e a' cs w') a w) : c.wpK P kind Q a cs w :=
  fun b k _ _ => let ⟨e, a', w', q, r⟩ := h b k cs; ⟨e, a', cs, w', q, r⟩
theorem wpK_mono {c : Code} {Q' : Exit → Act → List Frame → World → Prop} (h : c.wpK P kind Q a cs w) (hq : ∀ e a cs w, Q e a cs w → Q' e a cs w) : c.wpK P kind Q' a cs w :=
  fun b k h1 h2 => let ⟨e, a', cs', w', q, r⟩ := h b k h1 h2; ⟨e, a', cs', w', hq _ _ _ _ q, r⟩
theorem wpK_skip (h : Q .normal a cs w) : Code.skip.wpK P kind Q a cs w := fun _ _ _ _ => ⟨.normal, a, cs, w, h, .one step_skip⟩
theorem wpK_label {l : Nat} (h : Q .normal a cs w) : (Code.label l).wpK P kind Q a cs w := fun _ _ _ _ => ⟨.normal, a, cs, w, h, .one step_label⟩
theorem wpK_exit {id : Nat} (h : Q (.exit id) a cs w) : (Code.exit id).wpK P kind Q a cs w :=
  fun _ _ _ _ => ⟨.exit id, a, cs, w, h, fun _ hk => .one (step_exit hk)⟩
theorem wpK_goto {l : Nat} (h : Q (.goto l) a cs w) : (Code.goto l).wpK P kind Q a cs w :=
  fun _ _ _ _ => ⟨.goto l, a, cs, w, h, fun _ hk => .one (step_goto hk)⟩
theorem wpK_ret (h : Q .ret a cs w) : Code.ret.wpK P kind Q a cs w := fun _ _ _ _ => ⟨.ret, a, cs, w, h, _, .one step_ret⟩
theorem wpK_cond {c : Operand} {x y : Code} {t : Bool} (hc : a.eval c = .bool t) (h : (if t then x else y).wpK P kind Q a cs w) : (Code.cond c x y).wpK P kind Q a cs w :=
  fun b k h1 h2 => let ⟨e, a', cs', w', q, r⟩ := h b k h1 h2; ⟨e, a', cs', w', q, .of_steps (.one (step_cond hc)) r⟩

theorem wpK_seq {x y : Code} (h : x.wpK P kind (Exit.thenS (y.wpK P kind Q) Q) a cs w) : (Code.seq x y).wpK P kind Q a cs w := by
  intro b k hb hr
  obtain ⟨e, a₁, cs₁, w₁, hq, harr⟩ := h b (.code y :: k) hb hr
  cases e with
  | normal =>
    obtain ⟨e₂, a₂, cs₂, w₂, hq₂, harr₂⟩ := hq b k hb hr
    exact ⟨e₂, a₂, cs₂, w₂, hq₂, .of_steps (.head step_seq harr) harr₂⟩
  | exit id => exact ⟨_, a₁, cs₁, w₁, hq, .of_steps (.one step_seq) (.pass (x := .code y) rfl (fun _ _ => .inl (by simp)) harr)⟩
  | goto l => exact ⟨_, a₁, cs₁, w₁, hq, .of_steps (.one step_seq) (.pass (x := .code y) rfl (fun _ _ => .inl (by simp)) harr)⟩
  | ret => exact ⟨_, a₁, cs₁, w₁, hq, .of_steps (.one step_seq) (.pass (x := .code y) rfl (fun _ _ => .inl (by simp)) harr)⟩
  | panic ch => exact ⟨_, a₁, cs₁, w₁, hq, .of_steps (.one step_seq) (.pass (x := .code y) rfl (fun _ _ => .inl (by simp)) harr)⟩
  | outgrown => exact ⟨_, a₁, cs₁, w₁, hq, .of_steps (.one step_seq) (.pass (x := .code y) rfl (fun _ _ => .inl (by simp)) harr)⟩

def Exit.inBlockS (id : Nat) (Q : Exit → Act → List Frame → World → Prop) : Exit → Act → List Frame → World → Prop
  | .exit id', a, cs, w => if id' = id then Q .normal a cs w else Q (.exit id') a cs w
  | e, a, cs, w => Q e a cs w

theorem wpK_block {id : Nat} {c : Code} (h : c.wpK P kind (Exit.inBlockS id Q) a cs w) : (Code.block id c).wpK P kind Q a cs w := by
  intro b k hb hr
  obtain ⟨e, a₁, cs₁, w₁, hq, harr⟩ := h b (.inBlock id :: k) hb hr
  cases e with
  | normal => exact ⟨.normal, a₁, cs₁, w₁, hq, .head step_block (Steps.trans harr (.one step_inBlock))⟩
  | exit id' =>
    by_cases hid : id' = id
    · simp only [Exit.inBlockS, hid, if_true] at hq
      exact ⟨.normal, a₁, cs₁, w₁, hq, .head step_block (harr k (by simp [exitTo, hid]))⟩
    · simp only [Exit.inBlockS, hid, if_false] at hq
      refine ⟨.exit id', a₁, cs₁, w₁, hq, fun k' hk => .head step_block (harr k' ?_)⟩
      have : (id == id') = false := by simp; exact fun h => hid h.symm
      simp [exitTo, this, hk]
  | goto l => exact ⟨_, a₁, cs₁, w₁, hq, fun k' hk => .head step_block (harr k' (by simp [gotoIn, hk]))⟩
  | ret => exact ⟨_, a₁, cs₁, w₁, hq, .of_steps (.one step_block) harr⟩
  | panic ch => exact ⟨_, a₁, cs₁, w₁, hq, .of_steps (.one step_block) harr⟩
  | outgrown => exact ⟨_, a₁, cs₁, w₁, hq, .of_steps (b := b) (k := k) (cs := cs₁) (e := .outgrown) (.one step_block) harr⟩

theorem wpK_loop {c : Code} (I : Act → List Frame → World → Prop) (μ : Act → List Frame → World → Nat) (h₀ : I a cs w)
    (round : ∀ a cs w, I a cs w → c.wpK P kind (Exit.thenS (fun a' cs' w' => I a' cs' w' ∧ μ a' cs' w' < μ a cs w) Q) a cs w) : (Code.loop c).wpK P kind Q a cs w := by
  intro b k hb hr
  have key : ∀ n a cs w, μ a cs w = n → I a cs w →
      ∃ e a' cs' w', Q e a' cs' w' ∧ Arrives P (lone (b.at a (.code c :: .inLoop c :: k)) cs w) b k cs' e a' w' := by
    intro n
    induction n using Nat.strongRecOn with
    | _ n ih =>
      intro a cs w hn hI
      obtain ⟨e, a₁, cs₁, w₁, hq, harr⟩ := round a cs w hI b (.inLoop c :: k) hb hr
      cases e with
      | normal =>
        obtain ⟨hI₁, hlt⟩ := hq
        obtain ⟨e₂, a₂, cs₂, w₂, hq₂, harr₂⟩ := ih (μ a₁ cs₁ w₁) (hn ▸ hlt) a₁ cs₁ w₁ rfl hI₁
        exact ⟨e₂, a₂, cs₂, w₂, hq₂, .of_steps (Steps.trans harr (.one step_inLoop)) harr₂⟩
      | exit id => exact ⟨_, a₁, cs₁, w₁, hq, .pass (x := .inLoop c) rfl (fun _ _ => .inl (by simp)) harr⟩
      | goto l => exact ⟨_, a₁, cs₁, w₁, hq, .pass (x := .inLoop c) rfl (fun _ _ => .inl (by simp)) harr⟩
      | ret => exact ⟨_, a₁, cs₁, w₁, hq, .pass (x := .inLoop c) rfl (fun _ _ => .inl (by simp)) harr⟩
      | panic ch => exact ⟨_, a₁, cs₁, w₁, hq, .pass (x := .inLoop c) rfl (fun _ _ => .inl (by simp)) harr⟩
      | outgrown => exact ⟨_, a₁, cs₁, w₁, hq, .pass (x := .inLoop c) rfl (fun _ _ => .inl (by simp)) harr⟩
  obtain ⟨e, a', cs', w', hq, harr⟩ := key _ a cs w rfl h₀
  exact ⟨e, a', cs', w', hq, .of_steps (.one step_loop) harr⟩

/-- A region's operations, in the order of the list. -/
def wpOpsK (P : Program) (kind : CallKind) (ops : Array Oper) (Q : Exit → Act → List Frame → World → Prop) : List Nat → Act → List Frame → World → Prop
  | [], a, cs, w => Q .normal a cs w
  | i :: rest, a, cs, w =>
    match ops[i]? with
    | none => wpOpsK P kind ops Q rest a cs w
    | some o =>
      if Region.wanted o (yielded ops a.tmps) then
        match (execOp a.eval o).run P w with
        | .ok .recover w' =>
          match recK kind cs with
          | some (v, cs') => wpOpsK P kind ops Q rest (a.put o.dst v) cs' w'
          | none => wpOpsK P kind ops Q rest (a.put o.dst .nilIface) cs w'
        | r => o.upon P a (fun a' w' => wpOpsK P kind ops Q rest a' cs w') (fun e a' w' => Q e a' cs w') r
      else wpOpsK P kind ops Q rest (a.put o.dst undef) cs w

theorem wp_opsK {ops : Array Oper} (hkd : kind = .normal ∨ kind = .deferred) (l : List Nat) :
    ∀ (a : Act) (cs : List Frame) (w : World), wpOpsK P kind ops Q l a cs w → ∀ (b : Frame) (k : List Item), b.kind = kind → b.roundOf = none →
      ∃ e a' cs' w', Q e a' cs' w' ∧ Arrives P (lone (b.at a (.inRegion ops l :: k)) cs w) b k cs' e a' w' := by
  induction l with
  | nil => exact fun a cs w h b k _ _ => ⟨.normal, a, cs, w, h, .one step_region_end⟩
  | cons i rest ih =>
    intro a cs w h b k hb hro
    simp only [wpOpsK] at h
    cases ho : ops[i]? with
    | none =>
      simp only [ho] at h
      obtain ⟨e, a', cs', w', hq, harr⟩ := ih a cs w h b k hb hro
      have hs := step_op_skip (P := P) (b := b) (a := a) (k := k) (cs := cs) (w := w) (ops := ops) (i := i) (rest := rest) (by simp [ho])
      simp only [ho, Option.bind_none, Act.put] at hs
      exact ⟨e, a', cs', w', hq, .of_steps (.one hs) harr⟩
    | some o =>
      simp only [ho] at h
      by_cases hw : Region.wanted o (yielded ops a.tmps) = true
      · simp only [hw, if_true] at h
        have hg := stepG_op (P := P) (b := b) (k := k) (cs := cs) (w := w) (rest := rest) ho hw
        have hfin : ∀ v, (b.at a (.inRegion ops (i :: rest) :: k)).finish v = b.at (a.put o.dst v) (.inRegion ops rest :: k) := by
          intro v; rw [Frame.finish_at, ho]; rfl
        split at h
        · rename_i w' hr
          have hk : (b.at a (.inRegion ops (i :: rest) :: k)).kind = kind := hb
          have htr := tryRecover_recK hkd hk cs
          split at h
          · rename_i v cs' hrec
            obtain ⟨e, a', cs'', w'', hq, harr⟩ := ih _ _ _ h b k hb hro
            refine ⟨e, a', cs'', w'', hq, .of_steps (.one (step_lone_go ?_)) harr⟩
            rw [hg, ← hfin]
            simp only [Frame.at] at htr ⊢
            simp [stepG.apply, hr, htr, hrec]
          · rename_i hrec
            obtain ⟨e, a', cs'', w'', hq, harr⟩ := ih _ _ _ h b k hb hro
            refine ⟨e, a', cs'', w'', hq, .of_steps (.one (step_lone_go ?_)) harr⟩
            rw [hg, ← hfin]
            simp only [Frame.at] at htr ⊢
            simp [stepG.apply, hr, htr, hrec]
        · rename_i r hnot
          generalize hr : (execOp a.eval o).run P w = r' at h hnot
          simp only [Oper.upon] at h
          split at h
          · rename_i v w'
            obtain ⟨e, a', cs'', w'', hq, harr⟩ := ih _ _ _ h b k hb hro
            refine ⟨e, a', cs'', w'', hq, .of_steps (.one (step_lone_go ?_)) harr⟩
            rw [hg, ← hfin]; simp [stepG.apply, hr]
          · rename_i w'
            obtain ⟨e, a', cs'', w'', hq, harr⟩ := ih _ _ _ h b k hb hro
            refine ⟨e, a', cs'', w'', hq, .of_steps (.one (step_lone_go ?_)) harr⟩
            rw [hg, ← hfin]; simp [stepG.apply, hr]
          · rename_i d w'
            obtain ⟨e, a', cs'', w'', hq, harr⟩ := ih _ _ _ h b k hb hro
            refine ⟨e, a', cs'', w'', hq, .of_steps (.one (step_lone_go ?_)) harr⟩
            have : ({ b.at a (.inRegion ops (i :: rest) :: k) with defers := d :: a.defers } : Frame).finish undef =
                b.at ({ a with defers := d :: a.defers }.put o.dst undef) (.inRegion ops rest :: k) := by
              have := Frame.finish_at b { a with defers := d :: a.defers } ops i rest k undef
              rw [ho] at this; exact this
            rw [hg]; simp only [stepG.apply, Sem.runT_eq, hr, GStep.bare_after]
            exact congrArg (fun fr => GStep.go { frame := fr, callers := cs, status := .running, dying := none } w') this
          · rename_i f args w'
            obtain ⟨e, w'', fr, hR, hsteps, _, hleave⟩ := h (b.at a (.inRegion ops (i :: rest) :: k) :: cs)
            have henter : step P (lone (b.at a (.inRegion ops (i :: rest) :: k)) cs w) =
                .next (lone (Frame.enter P f args .normal) (b.at a (.inRegion ops (i :: rest) :: k) :: cs) w') :=
              step_lone_go (by rw [hg]; simp [stepG.apply, hr, Frame.at])
            cases e with
            | returned v =>
              obtain ⟨e, a', cs'', w₃, hq, harr⟩ := ih _ _ _ hR b k hb hro
              refine ⟨e, a', cs'', w₃, hq, .of_steps (.head henter (hsteps.trans (.one ?_))) harr⟩
              rw [← hfin]; exact step_leave_returned hleave
            | panicked chain =>
              refine ⟨.panic chain, a, cs, w'', hR, .inRegion ops (i :: rest) :: k, .head henter (hsteps.trans (.one ?_))⟩
              rw [← Frame.raise_at]; exact step_leave_panicked hleave
            | outgrown =>
              obtain ⟨a₀, w₀, hq⟩ := hR
              exact ⟨.outgrown, a₀, cs, w₀, hq, .inr (Outgrown.of_steps (.one henter) hsteps)⟩
          · rename_i row args w'
            obtain ⟨v, w'', hR, hsteps⟩ := h (b.at a (.inRegion ops (i :: rest) :: k)) cs
            have henter : step P (lone (b.at a (.inRegion ops (i :: rest) :: k)) cs w) =
                .next (lone (Frame.ofRow P row args .normal) (b.at a (.inRegion ops (i :: rest) :: k) :: cs) w') :=
              step_lone_go (by rw [hg]; simp [stepG.apply, hr, Frame.at])
            obtain ⟨e, a', cs'', w₃, hq, harr⟩ := ih _ _ _ hR b k hb hro
            refine ⟨e, a', cs'', w₃, hq, .of_steps (.head henter ?_) harr⟩
            rw [← hfin]; exact hsteps
          · rename_i v w'
            refine ⟨_, a, cs, w', h, .inRegion ops (i :: rest) :: k, .one (step_lone_go ?_)⟩
            rw [hg, ← Frame.raise_at]; simp [stepG.apply, hr]
          · exact h.elim
      · simp only [hw, if_false, Bool.false_eq_true] at h
        obtain ⟨e, a', cs', w', hq, harr⟩ := ih _ _ _ h b k hb hro
        have hs := step_op_skip (P := P) (b := b) (a := a) (k := k) (cs := cs) (w := w) (ops := ops) (i := i) (rest := rest)
          (by simp [ho]; simpa using hw)
        simp only [ho, Option.bind_some] at hs
        exact ⟨e, a', cs', w', hq, .of_steps (.one hs) harr⟩

theorem wpK_region {id : Nat} {ops : Array Oper} (hkd : kind = .normal ∨ kind = .deferred) (h : wpOpsK P kind ops Q (List.range ops.size) a cs w) : (Code.region id ops false).wpK P kind Q a cs w :=
  fun b k hb hr => let ⟨e, a', cs', w', q, r⟩ := wp_opsK hkd _ a cs w h b k hb hr; ⟨e, a', cs', w', q, .of_steps (.one step_region) r⟩
theorem wpK_region_draw {id : Nat} {ops : Array Oper} (hkd : kind = .normal ∨ kind = .deferred) (h : ∀ t, wpOpsK P kind ops Q (Region.schedule (P.follows .mixedOrders) ops t) a cs { w with drawn := w.drawn + 1 }) :
    (Code.region id ops true).wpK P kind Q a cs w :=
  fun b k hb hr => let ⟨e, a', cs', w', q, r⟩ := wp_opsK hkd _ a cs _ (h _) b k hb hr; ⟨e, a', cs', w', q, .of_steps (.one step_region_draw) r⟩
/-- A piece that does not recover, ahead of one that may. -/
theorem wpK_seq_wp {x y : Code} (h : x.wp P (Exit.then (fun a' w' => y.wpK P kind Q a' cs w') (fun e a' w' => Q e a' cs w')) a w) : (Code.seq x y).wpK P kind Q a cs w :=
  wpK_seq (wpK_of_wp (wp_mono h fun e a w h => by cases e <;> exact h))

/-- A deferred frame's own deferred calls. -/
theorem leaves_going {fn : Func} {tmps : Array Value} {R : Ending → World → Prop} : ∀ (ds : List Deferred) (u : FrameMode) (w : World) (fr : Frame)
    (cs : List Frame), fr.mode = u → fr.defers = ds → fr.tmps = tmps → P.funcs[fr.fn]? = some fn → fr.kind = .deferred → Leaves P fn tmps R ds u w →
    ∃ e w' fr', R e w' ∧ Comes P (lone fr cs w) (lone fr' cs w') e ∧ fr'.kind = .deferred ∧ fr'.going P w' e := by
  intro ds
  induction ds with
  | nil =>
    intro u w fr cs hu hd ht hf hk h
    cases u with
    | run => exact h.elim
    | returning =>
      obtain ⟨v, hr, hR⟩ := h
      exact ⟨.returned v, w, fr, hR, Steps.refl P _, hk, hu, hd, fn, hf, ht ▸ hr⟩
    | panicking chain => exact ⟨.panicked chain, w, fr, h, Steps.refl P _, hk, hu, hd, fn, hf⟩
  | cons d ds ih =>
    intro u w fr cs hu hd ht hf hk h
    obtain ⟨hrun, fv, cap, f, args, htar, hinv, hcall⟩ := h
    have h1 := step_defer (cs := cs) (hu ▸ hrun) hd htar hinv
    obtain ⟨e, u', w', frX, hR, hsteps, hkX, hgo⟩ := hcall { fr with defers := ds } cs hu
    cases e with
    | returned v =>
      have h2 := step_going_returned (c := { { fr with defers := ds } with mode := u' }) (cs := cs) hkX hgo
      obtain ⟨e', w'', fr', hR', hs', hk', hl'⟩ := ih (settle u') w' { { { fr with defers := ds } with mode := u' } with mode := settle u' } cs rfl rfl ht hf hk hR
      exact ⟨e', w'', fr', hR', Comes.of_steps (.head h1 (Steps.trans hsteps (.one h2))) hs', hk', hl'⟩
    | panicked chain =>
      have h2 := step_going_panicked (c := { { fr with defers := ds } with mode := u' }) (cs := cs) hgo
      obtain ⟨e', w'', fr', hR', hs', hk', hl'⟩ := ih (raised u' chain) w' { { { fr with defers := ds } with mode := u' } with mode := raised u' chain } cs rfl rfl ht hf hk hR
      exact ⟨e', w'', fr', hR', Comes.of_steps (.head h1 (Steps.trans hsteps (.one h2))) hs', hk', hl'⟩
    | outgrown => exact ⟨.outgrown, w', fr, hR, Outgrown.of_steps (.one h1) hsteps, hk, trivial⟩

/-- Where a body of a frame with deferred calls of its own ends; S tells what became of the frames beneath. -/
def bodyPostK (P : Program) (fn : Func) (R : Ending → List Frame → World → Prop) : Exit → Act → List Frame → World → Prop
  | .normal, a, cs, w | .ret, a, cs, w => Leaves P fn a.tmps (fun e w' => R e cs w') a.defers .returning w
  | .panic chain, a, cs, w => Leaves P fn a.tmps (fun e w' => R e cs w') a.defers (.panicking chain) w
  | .outgrown, _, cs, w => R .outgrown cs w
  | _, _, _, _ => False

theorem calls_of_wpK {f : FuncId} {fn : Func} {c : Code} {args : Array Value} {w : World} {R : Ending → World → Prop}
    (hf : P.funcs[f]? = some fn) (hb : fn.body = some c)
    (h : ∀ cs : List Frame, c.wpK P .normal (bodyPostK P fn fun e cs' w' => cs' = cs ∧ R e w') { tmps := args ++ Array.replicate (fn.ntmps - args.size) undef, defers := [] } cs w) : Calls P f args w R := by
  intro cs
  let b : Frame := { (default : Frame) with fn := f, kind := .normal }
  have henter : Frame.enter P f args .normal =
      b.at { tmps := args ++ Array.replicate (fn.ntmps - args.size) undef, defers := [] } [.code c] := by
    simp [Frame.enter, Frame.at, hf, hb, b]
  obtain ⟨e, a', cs', w', hq, harr⟩ := h cs b [] rfl rfl
  rw [← henter] at harr
  cases e with
  | normal =>
    obtain ⟨e', w'', fr', hR, hs, hfn, hl⟩ := leaves_steps a'.defers .returning w' { b.at a' [] with mode := .returning } cs' rfl rfl rfl hf rfl hq
    obtain ⟨rfl, hR⟩ := hR
    exact ⟨e', w'', fr', hR, Comes.of_steps (Steps.trans harr (.one step_end)) hs, hfn, hl⟩
  | ret =>
    obtain ⟨todo, hs₀⟩ := harr
    obtain ⟨e', w'', fr', hR, hs, hfn, hl⟩ := leaves_steps a'.defers .returning w' { b.at a' todo with mode := .returning } cs' rfl rfl rfl hf rfl hq
    obtain ⟨rfl, hR⟩ := hR
    exact ⟨e', w'', fr', hR, Comes.of_steps hs₀ hs, hfn, hl⟩
  | panic chain =>
    obtain ⟨todo, hs₀⟩ := harr
    obtain ⟨e', w'', fr', hR, hs, hfn, hl⟩ := leaves_steps a'.defers (.panicking chain) w' { b.at a' todo with mode := .panicking chain } cs' rfl rfl rfl hf rfl hq
    obtain ⟨rfl, hR⟩ := hR
    exact ⟨e', w'', fr', hR, Comes.of_steps hs₀ hs, hfn, hl⟩
  | exit id => exact hq.elim
  | goto l => exact hq.elim
  | outgrown => exact ⟨.outgrown, w', b, hq.2, harr.resolve_left (by simp [b]), rfl, trivial⟩

theorem callsD_of_wpK {f : FuncId} {fn : Func} {c : Code} {args : Array Value} {u : FrameMode} {w : World} {R : Ending → FrameMode → World → Prop}
    (hf : P.funcs[f]? = some fn) (hb : fn.body = some c)
    (h : ∀ (c₀ : Frame) (cs : List Frame), c₀.mode = u →
      c.wpK P .deferred (bodyPostK P fn fun e cs' w' => ∃ u', cs' = { c₀ with mode := u' } :: cs ∧ R e u' w') { tmps := args ++ Array.replicate (fn.ntmps - args.size) undef, defers := [] } (c₀ :: cs) w) :
    CallsD P f args u w R := by
  intro c₀ cs hu
  let b : Frame := { (default : Frame) with fn := f, kind := .deferred }
  have henter : Frame.enter P f args .deferred =
      b.at { tmps := args ++ Array.replicate (fn.ntmps - args.size) undef, defers := [] } [.code c] := by
    simp [Frame.enter, Frame.at, hf, hb, b]
  obtain ⟨e, a', cs', w', hq, harr⟩ := h c₀ cs hu b [] rfl rfl
  rw [← henter] at harr
  cases e with
  | normal =>
    obtain ⟨e', w'', fr', ⟨u', rfl, hR⟩, hs, hk, hl⟩ := leaves_going a'.defers .returning w' { b.at a' [] with mode := .returning } cs' rfl rfl rfl hf rfl hq
    exact ⟨e', u', w'', fr', hR, Comes.of_steps (Steps.trans harr (.one step_end)) hs, hk, hl⟩
  | ret =>
    obtain ⟨todo, hs₀⟩ := harr
    obtain ⟨e', w'', fr', ⟨u', rfl, hR⟩, hs, hk, hl⟩ := leaves_going a'.defers .returning w' { b.at a' todo with mode := .returning } cs' rfl rfl rfl hf rfl hq
    exact ⟨e', u', w'', fr', hR, Comes.of_steps hs₀ hs, hk, hl⟩
  | panic chain =>
    obtain ⟨todo, hs₀⟩ := harr
    obtain ⟨e', w'', fr', ⟨u', rfl, hR⟩, hs, hk, hl⟩ := leaves_going a'.defers (.panicking chain) w' { b.at a' todo with mode := .panicking chain } cs' rfl rfl rfl hf rfl hq
    exact ⟨e', u', w'', fr', hR, Comes.of_steps hs₀ hs, hk, hl⟩
  | exit id => exact hq.elim
  | goto l => exact hq.elim
  | outgrown =>
    obtain ⟨u', rfl, hR⟩ := hq
    exact ⟨.outgrown, u', w', b, hR, harr.resolve_left (by simp [b]), rfl, trivial⟩
end
end Go
