/- catch: a frame, run: by induction on the plain machine's fuel. -/
import Derived.Test.YtokfnlfadofmnaaDoorCi
namespace Go.Proofs.YtokfnlfadofmnaaDoor
open Go.RowKit
set_option linter.unusedVariables false

def fargs (M f R : Nat) : Array Value := #[.pointer (some ⟨M, 0, none⟩), .int .i64 f, .pointer (some ⟨R, 0, none⟩)]

/-- A frame of fuel n does what the plain machine says: called, or deferred. -/
def FC (c : Cx) (n : Nat) : Prop := ∀ (d f R : Nat) (r : Res) (q : Option Pan) (m : Mst) (x : Fin) (w : World), runL c.F itoaB n (d + 1) f 0 r q [] m = some x → f < c.F.length → Inv c d m w → RS R r w → c.base ≤ R → d + 1 + n ≤ 100000000 →
  (q = none → Calls Tryd.prog 23 (fargs c.M f R) w (FPost c R d x.p x.m x.r w)) ∧
  (∀ u, ModeIn u q → CallsD Tryd.prog 23 (fargs c.M f R) u w fun e u' w' => ModeIn u' x.by_ ∧ FPost c R d x.p x.m x.r w e w')
/-- A frame's deferred calls, and its end. -/
def LV (c : Cx) (n : Nat) : Prop := ∀ (d R mb hi : Nat) (r : Res) (q : Option Pan) (ds : List Dfr) (p : Option Pan) (m : Mst) (x : Fin) (w0 w : World) (l : List Deferred) (u : FrameMode) (t : Array Value) (Rf : Ending → World → Prop), leaveL c.F itoaB n (d + 1) r q ds p m = some x →
  Inv c (d + 1) m w → RS R r w → w.heap[mb]? = some (.cells #[.pointer (some ⟨c.M, 0, none⟩)] 58 (0, 0)) → DL c.M R mb w0.heap.size c.F.length w hi ds l → Chg c.base c.M R w0 w → R < w0.heap.size → c.base ≤ R → c.base ≤ w0.heap.size → d + 1 + n ≤ 100000000 → ModeOut u p →
  (∀ e w', FPost c R d x.p x.m x.r w0 e w' → Rf e w') → x.by_ = q ∧ Leaves Tryd.prog Tryd.f23 t Rf l u w
/-- A frame from a round's head on. -/
def LH (c : Cx) (n : Nat) : Prop := ∀ (d f at_ R mb : Nat) (sv : Value) (r : Res) (q : Option Pan) (ds : List Dfr) (m : Mst) (x : Fin) (w0 w : World) (t : Array Value) (df : List Deferred) (kind : CallKind) (bs cs : List Frame) (Rf : Ending → List Frame → World → Prop), runL c.F itoaB n (d + 1) f at_ r q ds m = some x →
  f < c.F.length → Hd c w0 (d + 1) f R mb at_ sv r ds m t df w → Bn kind bs cs q → c.base ≤ w0.heap.size → d + 1 + n ≤ 100000000 →
  (∀ e cs' w', Bn kind bs cs' x.by_ → FPost c R d x.p x.m x.r w0 e w' → Rf e cs' w') →
  (loopOf Tryd.f23).wpL Tryd.prog kind (Exit.inBlockS 0 (Exit.noGotoS (bodyPostK Tryd.prog Tryd.f23 Rf))) ⟨t, df⟩ cs w

theorem leaves_nil {t : Array Value} {Rf : Ending → World → Prop} {u : FrameMode} {p : Option Pan} {w : World} (hu : ModeOut u p) (h : ∀ e, EndOk p e → Rf e w) : Leaves Tryd.prog Tryd.f23 t Rf [] u w := by
  cases p with
  | none =>
    obtain rfl : u = .returning := hu
    exact ⟨.tuple #[], results_none rfl _ _ _, h _ rfl⟩
  | some p =>
    obtain ⟨v, o, rfl, hv, ho⟩ := hu
    exact h _ ⟨v, o, rfl, hv, ho⟩

theorem lv_zero (c : Cx) : LV c 0 := by
  intro d R mb hi r q ds p m x w0 w l u t Rf h
  simp [leaveL] at h
theorem lv_succ (c : Cx) (n : Nat) (hF : FC c n) (hL : LV c n) : LV c (n + 1) := by
  intro d R mb hi r q ds p m x w0 w l u t Rf h hinv hrs hbox hdl hchg hR hbR hbs hd hu hpost
  obtain ⟨ov, hm, hown⟩ := hinv.ms
  cases ds with
  | nil =>
    obtain rfl : l = [clo mb] := hdl
    simp only [leaveL, Option.some.injEq] at h
    subst h
    refine ⟨rfl, leaves_cons (f := 27) (args := #[.pointer (some ⟨mb, 0, none⟩)]) hu.ne (by rfl) ?_⟩
    refine (clo_run (d := d) hbox hm (by rfl) (by omega)).mono ?_
    rintro e u' w' ⟨rfl, rfl, rfl⟩
    refine leaves_nil (settle_out hu.inn) fun e he => hpost e _ ⟨he, ?_, ?_, ?_⟩
    · exact hinv.setM hm hown 2 _ rfl rfl hinv.mb
    · have : RS R r (w.setCell ⟨c.M, 2, none⟩ (.int .i64 (d : Int))) := by
        show (w.setCell _ _).heap[R]? = _
        rw [Below.heap_setCell _ _ _ _ (show R ≠ c.M by rintro rfl; have e := (show w.heap[c.M]? = _ from hrs).symm.trans hm; simp at e)]; exact hrs
      exact this
    · exact hchg.trans (.setM 2 _) (.inl rfl)
  | cons g ds =>
    obtain ⟨R2, l', rfl, hf, hd2⟩ := hdl
    simp only [leaveL] at h
    cases hrun : runL c.F itoaB n (d + 1 + 1) g.f 0 (if g.shared then r else Res.new) p [] m with
    | none => simp [hrun] at h
    | some y =>
      simp only [hrun] at h
      have hrs2 : RS R2 (if g.shared then r else Res.new) w ∧ c.base ≤ R2 ∧ (g.shared = true → R2 = R) ∧ (g.shared = false → w0.heap.size ≤ R2) := by
        cases hsh : g.shared
        · simp only [hsh, Bool.false_eq_true, if_false] at hd2 ⊢
          exact ⟨hd2.2.2.1, by omega, by simp, fun _ => hd2.1⟩
        · simp only [hsh, if_true] at hd2 ⊢
          rw [hd2.1]; exact ⟨hrs, hbR, by simp, by simp⟩
      obtain ⟨hrs2, hb2, hs1, hs2⟩ := hrs2
      have hcall := (hF (d + 1) g.f R2 _ p m y w hrun hf hinv hrs2 hb2 (by omega)).2 u hu.inn
      have key : ∀ (e : Ending) (u' u2 : FrameMode) (w' : World), FPost c R2 (d + 1) y.p y.m y.r w e w' → ModeOut u2 (nextBy y) → x.by_ = q ∧ Leaves Tryd.prog Tryd.f23 t Rf l' u2 w' := by
        intro e u' u2 w' ⟨h1, h2, h3, h4⟩ hmo
        have hbox' := h4.keep hm hrs2 hbox (by decide) (by decide) (by decide)
        have hchg' : Chg c.base c.M R w0 w' := hchg.trans h4 (by
          cases hsh : g.shared
          · exact .inr (hs2 hsh)
          · exact .inl (hs1 hsh))
        cases hsh : g.shared
        · have hrs' : RS R r w' := hrs.keep h4 hm (by have := hs2 hsh; omega)
          simp only [hsh, Bool.false_eq_true, if_false] at hd2 h
          exact hL d R mb R2 r q ds (nextBy y) y.m x w0 w' l' u2 t Rf h h2 hrs' hbox' (dl_chg hd2.2.2.2 h4 hm (.inr (Nat.le_refl _))) hchg' hR hbR hbs (by omega) hmo hpost
        · have e2 := hs1 hsh
          subst e2
          simp only [hsh, if_true] at hd2 h
          exact hL d R2 mb hi y.r q ds (nextBy y) y.m x w0 w' l' u2 t Rf h h2 h3 hbox' (dl_chg hd2.2 h4 hm (.inl hR)) hchg' hR hbR hbs (by omega) hmo hpost
      constructor
      · obtain ⟨e, u', w', fr, ⟨hm1, hp1⟩, _⟩ := hcall { (default : Frame) with mode := u } [] rfl
        cases hyp : y.p with
        | none => exact (key e u' (settle u') w' hp1 (by unfold nextBy; rw [hyp]; exact settle_out hm1)).1
        | some z =>
          have h1 := hp1.1
          rw [hyp] at h1
          obtain ⟨v, o, rfl, hv, ho⟩ := h1
          exact (key _ u' (raised u' ({ v := v, recovered := false } :: o)) w' hp1 (by unfold nextBy; rw [hyp]; exact raised_out hm1 hv ho)).1
      · refine leaves_cons (f := 23) (args := fargs c.M g.f R2) hu.ne (by rfl) (hcall.mono ?_)
        intro e u' w' ⟨hm1, hp1⟩
        cases hyp : y.p with
        | none =>
          have h1 := hp1.1
          rw [hyp] at h1
          obtain rfl : e = .returned (.tuple #[]) := h1
          exact (key _ u' (settle u') w' hp1 (by unfold nextBy; rw [hyp]; exact settle_out hm1)).2
        | some z =>
          have h1 := hp1.1
          rw [hyp] at h1
          obtain ⟨v, o, rfl, hv, ho⟩ := h1
          exact (key _ u' (raised u' ({ v := v, recovered := false } :: o)) w' hp1 (by unfold nextBy; rw [hyp]; exact raised_out hm1 hv ho)).2

theorem body_eq : Tryd.f23.body = some (bodyOf Tryd.f23) := by rfl
theorem fc_begin {c : Cx} {n : Nat} (hL : LH c n) {d f R : Nat} {r : Res} {q : Option Pan} {m : Mst} {x : Fin} {w : World} (h : runL c.F itoaB n (d + 1) f 0 r q [] m = some x) (hf : f < c.F.length) (hinv : Inv c d m w) (hrs : RS R r w) (hbR : c.base ≤ R) (hd : d + 1 + n ≤ 100000000) (hlen : c.F.length ≤ 1000000)
    {kind : CallKind} {bs cs : List Frame} (hB : Bn kind bs cs q) {Rf : Ending → List Frame → World → Prop} (hpost : ∀ e cs' w', Bn kind bs cs' x.by_ → FPost c R d x.p x.m x.r w e w' → Rf e cs' w') :
    (bodyOf Tryd.f23).wpK Tryd.prog kind (bodyPostK Tryd.prog Tryd.f23 Rf) { tmps := fargs c.M f R ++ Array.replicate (Tryd.f23.ntmps - 3) undef, defers := [] } cs w := by
  obtain ⟨ov, hm, hown⟩ := hinv.ms
  obtain ⟨FB, cap, cur, hvf, hFB, hc1, hc2, hsl⟩ := hinv.fn
  obtain ⟨sv, hsv, hsown⟩ := hsl f hf
  obtain ⟨sa, sp, rfl⟩ := own_form hsown
  have hne : ¬ FB = c.M := by rintro rfl; have e := hFB.symm.trans hm; simp at e
  have hMl := (Array.getElem?_eq_some_iff.1 hm).1
  cases n with
  | zero => simp [runL] at h
  | succ n =>
  have hs0 : (w.setCell ⟨c.M, 2, none⟩ (.int .i64 ((d : Int) + 1))).heap.size = w.heap.size := by simp
  have hb1 : Below (w.setCell ⟨c.M, 2, none⟩ (.int .i64 ((d : Int) + 1))).heap.size (w.setCell ⟨c.M, 2, none⟩ (.int .i64 ((d : Int) + 1))) ((w.setCell ⟨c.M, 2, none⟩ (.int .i64 ((d : Int) + 1))).alloc (.cells #[.pointer (some ⟨c.M, 0, none⟩)] 58)) := (Below.refl _ _).alloc (Nat.le_refl _) _
  have hi1 : Inv c (d + 1) m (w.setCell ⟨c.M, 2, none⟩ (.int .i64 ((d : Int) + 1))) := hinv.setM hm hown 2 _ rfl rfl hinv.mb
  have hc : Chg c.base c.M R w ((w.setCell ⟨c.M, 2, none⟩ (.int .i64 ((d : Int) + 1))).alloc (.cells #[.pointer (some ⟨c.M, 0, none⟩)] 58)) := (Chg.setM 2 _).trans (.of_below hb1) (.inl rfl)
  have hr1 : RS R r (w.setCell ⟨c.M, 2, none⟩ (.int .i64 ((d : Int) + 1))) := by
    show (w.setCell _ _).heap[R]? = _
    rw [Below.heap_setCell _ _ _ _ (show R ≠ c.M by rintro rfl; have e := (show w.heap[c.M]? = _ from hrs).symm.trans hm; simp at e)]; exact hrs
  refine frame_begins (d := d) (cap := cap) (FB := FB) hf hlen (by rw [cell_of_block hm]; exact congrArg some hvf) (by rw [cell_of_block hm]; rfl) (by omega) (fun i => frozen_of_block hm i) (by rw [cell_of_block hFB]; exact hsv) hne ?_
  intro t ht
  refine hL d f 0 R w.heap.size _ r q [] m x w _ t _ kind bs cs Rf h hf ⟨ht, ?_, hi1.below hb1, hr1.below hb1, alloc_at' _ _ _ hs0.symm, rfl, hc, hMl, hrs.lt, hbR⟩ hB hinv.baseS (by omega) hpost
  exact owns_keep hsown fun b cur hb => by rw [hc.keep hm hrs hb (by decide) (by decide) (by decide)]; exact hb.symm
theorem fc_of_lh {c : Cx} {n : Nat} (hlen : c.F.length ≤ 1000000) (hL : LH c n) : FC c n := by
  intro d f R r q m x w h hf hinv hrs hbR hd
  constructor
  · rintro rfl
    refine calls_of_wpK Tryd.func23 body_eq fun cs => ?_
    exact fc_begin hL h hf hinv hrs hbR hd hlen (kind := .normal) (bs := cs) (.inl ⟨rfl, rfl, rfl⟩) (fun e cs' w' hB hp => by
      rcases hB with ⟨_, h2, _⟩ | ⟨h1, _⟩
      · exact ⟨h2, hp⟩
      · cases h1)
  · intro u hu
    refine callsD_of_wpK Tryd.func23 body_eq fun c0 cs hc0 => ?_
    refine fc_begin hL h hf hinv hrs hbR hd hlen (kind := .deferred) (bs := c0 :: cs) (.inr ⟨rfl, c0, cs, u, rfl, by rw [← hc0], hu⟩) (fun e cs' w' hB hp => ?_)
    rcases hB with ⟨h1, _⟩ | ⟨_, c1, rest, u', h1, h2, h3⟩
    · cases h1
    · cases h1
      exact ⟨u', h2, h3, hp⟩
end Go.Proofs.YtokfnlfadofmnaaDoor
