/- catch's machine in memory. -/
import Derived.Test.YtokfnlfadofmnaaDoorCb
import Derived.Test.YtokfnlfadofmnaaDoorXc
import Derived.Lib.LaidTab
import Derived.Shelf.Strconv.Itoa3
namespace Go.Proofs.YtokfnlfadofmnaaDoor
open Go.RowKit
set_option linter.unusedVariables false

def rc (r : Res) : Array Value := #[.int .i16 r.number, .int .i64 0, .int .i64 r.last.sort, .string r.last.word, .int .i64 0]
def mc (vb vf : Value) (d : Nat) (m : Mst) (ov : Value) : Array Value := #[vb, vf, .int .i64 d, .int .i64 m.steps, .bool m.spent, ov]
def oc1 (o : OutE) : List Value := [.int .i64 o.fn, .int .i64 o.at_, .int .i16 o.number, .int .i64 0, .int .i64 o.pan.sort, .string o.pan.word, .int .i64 0]
def oc (l : List OutE) : List Value := l.flatMap oc1
def sc1 (s : Stp) : List Value := [.int .u8 s.op, .int .i16 s.n, .int .i64 s.f, .int .i64 0]
def sc (l : List Stp) : List Value := l.flatMap sc1
def itoaB (n : Int) : ByteArray := ⟨(Lib.itoa n).toArray⟩
theorem oc_len (l : List OutE) : (oc l).length = l.length * 7 := by induction l with
  | nil => rfl
  | cons o l ih => simp only [oc, List.flatMap_cons, List.length_append] at *; rw [ih]; simp [oc1]; omega
theorem sc_len (l : List Stp) : (sc l).length = l.length * 4 := by induction l with
  | nil => rfl
  | cons o l ih => simp only [sc, List.flatMap_cons, List.length_append] at *; rw [ih]; simp [sc1]; omega
theorem sc_get (l : List Stp) (k j : Nat) (hk : k < l.length) (hj : j < 4) : (sc l)[k * 4 + j]? = (sc1 (l.getD k default))[j]? := by
  induction l generalizing k with
  | nil => simp at hk
  | cons s l ih =>
    simp only [sc, List.flatMap_cons]
    cases k with
    | zero => rw [List.getElem?_append_left (by simp [sc1]; omega)]; simp
    | succ k =>
      rw [List.getElem?_append_right (by simp [sc1]; omega)]
      have e : (k + 1) * 4 + j - (sc1 s).length = k * 4 + j := by simp [sc1]; omega
      rw [e]
      have := ih k (by simpa using hk)
      simpa [sc] using this
theorem oc_snoc (l : List OutE) (o : OutE) : oc (l ++ [o]) = oc l ++ oc1 o := by simp [oc]

/-- What may turn: the machine, one results block, the rows of what was told. -/
structure Chg (base M R : Nat) (w w' : World) : Prop where
  os : w'.os = w.os
  tape : w'.tape = w.tape
  output : w'.output = w.output
  size : w.heap.size ≤ w'.heap.size
  block : ∀ b, b < w.heap.size → b ≠ M → b ≠ R → (∀ cur fr, w.heap[b]? = some (.cells cur 38 fr) → b < base) → w'.heap[b]? = w.heap[b]?
theorem Chg.refl (base M R : Nat) (w : World) : Chg base M R w w := ⟨rfl, rfl, rfl, Nat.le_refl _, fun _ _ _ _ _ => rfl⟩
theorem Chg.trans {base M R R2 : Nat} {w w1 w2 : World} (h : Chg base M R w w1) (k : Chg base M R2 w1 w2) (hR : R2 = R ∨ w.heap.size ≤ R2) : Chg base M R w w2 :=
  ⟨k.os.trans h.os, k.tape.trans h.tape, k.output.trans h.output, Nat.le_trans h.size k.size, fun b hb h1 h2 h3 => by
    have e := h.block b hb h1 h2 h3
    rw [k.block b (Nat.lt_of_lt_of_le hb h.size) h1 (by omega) (fun cur fr hc => h3 cur fr (by rw [← e]; exact hc)), e]⟩
theorem Chg.of_below {base M R : Nat} {w w' : World} (h : Below w.heap.size w w') : Chg base M R w w' :=
  ⟨h.os, h.tape, h.output, h.size, fun b hb _ _ _ => h.block b hb⟩
theorem Chg.setM {base M R : Nat} {w : World} (i : Nat) (v : Value) : Chg base M R w (w.setCell ⟨M, i, none⟩ v) :=
  ⟨rfl, rfl, rfl, by simp, fun b _ h _ _ => Below.heap_setCell _ _ _ _ h⟩
theorem Chg.setR {base M R : Nat} {w : World} (i : Nat) (v : Value) : Chg base M R w (w.setCell ⟨R, i, none⟩ v) :=
  ⟨rfl, rfl, rfl, by simp, fun b _ _ h _ => Below.heap_setCell _ _ _ _ h⟩
theorem Chg.setRow {base M R : Nat} {w : World} (cs : Array Value) : Chg base M R w (w.setRow R cs) :=
  ⟨rfl, rfl, rfl, by simp, fun b _ _ h _ => setRow_other _ _ _ _ h⟩
theorem Chg.grown {base M R n : Nat} {w w' : World} {v : Value} {xs : List Value} (h : w.ownsRow base 38 7 v n xs) (g : w.grownBy w' v.ownBlock) : Chg base M R w w' :=
  ⟨g.os, g.tape, g.output, g.size, fun b hb h1 h2 h3 => g.block b hb (by
    intro e
    rcases h.2 with ⟨rfl, _⟩ | ⟨o, cap, cur, rfl, ho, hh, _⟩
    · cases e
    · simp only [Value.ownBlock, Option.some.injEq] at e
      subst e
      have := h3 _ _ hh
      omega)⟩
theorem Chg.below {base M R : Nat} {w w' : World} (h : Chg base M R w w') (hM : base ≤ M) (hR : base ≤ R) (hb : base ≤ w.heap.size) : Below base w w' :=
  ⟨h.os, h.tape, h.output, h.size, fun b hlt => h.block b (by omega) (by omega) (by omega) (fun _ _ _ => hlt)⟩
theorem Chg.keep {base M R : Nat} {w w' : World} {cm cr cur : Array Value} {ty : TypeId} {fr : Nat × Nat} {b : Nat} (h : Chg base M R w w') (hM : w.heap[M]? = some (.cells cm 60 (0, 0))) (hR : w.heap[R]? = some (.cells cr 63 (0, 0)))
    (hb : w.heap[b]? = some (.cells cur ty fr)) (h1 : ty ≠ 60) (h2 : ty ≠ 63) (h3 : ty ≠ 38) : w'.heap[b]? = some (.cells cur ty fr) := by
  rw [h.block b (Array.getElem?_eq_some_iff.1 hb).1 (by rintro rfl; rw [hM] at hb; cases hb; exact h1 rfl) (by rintro rfl; rw [hR] at hb; cases hb; exact h2 rfl) (fun c f e => by rw [hb] at e; cases e; exact absurd rfl h3)]
  exact hb
theorem Chg.keepR {base M R : Nat} {w w' : World} {cm cur : Array Value} {fr : Nat × Nat} {b : Nat} (h : Chg base M R w w') (hM : w.heap[M]? = some (.cells cm 60 (0, 0))) (hne : b ≠ R)
    (hb : w.heap[b]? = some (.cells cur 63 fr)) : w'.heap[b]? = some (.cells cur 63 fr) := by
  rw [h.block b (Array.getElem?_eq_some_iff.1 hb).1 (by rintro rfl; rw [hM] at hb; cases hb) hne (fun c f e => by rw [hb] at e; cases e)]
  exact hb

structure Cx where
  base : Nat
  M : Nat
  vb : Value
  vf : Value
  F : List (List Stp)

/-- The functions, in memory. -/
def FN (c : Cx) (w : World) : Prop :=
  ∃ FB cap cur, c.vf = .slice (some ⟨FB, 0, none⟩) c.F.length cap ∧ w.heap[FB]? = some (.cells cur 24 (0, 0)) ∧ c.F.length ≤ cap ∧ cap ≤ maxLen ∧
    ∀ i, i < c.F.length → ∃ v, cur[i]? = some v ∧ w.ownsRow 0 27 4 v (c.F.getD i []).length (sc (c.F.getD i []))

structure Inv (c : Cx) (d : Nat) (m : Mst) (w : World) : Prop where
  ms : ∃ ov, w.heap[c.M]? = some (.cells (mc c.vb c.vf d m ov) 60 (0, 0)) ∧ w.ownsRow c.base 38 7 ov m.out.length (oc m.out)
  mb : MB m
  fn : FN c w
  tab : Lib.TabIs Tryd.prog w "internal/strconv.uint64pow10" .u64 Lib.pow10Tab
  base0 : 0 < c.base
  baseM : c.base ≤ c.M
  baseS : c.base ≤ w.heap.size
def RS (R : Nat) (r : Res) (w : World) : Prop := w.heap[R]? = some (.cells (rc r) 63 (0, 0))

theorem tab_keep {w w' : World} (h : Lib.TabIs Tryd.prog w "internal/strconv.uint64pow10" .u64 Lib.pow10Tab) (e : w'.heap[0]? = w.heap[0]?) : Lib.TabIs Tryd.prog w' "internal/strconv.uint64pow10" .u64 Lib.pow10Tab := by
  unfold Lib.TabIs World.var? at h ⊢
  have g : Tryd.prog.globalNamed "internal/strconv.uint64pow10" = some 0 := by kernel_rfl
  rw [g] at h ⊢
  simp only [Option.bind_some] at h ⊢
  rw [e]; exact h
theorem owns_keep {w w' : World} {base : Nat} {e : TypeId} {size : Nat} {v : Value} {n : Nat} {xs : List Value} (h : w.ownsRow base e size v n xs)
    (k : ∀ (b : Nat) (cur : Array Value), w.heap[b]? = some (.cells cur e (0, 0)) → w'.heap[b]? = w.heap[b]?) : w'.ownsRow base e size v n xs := by
  obtain ⟨h1, h2⟩ := h
  refine ⟨h1, ?_⟩
  rcases h2 with h2 | ⟨g, cap, cur, hv, hg, hh, r⟩
  · exact Or.inl h2
  · exact Or.inr ⟨g, cap, cur, hv, hg, by rw [k g cur hh]; exact hh, r⟩
theorem FN.keep {c : Cx} {w w' : World} (h : FN c w) (k : ∀ (b : Nat) (cur : Array Value) (ty : TypeId), ty = 24 ∨ ty = 27 → w.heap[b]? = some (.cells cur ty (0, 0)) → w'.heap[b]? = w.heap[b]?) : FN c w' := by
  obtain ⟨FB, cap, cur, h1, h2, h3, h4, h5⟩ := h
  refine ⟨FB, cap, cur, h1, by rw [k FB cur 24 (.inl rfl) h2]; exact h2, h3, h4, fun i hi => ?_⟩
  obtain ⟨v, e1, e2⟩ := h5 i hi
  exact ⟨v, e1, owns_keep e2 fun b cur hb => k b cur 27 (.inr rfl) hb⟩

/-- Whatever leaves the machine, its functions, the table and what was told as they were. -/
theorem Inv.keep {c : Cx} {d : Nat} {m : Mst} {w w' : World} (h : Inv c d m w) (hs : w.heap.size ≤ w'.heap.size) (k : ∀ (b : Nat) (cur : Array Value) (ty : TypeId) (fr : Nat × Nat), ty ≠ 63 → ty ≠ 29 → w.heap[b]? = some (.cells cur ty fr) → w'.heap[b]? = w.heap[b]?) (k0 : w'.heap[0]? = w.heap[0]?) : Inv c d m w' := by
  obtain ⟨ov, h1, h2⟩ := h.ms
  exact ⟨⟨ov, by rw [k _ _ 60 _ (by decide) (by decide) h1]; exact h1, owns_keep h2 fun b cur hb => k b cur 38 _ (by decide) (by decide) hb⟩, h.mb, h.fn.keep fun b cur ty ht hb => k b cur ty _ (by rcases ht with rfl | rfl <;> decide) (by rcases ht with rfl | rfl <;> decide) hb, tab_keep h.tab k0, h.base0, h.baseM, Nat.le_trans h.baseS hs⟩
theorem Inv.below {c : Cx} {d : Nat} {m : Mst} {w w' : World} (h : Inv c d m w) (hb : Below w.heap.size w w') : Inv c d m w' :=
  h.keep hb.size (fun b cur ty fr _ _ e => hb.block b (Array.getElem?_eq_some_iff.1 e).1) (hb.block 0 (by have := h.base0; have := h.baseS; omega))
theorem Inv.setR {c : Cx} {d : Nat} {m : Mst} {w : World} {R : Nat} {cr : Array Value} (h : Inv c d m w) (hR : w.heap[R]? = some (.cells cr 63 (0, 0))) (hbR : c.base ≤ R) (i : Nat) (v : Value) : Inv c d m (w.setCell ⟨R, i, none⟩ v) :=
  h.keep (by simp) (fun b cur ty fr ht _ e => Below.heap_setCell _ _ _ _ (by rintro rfl; rw [hR] at e; cases e; exact ht rfl)) (Below.heap_setCell _ _ _ _ (by have := h.base0; show 0 ≠ R; omega))
theorem Inv.setRowR {c : Cx} {d : Nat} {m : Mst} {w : World} {R : Nat} {cr : Array Value} (h : Inv c d m w) (hR : w.heap[R]? = some (.cells cr 63 (0, 0))) (hbR : c.base ≤ R) (v : Array Value) : Inv c d m (w.setRow R v) :=
  h.keep (by simp) (fun b cur ty fr ht _ e => setRow_other _ _ _ _ (by rintro rfl; rw [hR] at e; cases e; exact ht rfl)) (setRow_other _ _ _ _ (by have := h.base0; omega))
/-- A field of the machine, stored. -/
theorem Inv.setM {c : Cx} {d d' : Nat} {m m' : Mst} {w : World} {ov : Value} (h : Inv c d m w) (h1 : w.heap[c.M]? = some (.cells (mc c.vb c.vf d m ov) 60 (0, 0))) (h2 : w.ownsRow c.base 38 7 ov m.out.length (oc m.out)) (i : Nat) (v : Value)
    (he : (mc c.vb c.vf d m ov).setIfInBounds i v = mc c.vb c.vf d' m' ov) (ho : m'.out = m.out) (hmb : MB m') : Inv c d' m' (w.setCell ⟨c.M, i, none⟩ v) :=
  have k : ∀ (b : Nat) (cur : Array Value) (ty : TypeId) (fr : Nat × Nat), ty ≠ 60 → w.heap[b]? = some (.cells cur ty fr) → (w.setCell ⟨c.M, i, none⟩ v).heap[b]? = w.heap[b]? := fun b cur ty fr ht e => Below.heap_setCell _ _ _ _ (by rintro rfl; rw [h1] at e; cases e; exact ht rfl)
  ⟨⟨ov, by rw [heap_setCell_same _ _ _ _ _ _ h1, he], by rw [ho]; exact owns_keep h2 fun b cur hb => k b cur 38 _ (by decide) hb⟩, hmb, h.fn.keep fun b cur ty ht hb => k b cur ty _ (by rcases ht with rfl | rfl <;> decide) hb,
    tab_keep h.tab (Below.heap_setCell _ _ _ _ (by have := h.base0; have := h.baseM; show 0 ≠ c.M; omega)), h.base0, h.baseM, by simpa using h.baseS⟩

theorem RS.keep {R b : Nat} {r : Res} {w w' : World} {base M : Nat} {cm : Array Value} (h : RS b r w) (k : Chg base M R w w') (hM : w.heap[M]? = some (.cells cm 60 (0, 0))) (hne : b ≠ R) : RS b r w' := k.keepR hM hne h

/-- The deferred calls of a frame: of itself, the last one laid first; behind them the one that counts it down. -/
def dfr (M f R : Nat) : Deferred := { target := .fn (.func 23) #[], args := #[.pointer (some ⟨M, 0, none⟩), .int .i64 f, .pointer (some ⟨R, 0, none⟩)] }
def clo (mb : Nat) : Deferred := { target := .fn (.func 27) #[.pointer (some ⟨mb, 0, none⟩)], args := #[] }
def DL (M R mb lo n : Nat) (w : World) : Nat → List Dfr → List Deferred → Prop
  | _, [], l => l = [clo mb]
  | hi, q :: ds, l => ∃ R2 l', l = dfr M q.f R2 :: l' ∧ q.f < n ∧ (if q.shared then R2 = R ∧ DL M R mb lo n w hi ds l' else lo ≤ R2 ∧ R2 < hi ∧ RS R2 Res.new w ∧ DL M R mb lo n w R2 ds l')
theorem DL.mono {M R mb lo n : Nat} {w : World} : ∀ {ds : List Dfr} {hi hi' : Nat} {l : List Deferred}, DL M R mb lo n w hi ds l → hi ≤ hi' → DL M R mb lo n w hi' ds l
  | [], _, _, _, h, _ => h
  | q :: ds, hi, hi', l, ⟨R2, l', e, hf, h⟩, hh => ⟨R2, l', e, hf, by
      cases hq : q.shared
      · simp only [hq, Bool.false_eq_true, if_false] at h ⊢
        exact ⟨h.1, Nat.lt_of_lt_of_le h.2.1 hh, h.2.2⟩
      · simp only [hq, if_true] at h ⊢
        exact ⟨h.1, h.2.mono hh⟩⟩
theorem DL.keep {M R mb lo n : Nat} {w w' : World} : ∀ {ds : List Dfr} {hi : Nat} {l : List Deferred}, DL M R mb lo n w hi ds l → (∀ b, lo ≤ b → b < hi → RS b Res.new w → RS b Res.new w') → DL M R mb lo n w' hi ds l
  | [], _, _, h, _ => h
  | q :: ds, hi, l, ⟨R2, l', e, hf, h⟩, k => ⟨R2, l', e, hf, by
      cases hq : q.shared
      · simp only [hq, Bool.false_eq_true, if_false] at h ⊢
        exact ⟨h.1, h.2.1, k _ h.1 h.2.1 h.2.2.1, h.2.2.2.keep fun b h1 h2 => k b h1 (by omega)⟩
      · simp only [hq, if_true] at h ⊢
        exact ⟨h.1, h.2.keep k⟩⟩

/-- How a frame stands beneath the one that runs: it panics with what tells p, or it does not. -/
def NoExit (l : List PanicEntry) : Prop := ∀ x ∈ l, x.goexit = false
def ModeIn (u : FrameMode) : Option Pan → Prop
  | none => u = .returning ∨ ∃ v older, u = .panicking ({ v := v, recovered := true } :: older) ∧ NoExit older
  | some p => ∃ v older, u = .panicking ({ v := v, recovered := false } :: older) ∧ VP v p ∧ NoExit older
def ModeOut (u : FrameMode) : Option Pan → Prop
  | none => u = .returning
  | some p => ∃ v older, u = .panicking ({ v := v, recovered := false } :: older) ∧ VP v p ∧ NoExit older
theorem ModeOut.inn {u : FrameMode} {p : Option Pan} (h : ModeOut u p) : ModeIn u p := by
  cases p with
  | none => exact .inl h
  | some p => exact h
theorem ModeOut.ne {u : FrameMode} {p : Option Pan} (h : ModeOut u p) : u ≠ .run := by
  cases p with
  | none => rw [h]; intro e; cases e
  | some p => obtain ⟨v, o, rfl, _⟩ := h; intro e; cases e
def EndOk (p : Option Pan) (e : Ending) : Prop := match p with
  | none => e = .returned (.tuple #[])
  | some p => ∃ v older, e = .panicked ({ v := v, recovered := false } :: older) ∧ VP v p ∧ NoExit older
theorem dropExit {l : List PanicEntry} (h : NoExit l) : l.dropWhile (!·.goexit) = [] := by
  induction l with
  | nil => rfl
  | cons x l ih => simp [List.dropWhile, h x (by simp), ih (fun y hy => h y (by simp [hy]))]
theorem settle_out {u : FrameMode} {p : Option Pan} (h : ModeIn u p) : ModeOut (settle u) p := by
  cases p with
  | none =>
    rcases h with rfl | ⟨v, o, rfl, ho⟩
    · rfl
    · simp [settle, dropExit ho, ModeOut]
  | some p => obtain ⟨v, o, rfl, h2, h3⟩ := h; exact ⟨v, o, rfl, h2, h3⟩
theorem raised_out {u : FrameMode} {q : Option Pan} {p : Pan} {v : Value} {older : List PanicEntry} (h : ModeIn u q) (hv : VP v p) (ho : NoExit older) : ModeOut (raised u ({ v := v, recovered := false } :: older)) (some p) := by
  have key : ∀ l : List PanicEntry, NoExit l → NoExit (older ++ l) := fun l hl x hx => by
    rcases List.mem_append.1 hx with g | g
    · exact ho x g
    · exact hl x g
  cases q with
  | none =>
    rcases h with rfl | ⟨v', o', rfl, ho'⟩
    · exact ⟨v, older, rfl, hv, ho⟩
    · exact ⟨v, _, rfl, hv, key _ (by intro x hx; rcases List.mem_cons.1 hx with rfl | hx; rfl; exact ho' x hx)⟩
  | some q =>
    obtain ⟨v', o', rfl, _, ho'⟩ := h
    exact ⟨v, _, rfl, hv, key _ (by intro x hx; rcases List.mem_cons.1 hx with rfl | hx; rfl; exact ho' x hx)⟩

/-- The frames beneath. -/
def Bn (kind : CallKind) (bs cs : List Frame) (by_ : Option Pan) : Prop :=
  (kind = .normal ∧ cs = bs ∧ by_ = none) ∨ (kind = .deferred ∧ ∃ c0 rest u, bs = c0 :: rest ∧ cs = { c0 with mode := u } :: rest ∧ ModeIn u by_)
theorem Bn.kind {kind : CallKind} {bs cs : List Frame} {q : Option Pan} (h : Bn kind bs cs q) : kind = .normal ∨ kind = .deferred := by
  rcases h with ⟨h, _⟩ | ⟨h, _⟩
  · exact .inl h
  · exact .inr h
theorem Bn.rec_none {kind : CallKind} {bs cs : List Frame} (h : Bn kind bs cs none) : recK kind cs = none := by
  rcases h with ⟨rfl, _⟩ | ⟨rfl, c0, rest, u, rfl, rfl, h⟩
  · rfl
  · rcases h with rfl | ⟨v, o, rfl, ho⟩ <;> simp [recK, recoverD]
theorem Bn.rec_some {kind : CallKind} {bs cs : List Frame} {p : Pan} (h : Bn kind bs cs (some p)) : ∃ v cs', recK kind cs = some (v, cs') ∧ VP v p ∧ Bn kind bs cs' none := by
  rcases h with ⟨rfl, _, h⟩ | ⟨rfl, c0, rest, u, rfl, rfl, v, o, rfl, hv, ho⟩
  · cases h
  · exact ⟨v, _, by simp [recK, recoverD], hv, .inr ⟨rfl, c0, rest, _, rfl, rfl, .inr ⟨v, o, rfl, ho⟩⟩⟩
end Go.Proofs.YtokfnlfadofmnaaDoor
