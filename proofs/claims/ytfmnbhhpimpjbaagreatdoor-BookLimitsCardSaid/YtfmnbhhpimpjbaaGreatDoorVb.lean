/- Errors in memory: what kinds.Make makes of a spec and its parts; what may happen to them. -/
import Derived.Test.YtfmnbhhpimpjbaaGreatDoorTv
import Derived.Test.YtfmnbhhpimpjbaaGreatDoorVa
namespace Go.Proofs.YtfmnbhhpimpjbaaGreatDoor
open Go.RowKit
set_option linter.unusedVariables false

/-- A teller's closure. -/
def TellIn (D : Nat → Prop) (w : World) (f : Value) (s : Sp) : Prop :=
  ∃ b ia ic pa pc, f = .func (.func (tellF s)) #[] #[.pointer (some ⟨b, 0, none⟩)] ∧ D b ∧ w.heap[b]? = some (.cells (spC s ia ic pa pc) 34 (0, 0))
def slow0 (f : Value) : Obj := .cells #[.int .u32 0, .int .i32 0, .int .u32 0, f, .string ⟨#[]⟩, .nilIface, .int .u32 0] 204 (0, 0)
def slow1 (f : Value) (s : Sp) : Obj :=
  .cells #[.int .u32 1, .int .i32 0, .int .u32 0, f, .string (if s.flag then ⟨#[]⟩ else s.text), if s.flag then .iface 176 (.string s.text) else .nilIface, .int .u32 1] 204 (0, 0)
/-- A Slow's text is made. -/
def SlowStep (D : Nat → Prop) (w w' : World) (b : Nat) : Prop := ∃ f s, w.heap[b]? = some (slow0 f) ∧ TellIn D w f s ∧ w'.heap[b]? = some (slow1 f s)
/-- The blocks of D stay, but for a Slow whose text is made. -/
structure Ev (D : Nat → Prop) (w w' : World) : Prop where
  size : w.heap.size ≤ w'.heap.size
  block : ∀ b, b < w.heap.size → D b → w'.heap[b]? = w.heap[b]? ∨ SlowStep D w w' b
theorem Ev.refl (D : Nat → Prop) (w : World) : Ev D w w := ⟨Nat.le_refl _, fun _ _ _ => .inl rfl⟩
theorem lt_of_at {w : World} {b : Nat} {o : Obj} (h : w.heap[b]? = some o) : b < w.heap.size := (Array.getElem?_eq_some_iff.1 h).1
/-- What is no Slow stays. -/
theorem Ev.at {D : Nat → Prop} {w w' : World} (h : Ev D w w') {b : Nat} {cs : Array Value} {t : TypeId} {fr : Nat × Nat} (ho : w.heap[b]? = some (.cells cs t fr)) (hD : D b) (ht : t ≠ 204) : w'.heap[b]? = some (.cells cs t fr) := by
  rcases h.block b (lt_of_at ho) hD with q | ⟨f, s, q, _, _⟩
  · rw [q, ho]
  · rw [ho] at q; cases q; exact absurd rfl ht
theorem TellIn.ev {D : Nat → Prop} {w w' : World} {f : Value} {s : Sp} (h : TellIn D w f s) (k : Ev D w w') : TellIn D w' f s := by
  obtain ⟨b, ia, ic, pa, pc, hf, hD, hb⟩ := h
  exact ⟨b, ia, ic, pa, pc, hf, hD, k.at hb hD (by decide)⟩
theorem TellIn.mono {D D' : Nat → Prop} {w : World} {f : Value} {s : Sp} (h : TellIn D w f s) (k : ∀ b, D b → D' b) : TellIn D' w f s := by
  obtain ⟨b, ia, ic, pa, pc, hf, hD, hb⟩ := h
  exact ⟨b, ia, ic, pa, pc, hf, k _ hD, hb⟩
theorem SlowStep.back {D : Nat → Prop} {w w1 w2 : World} (h : Ev D w w1) {b : Nat} (e : w1.heap[b]? = w.heap[b]?) (k : SlowStep D w1 w2 b)
    (hT : ∀ f s, TellIn D w1 f s → (∃ f0, w.heap[b]? = some (slow0 f0)) → TellIn D w f s) : SlowStep D w w2 b := by
  obtain ⟨f, s, h0, ht, h1⟩ := k
  exact ⟨f, s, by rw [← e]; exact h0, hT f s ht ⟨f, by rw [← e]; exact h0⟩, h1⟩
theorem Ev.of_ex {D S : Nat → Prop} {w w' : World} (h : Ex S w w') (hS : ∀ b, b < w.heap.size → D b → ¬ S b) : Ev D w w' := ⟨h.size, fun b hb hD => .inl (h.block b hb (hS b hb hD))⟩
theorem Ev.of_below {D : Nat → Prop} {w w' : World} (h : Below w.heap.size w w') : Ev D w w' := ⟨h.size, fun b hb _ => .inl (h.block b hb)⟩
theorem Ev.mono {D D' : Nat → Prop} {w w' : World} (h : Ev D w w') (k : ∀ b, D' b → D b) (hT : ∀ b f s, D' b → w.heap[b]? = some (slow0 f) → TellIn D w f s → TellIn D' w f s) : Ev D' w w' :=
  ⟨h.size, fun b hb hD => (h.block b hb (k b hD)).imp id fun ⟨f, s, h0, ht, h1⟩ => ⟨f, s, h0, hT b f s hD h0 ht, h1⟩⟩

/-- Texts, numbers, errors, bytes of a slice lie there. -/
def ItemsD (D : Nat → Prop) (w : World) (a : Option Addr) (l : List ByteArray) : Prop :=
  0 < l.length → ∃ b i cs t fr, a = some ⟨b, i, none⟩ ∧ D b ∧ t ≠ 204 ∧ w.heap[b]? = some (.cells cs t fr) ∧ ∀ j, j < l.length → cs[i + j]? = some (.string (l.getD j ⟨#[]⟩))
def PartsD (D : Nat → Prop) (w : World) (a : Option Addr) (l : List Int) : Prop :=
  0 < l.length → ∃ b i cs t fr, a = some ⟨b, i, none⟩ ∧ D b ∧ t ≠ 204 ∧ w.heap[b]? = some (.cells cs t fr) ∧ ∀ j, j < l.length → cs[i + j]? = some (.int .i64 (l.getD j 0))
def ErrsD (D : Nat → Prop) (w : World) (a : Option Addr) (l : List Value) : Prop :=
  0 < l.length → ∃ b i cs t fr, a = some ⟨b, i, none⟩ ∧ D b ∧ t ≠ 204 ∧ w.heap[b]? = some (.cells cs t fr) ∧ ∀ j, j < l.length → cs[i + j]? = some (l.getD j .nilIface)
def BytesD (D : Nat → Prop) (w : World) (a : Option Addr) (l : ByteArray) : Prop :=
  0 < l.size → ∃ b i cs t fr, a = some ⟨b, i, none⟩ ∧ D b ∧ t ≠ 204 ∧ w.heap[b]? = some (.cells cs t fr) ∧ ∀ j, j < l.size → cs[i + j]? = some (.int .u8 (l.data.toList.getD j 0).toNat)
theorem ItemsD.ev {D : Nat → Prop} {w w' : World} {a l} (h : ItemsD D w a l) (k : Ev D w w') : ItemsD D w' a l := fun hn => by
  obtain ⟨b, i, cs, t, fr, e, hD, ht, hb, hc⟩ := h hn; exact ⟨b, i, cs, t, fr, e, hD, ht, k.at hb hD ht, hc⟩
theorem PartsD.ev {D : Nat → Prop} {w w' : World} {a l} (h : PartsD D w a l) (k : Ev D w w') : PartsD D w' a l := fun hn => by
  obtain ⟨b, i, cs, t, fr, e, hD, ht, hb, hc⟩ := h hn; exact ⟨b, i, cs, t, fr, e, hD, ht, k.at hb hD ht, hc⟩
theorem ErrsD.ev {D : Nat → Prop} {w w' : World} {a l} (h : ErrsD D w a l) (k : Ev D w w') : ErrsD D w' a l := fun hn => by
  obtain ⟨b, i, cs, t, fr, e, hD, ht, hb, hc⟩ := h hn; exact ⟨b, i, cs, t, fr, e, hD, ht, k.at hb hD ht, hc⟩
theorem BytesD.ev {D : Nat → Prop} {w w' : World} {a l} (h : BytesD D w a l) (k : Ev D w w') : BytesD D w' a l := fun hn => by
  obtain ⟨b, i, cs, t, fr, e, hD, ht, hb, hc⟩ := h hn; exact ⟨b, i, cs, t, fr, e, hD, ht, k.at hb hD ht, hc⟩
theorem ItemsD.mono {D D' : Nat → Prop} {w : World} {a l} (h : ItemsD D w a l) (k : ∀ b, D b → D' b) : ItemsD D' w a l := fun hn => by
  obtain ⟨b, i, cs, t, fr, e, hD, r⟩ := h hn; exact ⟨b, i, cs, t, fr, e, k _ hD, r⟩
theorem PartsD.mono {D D' : Nat → Prop} {w : World} {a l} (h : PartsD D w a l) (k : ∀ b, D b → D' b) : PartsD D' w a l := fun hn => by
  obtain ⟨b, i, cs, t, fr, e, hD, r⟩ := h hn; exact ⟨b, i, cs, t, fr, e, k _ hD, r⟩
theorem ErrsD.mono {D D' : Nat → Prop} {w : World} {a l} (h : ErrsD D w a l) (k : ∀ b, D b → D' b) : ErrsD D' w a l := fun hn => by
  obtain ⟨b, i, cs, t, fr, e, hD, r⟩ := h hn; exact ⟨b, i, cs, t, fr, e, k _ hD, r⟩
theorem BytesD.mono {D D' : Nat → Prop} {w : World} {a l} (h : BytesD D w a l) (k : ∀ b, D b → D' b) : BytesD D' w a l := fun hn => by
  obtain ⟨b, i, cs, t, fr, e, hD, r⟩ := h hn; exact ⟨b, i, cs, t, fr, e, k _ hD, r⟩
theorem ItemsD.in {D : Nat → Prop} {w : World} {a l} (h : ItemsD D w a l) : ItemsIn w a l := fun hn => by
  obtain ⟨b, i, cs, t, fr, e, hD, ht, hb, hc⟩ := h hn
  exact ⟨_, e, fun j hj => by rw [show ((⟨b, i, none⟩ : Addr).add j) = ⟨b, i + j, none⟩ by unfold Addr.add; simp, cell_of_block hb]; exact hc j hj⟩
theorem PartsD.in {D : Nat → Prop} {w : World} {a l} (h : PartsD D w a l) : PartsIn w a l := fun hn => by
  obtain ⟨b, i, cs, t, fr, e, hD, ht, hb, hc⟩ := h hn
  exact ⟨_, e, fun j hj => by rw [show ((⟨b, i, none⟩ : Addr).add j) = ⟨b, i + j, none⟩ by unfold Addr.add; simp, cell_of_block hb]; exact hc j hj⟩

/-- A value by its pointer: the block of its struct. -/
def PtrIn (D : Nat → Prop) (w : World) (v : Value) (T T' : TypeId) (cs : Array Value) : Prop := T' ≠ 204 ∧ ∃ p, v = .iface T (.pointer (some ⟨p, 0, none⟩)) ∧ D p ∧ w.heap[p]? = some (.cells cs T' (0, 0))
theorem PtrIn.ev {D : Nat → Prop} {w w' : World} {v T T' cs} (h : PtrIn D w v T T' cs) (k : Ev D w w') : PtrIn D w' v T T' cs := by
  obtain ⟨ht, p, hv, hD, hp⟩ := h; exact ⟨ht, p, hv, hD, k.at hp hD ht⟩
theorem PtrIn.mono {D D' : Nat → Prop} {w : World} {v T T' cs} (h : PtrIn D w v T T' cs) (k : ∀ b, D b → D' b) : PtrIn D' w v T T' cs := by
  obtain ⟨ht, p, hv, hD, hp⟩ := h; exact ⟨ht, p, hv, k _ hD, hp⟩
def ptrOf : Value → Value
  | .iface _ p => p
  | _ => .pointer none
def markV (s : Sp) : Value := .iface 180 (.agg (s.text.data.toList.map fun b => .int .u8 b.toNat).toArray)
/-- What kinds.Make made of a spec and its parts (each kind by itself). -/
inductive ErrIn (D : Nat → Prop) (w : World) (v : Value) (s : Sp) (ps : List Value) : Prop
  | nil (hn : s.nil = true) (h : v = noneV s.kind)
  | leaf (hn : s.nil = false) (hk : s.kind = 1 ∨ s.kind = 2 ∨ s.kind = 3 ∨ s.kind = 4 ∨ s.kind = 11 ∨ s.kind = 19 ∨ (s.kind = 23 ∧ (s.number = 1 ∨ s.number = 2))) (h : v = leafV s)
  | plain (hn : s.nil = false) (hk : s.kind = 9) (h : PtrIn D w v 111 115 #[.string s.text])
  | quiet (hn : s.nil = false) (hk : s.kind = 10) (h : PtrIn D w v 163 183 #[.string s.text, .bool s.flag])
  | echo (hn : s.nil = false) (hk : s.kind = 21) (h : PtrIn D w v 164 189 #[.string s.text, .bool s.flag])
  | guise (hn : s.nil = false) (hk : s.kind = 22) (h : PtrIn D w v 165 191 #[.string s.text, .int .i16 s.number])
  | mark (hn : s.nil = false) (hk : s.kind = 5) (h : v = markV s)
  | tags (hn : s.nil = false) (hk : s.kind = 6) (m : Nat) (h : v = .iface 139 (.agg #[.map (some m)])) (hD : D m)
  | lazy (hn : s.nil = false) (hk : s.kind = 7) (f : Value) (h : v = .iface 160 f) (ht : TellIn D w f s)
  | line (hn : s.nil = false) (hk : s.kind = 8) (c : Nat) (h : v = .iface 162 (.chan (some c))) (hD : D c)
  | bag (hn : s.nil = false) (hk : s.kind = 12) (a : Option Addr) (c : Nat) (h : v = .iface 185 (.agg #[.string s.text, .slice a s.items.length c])) (hi : ItemsD D w a s.items)
  | hold (hn : s.nil = false) (hk : s.kind = 13) (h : v = .iface 170 (.agg #[.string s.text, ps.headD .nilIface]))
  | wrap (hn : s.nil = false) (hk : s.kind = 14) (h : PtrIn D w v 119 123 #[.string s.text, ps.headD .nilIface])
  | over (hn : s.nil = false) (hk : s.kind = 15) (h : v = .iface 171 (.agg #[.string s.text, ps.headD .nilIface]))
  | join (hn : s.nil = false) (hk : s.kind = 16) (a : Option Addr) (c : Nat) (h : PtrIn D w v 129 132 #[.slice a ps.length c]) (hp : ErrsD D w a ps)
  | timed (hn : s.nil = false) (hk : s.kind = 17) (h : v = .iface 173 (.agg #[ps.headD .nilIface, .bool s.flag]))
  | placed (hn : s.nil = false) (hk : s.kind = 18) (h : v = .iface 118 (.agg #[ptrOf (ps.headD .nilIface), .int .i16 s.number]))
  | veil (hn : s.nil = false) (hk : s.kind = 20) (h : v = .iface 175 (.agg #[ps.headD .nilIface]))
  | box (hn : s.nil = false) (hk : s.kind = 23) (hb : s.number ≠ 1 ∧ s.number ≠ 2) (a : Option Addr) (c : Nat) (h : v = .iface 167 (.agg #[.slice a s.text.size c])) (hi : BytesD D w a s.text)
  | slow (hn : s.nil = false) (hk : s.kind = 24) (f : Value) (p : Nat) (h : v = .iface 168 (.pointer (some ⟨p, 0, none⟩))) (hD : D p) (ht : TellIn D w f s) (hp : w.heap[p]? = some (slow0 f) ∨ w.heap[p]? = some (slow1 f s))
  | full (hn : s.nil = false) (hk : s.kind = 25) (h : v = .iface 127 (.agg #[ptrOf (ps.headD .nilIface), .int .i16 s.number, .string s.text]))
  | opaq (hn : s.nil = false) (hk : s.kind = 26) (a : Option Addr) (c : Nat) (h : PtrIn D w v 133 135 #[.string (s.items.headD ⟨#[]⟩), .string s.text, .slice a ps.length c, .int .u32 s.mask]) (hp : ErrsD D w a ps)
theorem ErrIn.mono {D D' : Nat → Prop} {w : World} {v s ps} (h : ErrIn D w v s ps) (k : ∀ b, D b → D' b) : ErrIn D' w v s ps := by
  cases h with
  | nil hn h => exact .nil hn h
  | leaf hn hk h => exact .leaf hn hk h
  | plain hn hk h => exact .plain hn hk (h.mono k)
  | quiet hn hk h => exact .quiet hn hk (h.mono k)
  | echo hn hk h => exact .echo hn hk (h.mono k)
  | guise hn hk h => exact .guise hn hk (h.mono k)
  | mark hn hk h => exact .mark hn hk h
  | tags hn hk m h hD => exact .tags hn hk m h (k _ hD)
  | lazy hn hk f h ht => exact .lazy hn hk f h (ht.mono k)
  | line hn hk c h hD => exact .line hn hk c h (k _ hD)
  | bag hn hk a c h hi => exact .bag hn hk a c h (hi.mono k)
  | hold hn hk h => exact .hold hn hk h
  | wrap hn hk h => exact .wrap hn hk (h.mono k)
  | over hn hk h => exact .over hn hk h
  | join hn hk a c h hp => exact .join hn hk a c (h.mono k) (hp.mono k)
  | timed hn hk h => exact .timed hn hk h
  | placed hn hk h => exact .placed hn hk h
  | veil hn hk h => exact .veil hn hk h
  | box hn hk hb a c h hi => exact .box hn hk hb a c h (hi.mono k)
  | slow hn hk f p h hD ht hp => exact .slow hn hk f p h (k _ hD) (ht.mono k) hp
  | full hn hk h => exact .full hn hk h
  | opaq hn hk a c h hp => exact .opaq hn hk a c (h.mono k) (hp.mono k)
theorem TellIn.same {D : Nat → Prop} {w : World} {f : Value} {s s' : Sp} (h : TellIn D w f s) (k : TellIn D w f s') : s.text = s'.text ∧ s.flag = s'.flag := by
  obtain ⟨b, ia, ic, pa, pc, hf, hD, hb⟩ := h
  obtain ⟨b', ia', ic', pa', pc', hf', hD', hb'⟩ := k
  rw [hf] at hf'
  have e : b = b' := by injection hf' with _ _ e; simpa using e
  subst e
  rw [hb] at hb'
  simp only [spC, Option.some.injEq, Obj.cells.injEq] at hb'
  have h1 := hb'.1
  simp at h1
  exact ⟨h1.2.2.1, h1.2.2.2.2.2.2.2.1⟩
theorem ErrIn.ev {D : Nat → Prop} {w w' : World} {v s ps} (h : ErrIn D w v s ps) (k : Ev D w w') : ErrIn D w' v s ps := by
  cases h with
  | nil hn h => exact .nil hn h
  | leaf hn hk h => exact .leaf hn hk h
  | plain hn hk h => exact .plain hn hk (h.ev k)
  | quiet hn hk h => exact .quiet hn hk (h.ev k)
  | echo hn hk h => exact .echo hn hk (h.ev k)
  | guise hn hk h => exact .guise hn hk (h.ev k)
  | mark hn hk h => exact .mark hn hk h
  | tags hn hk m h hD => exact .tags hn hk m h hD
  | lazy hn hk f h ht => exact .lazy hn hk f h (ht.ev k)
  | line hn hk c h hD => exact .line hn hk c h hD
  | bag hn hk a c h hi => exact .bag hn hk a c h (hi.ev k)
  | hold hn hk h => exact .hold hn hk h
  | wrap hn hk h => exact .wrap hn hk (h.ev k)
  | over hn hk h => exact .over hn hk h
  | join hn hk a c h hp => exact .join hn hk a c (h.ev k) (hp.ev k)
  | timed hn hk h => exact .timed hn hk h
  | placed hn hk h => exact .placed hn hk h
  | veil hn hk h => exact .veil hn hk h
  | box hn hk hb a c h hi => exact .box hn hk hb a c h (hi.ev k)
  | slow hn hk f p h hD ht hp =>
    refine .slow hn hk f p h hD (ht.ev k) ?_
    rcases hp with hp | hp
    · rcases k.block p (lt_of_at hp) hD with q | ⟨f', s', q0, qt, q1⟩
      · exact .inl (by rw [q, hp])
      · rw [hp] at q0
        have e : f = f' := by simp only [slow0, Option.some.injEq, Obj.cells.injEq] at q0; have := q0.1; simp at this; exact this
        subst e
        obtain ⟨e1, e2⟩ := qt.same ht
        refine .inr ?_
        rw [q1]; unfold slow1; rw [e1, e2]
    · rcases k.block p (lt_of_at hp) hD with q | ⟨f', s', q0, qt, q1⟩
      · exact .inr (by rw [q, hp])
      · rw [hp] at q0
        simp [slow0, slow1] at q0
  | full hn hk h => exact .full hn hk h
  | opaq hn hk a c h hp => exact .opaq hn hk a c (h.ev k) (hp.ev k)
end Go.Proofs.YtfmnbhhpimpjbaaGreatDoor
