/- catch: told, fault. -/
import Derived.Test.YtokfnlfadofmnaaDoorCa
import Derived.Test.YtokfnlfadofmnaaDoorK3
import Derived.Test.YtokfnlfadofmnaaDoorProg
import Derived.Laws.ResultCell
namespace Go.Proofs.YtokfnlfadofmnaaDoor
open Go.RowKit
set_option linter.unusedVariables false

def pc (p : Pan) : Array Value := #[.int .i64 p.sort, .string p.word, .int .i64 0]
def IsRt (v : Value) : Prop := ∃ T x, v = .iface T x ∧ (T == 65) = false ∧ (T == 91) = false
/-- What a value that was panicked with tells. -/
def VP (v : Value) (p : Pan) : Prop := (∃ s, v = .iface 65 (.string s) ∧ p = Pan.own s) ∨ (IsRt v ∧ p = Pan.rt)

def RtPanic (w : World) (e : Ending) (w' : World) : Prop := ∃ v, e = .panicked [{ v := v, recovered := false }] ∧ IsRt v ∧ Below w.heap.size w w'
theorem rtPanic_mk {w w' : World} (T : TypeId) (x : Value) (h1 : (T == 65) = false) (h2 : (T == 91) = false) (hb : Below w.heap.size w w') : RtPanic w (.panicked [{ v := .iface T x, recovered := false }]) w' := ⟨_, rfl, ⟨T, x, rfl, h1, h2⟩, hb⟩

theorem run_typeAssert_no {P : Program} {w : World} {T A xT : TypeId} {x z : Value} {u : TypeDesc} (hu : P.underlying A = some u) (hni : ∀ want : Array (String × TypeId), u ≠ TypeDesc.interface want) (hne : (T == A) = false) (hz : (P.info? A).map (·.zero) = some (some z)) :
    (Instr.typeAssert (.iface T x) xT A true).run P w = .ok (.tuple #[z, .bool false]) w := by
  obtain ⟨j, hj, hz'⟩ := Option.map_eq_some_iff.1 hz
  have hne' : T ≠ A := by simpa using hne
  cases u <;> first | (exact absurd rfl (hni _)) | simp [Instr.typeAssert, run_underlying hu, zeroValue, typeInfo, hj, hz', hne']
/-- An index out of range: the world is the same, but for draws. -/
theorem run_boundsPanic_at {P : Program} {w : World} {α : Type} (k : IntKind) (x y : Int) (code : BoundsCode) :
    ∃ s w', (boundsPanic k x y code : Sem α).run P w = .halt (.panic (boundsValue P (IntKind.i64.wrap x) y s code.toNat)) w' ∧ Below w.heap.size w w' := by
  unfold boundsPanic boundsValue
  split
  · simp [runtimePanic, goPanic, go_sem]
    rcases Classical.em ((Question.extern "runtime.boundsError.signed" 2).cut (w.tape w.drawn (Question.extern "runtime.boundsError.signed" 2)) = 1) with h | h
    · exact .inr ⟨_, ⟨h, rfl⟩, below_dN (n := 1) (Below.refl _ _)⟩
    · exact .inl ⟨_, ⟨h, rfl⟩, below_dN (n := 1) (Below.refl _ _)⟩
  · simp [runtimePanic, goPanic, go_sem]
    by_cases h : k = .u64
    · exact .inl ⟨_, ⟨h, rfl⟩, Below.refl _ _⟩
    · exact .inr ⟨_, ⟨h, rfl⟩, Below.refl _ _⟩
theorem run_indexAt_nil {P : Program} {w : World} (t e : TypeId) (k : IntKind) (i : Int) (h : P.underlying t = some (.slice e)) :
    ∃ x w', (Instr.indexAt t (.slice none 0 0) (.int k i)).run P w = .halt (.panic (.iface P.rt.boundsError x)) w' ∧ Below w.heap.size w w' := by
  have e : (Instr.indexAt t (.slice none 0 0) (.int k i)).run P w = (boundsPanic k i 0 .index).run P w := by
    simp [Instr.indexAt, run_underlying h, asIntOf]
  obtain ⟨s, w', h1, h2⟩ := run_boundsPanic_at (α := Value) (P := P) (w := w) k i 0 .index
  exact ⟨_, w', by rw [e, h1]; rfl, h2⟩

theorem rt8 : Tryd.prog.rt.boundsError = 8 := by kernel_rfl
set_option maxRecDepth 100000 in
theorem fault_0 (n : Int) (w : World) (h0 : (n.tmod 4 == 0) = true) : Calls Tryd.prog 32 #[.int .i64 n] w (RtPanic w) := by
  obtain ⟨x, w1, hb, hbel⟩ := run_indexAt_nil (P := Tryd.prog) (w := w) 44 3 .i64 0 Tryd.underlying44
  rw [rt8] at hb
  go_enter Tryd.func32, Tryd.ntmps32
  go_wp2
  exact ⟨rfl, rtPanic_mk 8 x (by decide) (by decide) hbel⟩
set_option maxRecDepth 100000 in
theorem fault_1 (n : Int) (w : World) (h0 : (n.tmod 4 == 0) = false) (h1 : (n.tmod 4 == 1) = true) : Calls Tryd.prog 32 #[.int .i64 n] w (RtPanic w) := by
  go_enter Tryd.func32, Tryd.ntmps32
  go_wp2
  exact ⟨rfl, rtPanic_mk 10 _ (by decide) (by decide) (Below.refl _ _)⟩
set_option maxRecDepth 100000 in
theorem fault_2 (n : Int) (w : World) (h0 : (n.tmod 4 == 0) = false) (h1 : (n.tmod 4 == 1) = false) (h2 : (n.tmod 4 == 2) = true) : Calls Tryd.prog 32 #[.int .i64 n] w (RtPanic w) := by
  obtain ⟨x, hm⟩ : ∃ x, ∀ (key value : Value) (w : World), (Instr.mapUpdate 66 (.map none) key value).run Tryd.prog w = .halt (.panic (.iface 11 x)) w :=
    ⟨_, fun key value w => run_mapUpdate_nil 66 3 3 Tryd.underlying66 key value⟩
  go_enter Tryd.func32, Tryd.ntmps32
  go_wp2
  exact ⟨rfl, rtPanic_mk 11 _ (by decide) (by decide) (Below.refl _ _)⟩
set_option maxRecDepth 100000 in
theorem fault_3 (n : Int) (w : World) (h0 : (n.tmod 4 == 0) = false) (h1 : (n.tmod 4 == 1) = false) (h2 : (n.tmod 4 == 2) = false) : Calls Tryd.prog 32 #[.int .i64 n] w (RtPanic w) := by
  obtain ⟨x, w1, hb, hbel⟩ : ∃ x w', (Instr.typeAssert (.iface 3 (.int .i64 n)) 20 44 false).run Tryd.prog w = .halt (.panic (.iface 15 x)) w' ∧ Below w.heap.size w w' := by
    simp [Instr.typeAssert, run_underlying Tryd.underlying44, runtimePanic, goPanic, elemOf, run_underlying Tryd.underlying15, newVar, go_sem]
    exact ⟨_, _, ⟨rfl, rfl⟩, (Below.refl _ _).alloc (Nat.le_refl _) _⟩
  go_enter Tryd.func32, Tryd.ntmps32
  go_wp2
  exact ⟨rfl, rtPanic_mk 15 _ (by decide) (by decide) hbel⟩
theorem fault_any (n : Int) (w : World) : Calls Tryd.prog 32 #[.int .i64 n] w (RtPanic w) := by
  cases h0 : (n.tmod 4 == 0)
  · cases h1 : (n.tmod 4 == 1)
    · cases h2 : (n.tmod 4 == 2)
      · exact fault_3 n w h0 h1 h2
      · exact fault_2 n w h0 h1 h2
    · exact fault_1 n w h0 h1
  · exact fault_0 n w h0

def TVal (v : Value) (p : Pan) : Prop := VP v p ∨ (v = .nilIface ∧ p = Pan.none)
set_option maxRecDepth 100000 in
theorem told_nil (w : World) : Calls Tryd.prog 22 #[.nilIface] w fun e w' => e = .returned (.agg (pc Pan.none)) ∧ Below w.heap.size w w' := by
  go_enter Tryd.func22, Tryd.ntmps22
  go_wp2
  exact bodyPost_ret (results_cell_row rfl _ _ w.heap.size 29 (pc Pan.none) (0, 0) _ rfl (alloc_at _ _) Tryd.underlying29 rfl (by kernel_rfl)) rfl ⟨rfl, (Below.refl _ _).alloc (Nat.le_refl _) _⟩
set_option maxRecDepth 100000 in
theorem told_note (s : ByteArray) (w : World) : Calls Tryd.prog 22 #[.iface 65 (.string s)] w fun e w' => e = .returned (.agg (pc (Pan.own s))) ∧ Below w.heap.size w w' := by
  have a1 : ∀ w, (Instr.typeAssert (.iface 65 (.string s)) 20 91 true).run Tryd.prog w = .ok (.tuple #[.agg (pc Pan.none), .bool false]) w := fun w => by kernel_rfl
  have a2 : ∀ w, (Instr.typeAssert (.iface 65 (.string s)) 20 65 true).run Tryd.prog w = .ok (.tuple #[.string s, .bool true]) w := fun w => by kernel_rfl
  go_enter Tryd.func22, Tryd.ntmps22
  go_wp2
  exact bodyPost_ret (results_cell_row rfl _ _ w.heap.size 29 (pc (Pan.own s)) (0, 0) _ rfl (alloc_at _ _) Tryd.underlying29 rfl (by kernel_rfl)) rfl ⟨rfl, (Below.refl _ _).alloc (Nat.le_refl _) _⟩
set_option maxRecDepth 100000 in
theorem told_rt (T : TypeId) (x : Value) (h1 : (T == 65) = false) (h2 : (T == 91) = false) (w : World) : Calls Tryd.prog 22 #[.iface T x] w fun e w' => e = .returned (.agg (pc Pan.rt)) ∧ Below w.heap.size w w' := by
  have a1 : ∀ w, (Instr.typeAssert (.iface T x) 20 91 true).run Tryd.prog w = .ok (.tuple #[.agg (pc Pan.none), .bool false]) w := fun w => run_typeAssert_no Tryd.underlying91 (by intro _ h; cases h) h2 (by kernel_rfl)
  have a2 : ∀ w, (Instr.typeAssert (.iface T x) 20 65 true).run Tryd.prog w = .ok (.tuple #[.string ⟨#[]⟩, .bool false]) w := fun w => run_typeAssert_no Tryd.underlying65 (by intro _ h; cases h) h1 (by kernel_rfl)
  go_enter Tryd.func22, Tryd.ntmps22
  go_wp2
  exact bodyPost_ret (results_cell_row rfl _ _ w.heap.size 29 (pc Pan.rt) (0, 0) _ rfl (alloc_at _ _) Tryd.underlying29 rfl (by kernel_rfl)) rfl ⟨rfl, (Below.refl _ _).alloc (Nat.le_refl _) _⟩
theorem told_any {v : Value} {p : Pan} (h : TVal v p) (w : World) : Calls Tryd.prog 22 #[v] w fun e w' => e = .returned (.agg (pc p)) ∧ Below w.heap.size w w' := by
  rcases h with (⟨s, rfl, rfl⟩ | ⟨⟨T, x, rfl, h1, h2⟩, rfl⟩) | ⟨rfl, rfl⟩
  · exact told_note s w
  · exact told_rt T x h1 h2 w
  · exact told_nil w
end Go.Proofs.YtokfnlfadofmnaaDoor
