/- Assertions, and what types of errors have which methods. -/
import Derived.Test.YtfmnbhhpimpjbaaGreatDoorTv
namespace Go.Proofs.YtfmnbhhpimpjbaaGreatDoor
open Go.RowKit
set_option linter.unusedVariables false

theorem least_none (l : List String) : Go.Instr.least l = none ↔ l = [] := by
  cases l <;> simp [Go.Instr.least]
def lacks (want : Array (String × TypeId)) (got : Array Method) : Bool := want.toList.any fun (name, sig) => !got.any fun m => m.name == name && m.sig == sig
theorem missing_none (want : Array (String × TypeId)) (got : Array Method) : Go.Instr.missingMethod want got = none ↔ lacks want got = false := by
  unfold Go.Instr.missingMethod lacks
  generalize hl : (want.toList.filter fun x => match x with | (name, sig) => !got.any fun m => m.name == name && m.sig == sig).map (·.1) = l
  have hiff : l = [] ↔ (want.toList.any fun x => match x with | (name, sig) => !got.any fun m => m.name == name && m.sig == sig) = false := by
    rw [← hl, List.map_eq_nil_iff, List.filter_eq_nil_iff, List.any_eq_false]
  rw [← hiff]
  simp only [List.partition_eq_filter_filter]
  constructor
  · intro h
    cases l with
    | nil => rfl
    | cons a l =>
      exfalso
      by_cases hc : a.contains '.'
      · cases h1 : Go.Instr.least ((a :: l).filter (not ∘ fun x => x.contains '.')) with
        | some y => rw [h1] at h; cases h
        | none =>
          rw [h1] at h
          have h2 : Go.Instr.least (((a :: l).filter fun x => x.contains '.').map fun id => (id.splitOn ".").getLastD id) = none := h
          rw [least_none, List.map_eq_nil_iff, List.filter_eq_nil_iff] at h2
          exact h2 a (by simp) hc
      · cases h1 : Go.Instr.least ((a :: l).filter (not ∘ fun x => x.contains '.')) with
        | some y => rw [h1] at h; cases h
        | none =>
          rw [least_none, List.filter_eq_nil_iff] at h1
          exact h1 a (by simp) (by simpa using hc)
  · rintro rfl; rfl
theorem run_assert_face_no {P : Program} {w : World} {T A xT : TypeId} {x : Value} {want : Array (String × TypeId)} {i : TypeInfo} (hu : P.underlying A = some (.interface want)) (hi : P.info? T = some i) (hm : lacks want i.methods = true) (hz : (P.info? A).map (·.zero) = some (some .nilIface)) :
    (Instr.typeAssert (.iface T x) xT A true).run P w = .ok (.tuple #[.nilIface, .bool false]) w := by
  obtain ⟨j, hj, hz'⟩ := Option.map_eq_some_iff.1 hz
  cases hmm : Go.Instr.missingMethod want i.methods with
  | none => rw [missing_none, hm] at hmm; cases hmm
  | some m => simp [Instr.typeAssert, run_underlying hu, zeroValue, typeInfo, hj, hz', hi, hmm]
theorem run_assert_face_yes {P : Program} {w : World} {T A xT : TypeId} {x : Value} {want : Array (String × TypeId)} {i : TypeInfo} (hu : P.underlying A = some (.interface want)) (hi : P.info? T = some i) (hm : lacks want i.methods = false) (ok : Bool) :
    (Instr.typeAssert (.iface T x) xT A ok).run P w = .ok (if ok then .tuple #[.iface T x, .bool true] else .iface T x) w := by
  have hmm : Go.Instr.missingMethod want i.methods = none := (missing_none _ _).2 hm
  cases ok <;> simp [Instr.typeAssert, run_underlying hu, typeInfo, hi, hmm]
/-- What a type is asked for, in one look. -/
def facesB (P : Program) (A T : TypeId) : Option Bool := match P.underlying A, P.info? T with
  | some (.interface want), some i => some (!lacks want i.methods)
  | _, _ => none
theorem face_no {P : Program} {w : World} {T A xT : TypeId} {x : Value} (h : facesB P A T = some false) (hz : (P.info? A).map (·.zero) = some (some .nilIface)) : (Instr.typeAssert (.iface T x) xT A true).run P w = .ok (.tuple #[.nilIface, .bool false]) w := by
  unfold facesB at h
  split at h
  · rename_i want i hu hi
    exact run_assert_face_no hu hi (by simpa using h) hz
  · cases h
theorem face_yes {P : Program} {w : World} {T A xT : TypeId} {x : Value} (h : facesB P A T = some true) (ok : Bool) : (Instr.typeAssert (.iface T x) xT A ok).run P w = .ok (if ok then .tuple #[.iface T x, .bool true] else .iface T x) w := by
  unfold facesB at h
  split at h
  · rename_i want i hu hi
    exact run_assert_face_yes hu hi (by simpa using h) ok
  · cases h
end Go.Proofs.YtfmnbhhpimpjbaaGreatDoor
