/- kinds: a spec, and what its kind alone asks. -/
import Derived.Test.YtfmnbhhpimpjbaaGreatDoorK2
import Derived.Test.YtfmnbhhpimpjbaaGreatDoorChecked
import Derived.Lib.Bytealg
namespace Go.Proofs.YtfmnbhhpimpjbaaGreatDoor
open Go.RowKit
set_option linter.unusedVariables false

/-- A spec, as plain data. -/
structure Sp where
  kind : Int
  nil : Bool
  text : ByteArray
  number : Int
  small : Int
  re : Nat
  im : Nat
  flag : Bool
  mask : Int
  items : List ByteArray
  parts : List Int
structure Sp.Ok (s : Sp) : Prop where
  kind : 0 ≤ s.kind ∧ s.kind ≤ 255
  number : -32768 ≤ s.number ∧ s.number ≤ 32767
  small : -128 ≤ s.small ∧ s.small ≤ 127
  mask : 0 ≤ s.mask ∧ s.mask ≤ 4294967295
  text : s.text.size ≤ 9223372036854775807
  items : s.items.length ≤ 9223372036854775807
  parts : s.parts.length ≤ 9223372036854775807
  word : ∀ x ∈ s.items, x.size ≤ 9223372036854775807
def spC (s : Sp) (ia : Option Addr) (ic : Nat) (pa : Option Addr) (pc : Nat) : Array Value :=
  #[.int .u8 s.kind, .bool s.nil, .string s.text, .int .i16 s.number, .int .i8 s.small, .float .f64 s.re, .float .f64 s.im, .bool s.flag, .int .u32 s.mask, .slice ia s.items.length ic, .slice pa s.parts.length pc]
/-- The items lie there. -/
def ItemsIn (w : World) (a : Option Addr) (l : List ByteArray) : Prop := 0 < l.length → ∃ p, a = some p ∧ ∀ i, i < l.length → w.cell? (p.add i) = some (.string (l.getD i ⟨#[]⟩))
theorem ItemsIn.below {w w' : World} {a : Option Addr} {l : List ByteArray} (h : ItemsIn w a l) (hb : Below w.heap.size w w') : ItemsIn w' a l := by
  intro hn
  obtain ⟨p, hp, h1⟩ := h hn
  exact ⟨p, hp, fun i hi => (hb.cell (block_lt (h1 i hi))).trans (h1 i hi)⟩

theorem bits_run (x : Nat) (w : World) : (callFunc 70 #[.float .f64 x]).run Tryz.prog w = .ok (.value (.int .u64 x)) w := by
  rw [run_callFunc_extern Tryz.func70 (by kernel_rfl) (by kernel_rfl) (by kernel_rfl) (e := Extern.MathFloatBits.float64bits) (by kernel_rfl)]
  rfl
theorem indexByte_run (s : ByteArray) (c : Int) (w : World) : (callFunc 132 #[.string s, .int .u8 c]).run Tryz.prog w = .ok (.value (.int .i64 (Lib.indexByte s.data.toList c.toNat.toUInt8))) w := by
  rw [run_callFunc_extern Tryz.func132 (by kernel_rfl) (by kernel_rfl) (by kernel_rfl) (e := Extern.BytealgIndexByte.indexByte) (by kernel_rfl)]
  rw [Lib.run_indexByteString]
  rfl
theorem indexByte_mem (l : List UInt8) (c : UInt8) : (0 ≤ Lib.indexByte l c) ↔ c ∈ l := by
  induction l with
  | nil => simp [Lib.indexByte]
  | cons b l ih =>
    have hg := Lib.indexByte_ge l c
    unfold Lib.indexByte
    by_cases e : b = c
    · subst e; simp
    · have e' : (b == c) = false := by simpa using e
      rw [e']
      simp only [Bool.false_eq_true, if_false, List.mem_cons]
      have : c ≠ b := fun h => e h.symm
      simp only [this, false_or]
      rw [← ih]
      split
      · rename_i h; simp only [beq_iff_eq] at h; rw [h]
      · rename_i h; simp only [beq_iff_eq] at h; omega

/-- Does a letter stand there? -/
def hasL (l : List UInt8) (c : UInt8) : Bool := decide (c ∈ l)
set_option maxRecDepth 100000 in
theorem contains_any (s : ByteArray) (c : UInt8) (w : World) (hs : s.size ≤ 9223372036854775807) : Calls Tryz.prog 69 #[.string s, .string ⟨#[c]⟩] w fun e w' => e = .returned (.bool (hasL s.data.toList c)) ∧ w = w' := by
  have h1 := indexByte_run
  have hc : ((c.toNat : Int)).toNat.toUInt8 = c := by simp
  by_cases he : ([c] == s.toList) = true
  · have hm : hasL s.data.toList c = true := by
      have e : s.data.toList = [c] := by rw [← Go.ByteArray.toList_eq]; exact (by simpa using he : [c] = s.toList).symm
      rw [e]; simp [hasL]
    have HM := Lib.hid hm
    clear hm
    go_enter Tryz.func69, Tryz.ntmps69
    go_wp2
    go_ret
    exact ⟨by rw [HM.out]; rfl, rfl⟩
  · have hm : decide (0 ≤ Lib.indexByte s.data.toList c) = hasL s.data.toList c := by unfold hasL; congr 1; exact propext (indexByte_mem _ _)
    have he' : ([c] == s.toList) = false := by simpa using he
    have HM := Lib.hid hm
    clear he hm
    go_enter Tryz.func69, Tryz.ntmps69
    go_wp2
    go_ret
    exact ⟨by rw [← HM.out]; rfl, rfl⟩
end Go.Proofs.YtfmnbhhpimpjbaaGreatDoor
