/- book: what is asked of a book that is not there. -/
import Derived.Test.YtjjadikeobageaaGreatDoorK2
import Derived.Test.YtjjadikeobageaaGreatDoorChecked
import Derived.OwnWalk
import Derived.Deep.RegionLawGrows
namespace Go.Proofs.YtjjadikeobageaaGreatDoor
open Go.RowKit
set_option linter.unusedVariables false

def spZ : Array Value := #[.int .u8 0, .bool false, .string ⟨#[]⟩, .int .i16 0, .int .i8 0, .float .f64 0, .float .f64 0, .bool false, .int .u32 0, .slice none 0 0, .slice none 0 0]
def rowZ : Array Value := #[.nilIface, .int .u8 0, .bool false, .string ⟨#[]⟩, .int .i16 0, .int .i8 0, .float .f64 0, .float .f64 0, .bool false, .int .u32 0, .slice none 0 0, .slice none 0 0, .int .i64 0, .int .i64 0, .int .i64 0, .int .i64 0]
theorem rowZ_at (w : World) (i : Nat) : (w.alloc (.cells rowZ 61)).cell? ⟨w.heap.size, i, none⟩ = rowZ[i]? := cell_of_block (alloc_at _ _) i
theorem at_nil (h : Int) (w : World) : Calls Tryz.prog 16 #[.pointer none, .int .i64 h] w fun e w' => e = .returned (.tuple #[.pointer (some ⟨w.heap.size, 0, none⟩), .int .i64 2]) ∧ w' = w.alloc (.cells rowZ 61) := by
  go_enter Tryz.func16, Tryz.ntmps16
  go_wp2
  go_ret2
  exact ⟨rfl, rfl⟩
theorem made_nil (h : Int) (w : World) : Calls Tryz.prog 21 #[.pointer none, .int .i64 h] w fun e w' => e = .returned (.tuple #[.pointer (some ⟨w.heap.size, 0, none⟩), .int .i64 2]) ∧ w' = w.alloc (.cells rowZ 61) := by
  go_enter Tryz.func21, Tryz.ntmps21
  go_wp2_with (go_at_call 16; refine (at_nil _ _).mono ?_; rintro e w' ⟨rfl, rfl⟩)
  go_ret2
  exact ⟨rfl, rfl⟩
theorem error_nil (h : Int) (w : World) : Calls Tryz.prog 5 #[.pointer none, .int .i64 h] w fun e w' => e = .returned (.tuple #[.nilIface, .int .i64 2]) ∧ Below w.heap.size w w' := by
  have hb : Below w.heap.size w (w.alloc (.cells rowZ 61)) := (Below.refl _ _).alloc (Nat.le_refl _) _
  have HZ := Lib.hid (rowZ_at w 0)
  have h0 : (w.alloc (.cells rowZ 61)).cell? ⟨w.heap.size, 0, none⟩ = some .nilIface := HZ.out
  have HB := Lib.hid hb
  go_enter Tryz.func5, Tryz.ntmps5
  go_wp2_with (go_at_call 16; refine (at_nil _ _).mono ?_; rintro e w' ⟨rfl, rfl⟩)
  go_ret2
  exact ⟨rfl, HB.out⟩
theorem kind_nil (h : Int) (w : World) : Calls Tryz.prog 7 #[.pointer none, .int .i64 h] w fun e w' => e = .returned (.tuple #[.int .u8 0, .int .i64 2]) ∧ Below w.heap.size w w' := by
  have hb : Below w.heap.size w (w.alloc (.cells rowZ 61)) := (Below.refl _ _).alloc (Nat.le_refl _) _
  have HZ := Lib.hid (rowZ_at w 1)
  have h0 : (w.alloc (.cells rowZ 61)).cell? ⟨w.heap.size, 1, none⟩ = some (.int .u8 0) := HZ.out
  have HB := Lib.hid hb
  go_enter Tryz.func7, Tryz.ntmps7
  go_wp2_with (go_at_call 21; refine (made_nil _ _).mono ?_; rintro e w' ⟨rfl, rfl⟩)
  go_ret2
  exact ⟨rfl, HB.out⟩
theorem size_nil (h : Int) (w : World) : Calls Tryz.prog 9 #[.pointer none, .int .i64 h] w fun e w' => e = .returned (.tuple #[.int .i64 0, .int .i64 2]) ∧ Below w.heap.size w w' := by
  have hb : Below w.heap.size w (w.alloc (.cells rowZ 61)) := (Below.refl _ _).alloc (Nat.le_refl _) _
  have HZ := Lib.hid (rowZ_at w 12)
  have h0 : (w.alloc (.cells rowZ 61)).cell? ⟨w.heap.size, 12, none⟩ = some (.int .i64 0) := HZ.out
  have HB := Lib.hid hb
  go_enter Tryz.func9, Tryz.ntmps9
  go_wp2_with (go_at_call 16; refine (at_nil _ _).mono ?_; rintro e w' ⟨rfl, rfl⟩)
  go_ret2
  exact ⟨rfl, HB.out⟩
theorem depth_nil (h : Int) (w : World) : Calls Tryz.prog 10 #[.pointer none, .int .i64 h] w fun e w' => e = .returned (.tuple #[.int .i64 0, .int .i64 2]) ∧ Below w.heap.size w w' := by
  have hb : Below w.heap.size w (w.alloc (.cells rowZ 61)) := (Below.refl _ _).alloc (Nat.le_refl _) _
  have HZ := Lib.hid (rowZ_at w 13)
  have h0 : (w.alloc (.cells rowZ 61)).cell? ⟨w.heap.size, 13, none⟩ = some (.int .i64 0) := HZ.out
  have HB := Lib.hid hb
  go_enter Tryz.func10, Tryz.ntmps10
  go_wp2_with (go_at_call 16; refine (at_nil _ _).mono ?_; rintro e w' ⟨rfl, rfl⟩)
  go_ret2
  exact ⟨rfl, HB.out⟩
theorem length_nil (h : Int) (w : World) : Calls Tryz.prog 11 #[.pointer none, .int .i64 h] w fun e w' => e = .returned (.tuple #[.int .i64 0, .int .i64 2]) ∧ Below w.heap.size w w' := by
  have hb : Below w.heap.size w (w.alloc (.cells rowZ 61)) := (Below.refl _ _).alloc (Nat.le_refl _) _
  have HZ := Lib.hid (rowZ_at w 14)
  have h0 : (w.alloc (.cells rowZ 61)).cell? ⟨w.heap.size, 14, none⟩ = some (.int .i64 0) := HZ.out
  have HB := Lib.hid hb
  go_enter Tryz.func11, Tryz.ntmps11
  go_wp2_with (go_at_call 16; refine (at_nil _ _).mono ?_; rintro e w' ⟨rfl, rfl⟩)
  go_ret2
  exact ⟨rfl, HB.out⟩
set_option maxRecDepth 100000 in
theorem clone_int_nil (w : World) : Calls Tryz.prog 22 #[.slice none 0 0] w fun e w' => e = .returned (.slice none 0 0) ∧ w = w' := by
  have hnil : ∀ w, (binOp .eql 31 (.slice none 0 0) (.slice none 0 0)).run Tryz.prog w = .ok (.bool true) w := fun w => by rfl
  go_enter Tryz.func22, Tryz.ntmps22
  go_wp2
  go_ret
  exact ⟨rfl, rfl⟩
set_option maxRecDepth 100000 in
theorem clone_str_nil (w : World) : Calls Tryz.prog 30 #[.slice none 0 0] w fun e w' => e = .returned (.slice none 0 0) ∧ w = w' := by
  have hnil : ∀ w, (binOp .eql 30 (.slice none 0 0) (.slice none 0 0)).run Tryz.prog w = .ok (.bool true) w := fun w => by rfl
  go_enter Tryz.func30, Tryz.ntmps30
  go_wp2
  go_ret
  exact ⟨rfl, rfl⟩
theorem parts_nil (h : Int) (w : World) : Calls Tryz.prog 8 #[.pointer none, .int .i64 h] w fun e w' => e = .returned (.tuple #[.slice none 0 0, .int .i64 2]) ∧ Below w.heap.size w w' := by
  have hb : Below w.heap.size w (w.alloc (.cells rowZ 61)) := (Below.refl _ _).alloc (Nat.le_refl _) _
  have HZ := Lib.hid (rowZ_at w 11)
  have h0 : (w.alloc (.cells rowZ 61)).cell? ⟨w.heap.size, 11, none⟩ = some (.slice none 0 0) := HZ.out
  have HB := Lib.hid hb
  go_enter Tryz.func8, Tryz.ntmps8
  go_wp2_with (first | (go_at_call 16; refine (at_nil _ _).mono ?_; rintro e w' ⟨rfl, rfl⟩) | (go_at_call 22; refine (clone_int_nil _).mono ?_; rintro e w' ⟨rfl, rfl⟩))
  go_ret2
  exact ⟨rfl, HB.out⟩
theorem len_nil (w : World) : Calls Tryz.prog 14 #[.pointer none] w fun e w' => e = .returned (.int .i64 0) ∧ w = w' := by
  go_enter Tryz.func14, Tryz.ntmps14
  go_wp2
  go_ret
  exact ⟨rfl, rfl⟩
theorem copy_nil (w : World) : Calls Tryz.prog 15 #[.pointer none] w fun e w' => e = .returned (.pointer none) ∧ w = w' := by
  go_enter Tryz.func15, Tryz.ntmps15
  go_wp2
  go_ret
  exact ⟨rfl, rfl⟩
set_option maxRecDepth 100000 in
theorem make_nil (s : Array Value) (w : World) : Calls Tryz.prog 4 #[.pointer none, .agg s] w fun e w' => e = .returned (.tuple #[.int .i64 0, .int .i64 2]) ∧ Below w.heap.size w w' := by
  go_enter Tryz.func4, Tryz.ntmps4
  go_wp2
  go_ret2
  exact ⟨rfl, (Below.refl _ _).alloc (Nat.le_refl _) _⟩
end Go.Proofs.YtjjadikeobageaaGreatDoor
