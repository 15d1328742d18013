/- grasp: Which of a Code; what each statement asks first. -/
import Derived.Test.YtfmnbhhpimpjbaaGreatDoorGq
import Derived.Test.YtfmnbhhpimpjbaaGreatDoorWk
import Derived.Test.YtfmnbhhpimpjbaaGreatDoorTy
namespace Go.Proofs.YtfmnbhhpimpjbaaGreatDoor
open Go.RowKit
set_option linter.unusedVariables false

set_option maxRecDepth 100000 in
theorem which_code {D : Nat → Prop} {base bb : Nat} {v : Value} {rows : List BRow} (h : Int) (w : World) (hB : BookIn D w base bb v rows) (hE : atE rows.length h = 0) (n : Int) (he : errAt rows h = .iface 91 (.int .i16 n)) :
    Calls Tryz.prog 42 #[.pointer (some ⟨bb, 0, none⟩), .int .i64 h] w fun e w' => e = .returned (.tuple #[.int .i64 2, .int .i64 0]) ∧ Below w.heap.size w w' := by
  have a1 : ∀ w, (Instr.typeAssert (.iface 91 (.int .i16 n)) 20 101 true).run Tryz.prog w = .ok (.tuple #[.nilIface, .bool false]) w := fun w => face_no (by kernel_rfl) (by kernel_rfl)
  have a2 : ∀ w, (Instr.typeAssert (.iface 91 (.int .i16 n)) 20 91 true).run Tryz.prog w = .ok (.tuple #[.int .i16 n, .bool true]) w := fun w => by kernel_rfl
  have HV := Lib.hid (value_any h w hB)
  rw [hE, he] at HV
  clear hB hE he
  go_enter Tryz.func42, Tryz.ntmps42
  go_wp2_with fail
  refine HV.out.mono ?_
  rintro e w2 ⟨rfl, hb⟩
  have HB := Lib.hid hb
  clear hb HV
  go_wp2
  go_ret2
  exact ⟨rfl, HB.out⟩
def s1 : Sp := ⟨1, false, ⟨#[]⟩, 5, 0, 0, 0, false, 0, [], []⟩
def s2 : Sp := ⟨14, false, ⟨#[119]⟩, 0, 0, 0, 0, false, 0, [], [1]⟩
def s3 : Sp := ⟨20, false, ⟨#[]⟩, 0, 0, 0, 0, false, 0, [], [1]⟩
theorem s1_ok : s1.Ok := ⟨by decide, by decide, by decide, by decide, by decide, by decide, by decide, by intro x hx; cases hx⟩
theorem s2_ok : s2.Ok := ⟨by decide, by decide, by decide, by decide, by decide, by decide, by decide, by intro x hx; cases hx⟩
theorem s3_ok : s3.Ok := ⟨by decide, by decide, by decide, by decide, by decide, by decide, by decide, by intro x hx; cases hx⟩
theorem s1_chk : checkF s1 = 0 := by decide +kernel
theorem s2_chk : checkF s2 = 0 := by decide +kernel
theorem s3_chk : checkF s3 = 0 := by decide +kernel
theorem mk1 (T : Txt) : mkE T [] s1 = 0 ∧ longT T [] s1 ≤ 30 ∧ 0 ≤ longT T [] s1 := by
  have hz := itoaB_size 5 (by decide) (by decide)
  have hl : longT T [] s1 = 5 + (itoaB 5).size := rfl
  have h1 : sizeF [] s1 = 1 := rfl
  have h2 : depthF [] s1 = 1 := rfl
  have h3 : wordsF [] s1 = 0 := rfl
  unfold mkE
  rw [hl, h1, h2, h3]
  refine ⟨?_, by omega, by omega⟩
  rw [if_neg (by omega), if_neg (by omega), if_neg (by omega), if_neg (by simp)]
set_option maxRecDepth 10000 in
theorem mk2 (T : Txt) (r : BRow) (rs : List BRow) (s : Sp) (hs : s = s2 ∨ s = s3) (hr : rowAt (r :: rs) 1 = r) (hrs : rs.length ≤ 5) (h1 : r.size = 1) (h2 : r.depth = 1) (h3 : 0 ≤ r.long ∧ r.long ≤ 30) (h4 : r.words = 0) : mkE T (r :: rs) s = 0 := by
  have e1 : sizeF (r :: rs) s = 1 + (0 + r.size) := by rcases hs with rfl | rfl <;> (unfold sizeF sumTo; simp [s2, s3, hr])
  have e2 : depthF (r :: rs) s = max 1 (r.depth + 1) := by rcases hs with rfl | rfl <;> (unfold depthF; simp [s2, s3, maxTo, hr])
  have e3 : wordsF (r :: rs) s ≤ 1 + r.words := by rcases hs with rfl | rfl <;> (unfold wordsF sumTo itemsTo; simp [s2, s3, hr]) <;> (try simp [ByteArray.size]) <;> omega
  have e4 : longT T (r :: rs) s ≤ 6 + r.long := by
    unfold longT longOf longsOf longK lensF clampF
    rcases hs with rfl | rfl <;> simp [s2, s3, hr, List.range_succ, ByteArray.size] <;> omega
  unfold mkE
  rw [if_neg (by omega), if_neg (by omega), if_neg (by omega), if_neg (by simp; omega)]
end Go.Proofs.YtfmnbhhpimpjbaaGreatDoor
