/- book: Size, Len, Copy of a book. -/
import Derived.Test.YtfmnbhhpimpjbaaGreatDoorGb
namespace Go.Proofs.YtfmnbhhpimpjbaaGreatDoor
open Go.RowKit
set_option linter.unusedVariables false

set_option maxRecDepth 100000 in
theorem size_any {D : Nat → Prop} {base bb : Nat} {v : Value} {rows : List BRow} (h : Int) (w : World) (hB : BookIn D w base bb v rows) :
    Calls Tryz.prog 7 #[.pointer (some ⟨bb, 0, none⟩), .int .i64 h] w fun e w' => e = .returned (.tuple #[.int .i64 (rowAt rows h).size, .int .i64 (atE rows.length h)]) ∧ Below w.heap.size w w' := by
  have HA := Lib.hid (at_any h w hB)
  clear hB
  go_enter Tryz.func7, Tryz.ntmps7
  go_wp2_with fail
  refine HA.out.mono ?_
  rintro e w2 ⟨g, o, rfl, hc, hb, _⟩
  have c0 : w2.cell? ⟨g, o + 12, none⟩ = some (.int .i64 (rowAt rows h).size) := hc 12 (by omega)
  have HB := Lib.hid hb
  clear hc hb HA
  go_wp2
  go_ret2
  exact ⟨rfl, HB.out⟩
set_option maxRecDepth 100000 in
theorem len_any {D : Nat → Prop} {base bb : Nat} {v : Value} {rows : List BRow} (w : World) (hB : BookIn D w base bb v rows) :
    Calls Tryz.prog 31 #[.pointer (some ⟨bb, 0, none⟩)] w fun e w' => e = .returned (.int .i64 rows.length) ∧ w = w' := by
  obtain ⟨va, vc, hva⟩ : ∃ a c, v = .slice a rows.length c := by
    rcases hB.own.2 with ⟨h1, h2⟩ | ⟨g, cap, cur, h1, _⟩
    · exact ⟨none, 0, by rw [h1, h2]⟩
    · exact ⟨_, _, h1⟩
  have c0 : w.cell? ⟨bb, 0, none⟩ = some (.slice va rows.length vc) := by rw [← hva]; exact cell_of_block hB.box 0
  clear hB hva
  go_enter Tryz.func31, Tryz.ntmps31
  go_wp2
  go_ret
  exact ⟨rfl, rfl⟩
end Go.Proofs.YtfmnbhhpimpjbaaGreatDoor
