/- The table of powers of ten that Itoa reads: out of what is laid; Itoa of each number. -/
import Derived.Test.YtfmnbhhpimpjbaaGreatDoorBLaid
import Derived.Test.YtfmnbhhpimpjbaaGreatDoorShelf
import Derived.Test.YtfmnbhhpimpjbaaGreatDoorVd
namespace Go.Proofs.YtfmnbhhpimpjbaaGreatDoor
open Go.ChangeShapes Go.WideShapes Go.ChangeAt Go.RowKit
set_option linter.unusedVariables false

theorem below_grow {B : Nat} {a w : World} (h : Below B a w) (os : Array Obj) (hB : B ≤ w.heap.size) : Below B a (Go.Sort.grow w os) :=
  ⟨h.os, h.tape, h.output, Nat.le_trans h.size (by simp [Go.Sort.grow]), fun b hb => by
    show (w.heap ++ os)[b]? = _
    rw [Array.getElem?_append_left (by omega)]; exact h.block b hb⟩
theorem tab_data : (Rows.laid_internal_strconv_uint64pow10 : DataW Unit) = Lib.tabData .u64 Lib.pow10Tab := by kernel_rfl
theorem tab_of_laid {W : World} (h : laidMetH Tryz.prog laid6 W) : Lib.TabIs Tryz.prog W "internal/strconv.uint64pow10" .u64 Lib.pow10Tab := by
  rw [MakeChecks.laidMetH_plain _ _ _ (by kernel_rfl)] at h
  obtain ⟨g, t, cs, fuel, p, hg, ht, hv, hd⟩ := Lib.laidMet.reads h (n := "internal/strconv.uint64pow10") (d := Rows.laid_internal_strconv_uint64pow10) (.tail _ (.tail _ (.tail _ (.head _))))
  obtain rfl := Option.some.inj ((show Tryz.prog.globalNamed "internal/strconv.uint64pow10" = some 2 by kernel_rfl).symm.trans hg)
  obtain rfl := Option.some.inj ((show (Tryz.prog.globals[2]?).map (·.type) = some 254 by kernel_rfl).symm.trans ht)
  rw [tab_data] at hd
  have e := Lib.cells_of_tab Tryz.underlying254 Tryz.underlying158 (by kernel_rfl) (by kernel_rfl) hd
  unfold Lib.TabIs
  rw [hv, ← e]
theorem tab_size {W : World} (h : Lib.TabIs Tryz.prog W "internal/strconv.uint64pow10" .u64 Lib.pow10Tab) : 2 < W.heap.size := by
  unfold Lib.TabIs World.var? at h
  have g : Tryz.prog.globalNamed "internal/strconv.uint64pow10" = some 2 := by kernel_rfl
  rw [g] at h
  simp only [Option.bind_some] at h
  cases h0 : W.heap[2]? with
  | none => rw [h0] at h; cases h
  | some o => exact (Array.getElem?_eq_some_iff.1 h0).1
theorem tab_keep {w w' : World} (h : Lib.TabIs Tryz.prog w "internal/strconv.uint64pow10" .u64 Lib.pow10Tab) (e : w'.heap[2]? = w.heap[2]?) : Lib.TabIs Tryz.prog w' "internal/strconv.uint64pow10" .u64 Lib.pow10Tab := by
  have g : Tryz.prog.globalNamed "internal/strconv.uint64pow10" = some 2 := by kernel_rfl
  unfold Lib.TabIs World.var? at h ⊢
  rw [g] at h ⊢
  simp only [Option.bind_some] at h ⊢
  rw [e]; exact h
theorem itoa_all {W : World} (h : laidMetH Tryz.prog laid6 W) (n : Int) (h0 : -9223372036854775808 ≤ n) (h1 : n ≤ 9223372036854775807) : ItoaC W n := fun w' hw => by
  have ht := tab_of_laid h
  have hk := tab_keep ht (hw.block _ (tab_size ht))
  refine (Tryz.strconv_Itoa n h0 h1 w' hk).mono ?_
  rintro e w'' ⟨he, k, os, hw''⟩
  refine ⟨he, ?_⟩
  rw [hw'']
  exact below_grow (below_dN (Below.refl _ _)) os (by simp)
end Go.Proofs.YtfmnbhhpimpjbaaGreatDoor
