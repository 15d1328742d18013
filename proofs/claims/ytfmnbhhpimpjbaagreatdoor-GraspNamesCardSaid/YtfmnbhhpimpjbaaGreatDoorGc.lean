/- book: Spec of a book. -/
import Derived.Test.YtfmnbhhpimpjbaaGreatDoorGb
import Derived.Test.YtfmnbhhpimpjbaaGreatDoorVd
namespace Go.Proofs.YtfmnbhhpimpjbaaGreatDoor
open Go.RowKit
set_option linter.unusedVariables false

theorem row_facts {D : Nat → Prop} {w : World} {base bb : Nat} {v : Value} {rows : List BRow} (hB : BookIn D w base bb v rows) (h : Int) :
    (rowAt rows h).sp.items.length ≤ 64 ∧ (rowAt rows h).sp.parts.length ≤ 64 ∧ NilOk (rowAt rows h).ia (rowAt rows h).ic ∧ NilOk (rowAt rows h).pa (rowAt rows h).pc ∧ ItemsIn w (rowAt rows h).ia (rowAt rows h).sp.items ∧ PartsIn w (rowAt rows h).pa (rowAt rows h).sp.parts := by
  by_cases hh : 1 ≤ h ∧ h ≤ rows.length
  · have r := hB.ok _ _ (rowAt_in rows h hh.1 hh.2)
    obtain ⟨h1, _, h3⟩ := checkF_parts r.chk
    exact ⟨h3, h1, r.ni, r.np, r.items.in, r.parts.in⟩
  · rw [rowAt_out rows h (by omega)]
    exact ⟨by decide, by decide, fun _ => rfl, fun _ => rfl, fun h => by simp [zRow, zSp] at h, fun h => by simp [zRow, zSp] at h⟩
set_option maxRecDepth 100000 in
set_option maxHeartbeats 4000000 in
theorem spec_any {D : Nat → Prop} {base bb : Nat} {v : Value} {rows : List BRow} (h : Int) (w : World) (hB : BookIn D w base bb v rows) :
    Calls Tryz.prog 80 #[.pointer (some ⟨bb, 0, none⟩), .int .i64 h] w fun e w' => ∃ ia ic pa pc, e = .returned (.tuple #[.agg (spC (rowAt rows h).sp ia ic pa pc), .int .i64 (madeE rows.length h)]) ∧
      NilOk ia ic ∧ NilOk pa pc ∧ ItemsD (Fresh w w') w' ia (rowAt rows h).sp.items ∧ PartsD (Fresh w w') w' pa (rowAt rows h).sp.parts ∧ Below w.heap.size w w' := by
  have hb1 : Below w.heap.size w (w.alloc (.cells spZ 34)) := (Below.refl _ _).alloc (Nat.le_refl _) _
  have HM := Lib.hid (made_any h _ (hB.below hb1))
  have hf := row_facts hB h
  obtain ⟨r, hr⟩ : ∃ r, r = rowAt rows h := ⟨_, rfl⟩
  rw [← hr] at hf HM ⊢
  obtain ⟨f1, f2, f3, f4, f5, f6⟩ := hf
  have F5 := Lib.hid f5
  have F6 := Lib.hid f6
  have HB1 := Lib.hid hb1
  clear hB hb1 f5 f6 hr
  unfold spZ at HM HB1
  go_enter Tryz.func80, Tryz.ntmps80
  go_wp2_with fail
  refine HM.out.mono ?_
  rintro e w2 ⟨g, o, rfl, hc, hb, _⟩
  have HL := Lib.hid (range_of_row hc)
  have B2 := Lib.hid (HB1.out.trans (hb.mono (by simp)))
  have HT := Lib.hid (twin_any r.sp (by omega) (by omega) r.ia r.ic r.pa r.pc f3 f4 w2 (F5.out.below B2.out) (F6.out.below B2.out))
  have H2 := Lib.hid ((hb.block w.heap.size (by simp)).trans (alloc_at w (.cells spZ 34)))
  clear hc hb HM HB1
  go_wp2_with ((with_reducible refine at_op (.load 34 (.tmp 16)) rfl ?_); refine wpList_load_mid rfl 34 (.tmp 16) rfl g (o + 1) rfl (spC r.sp r.ia r.ic r.pa r.pc).toList _ HL.out Tryz.underlying34 rfl (by kernel_rfl) ?_)
  refine HT.out.mono ?_
  rintro e w3 ⟨ia, ic, pa, pc, rfl, n1, n2, d1, d2, b3⟩
  have B3 := Lib.hid (B2.out.trans (b3.mono B2.out.size))
  have hlt := lt_of_at H2.out
  have H3 := Lib.hid ((b3.block _ hlt).trans H2.out)
  have hex : Ex (fun b => b = w.heap.size) w3 (w3.setRow w.heap.size (spC r.sp ia ic pa pc)) := (Ex.refl _ _).setRow _ _ (.inl rfl)
  have D1 := Lib.hid ((d1.ev (Ev.of_ex hex fun b _ hF hS => by have := hF.1; omega)).mono (fun b hF => (⟨by have := hF.1; omega, by have := hF.2; simp; omega⟩ : Fresh w (w3.setRow w.heap.size (spC r.sp ia ic pa pc)) b)))
  have D2 := Lib.hid ((d2.ev (Ev.of_ex hex fun b _ hF hS => by have := hF.1; omega)).mono (fun b hF => (⟨by have := hF.1; omega, by have := hF.2; simp; omega⟩ : Fresh w (w3.setRow w.heap.size (spC r.sp ia ic pa pc)) b)))
  clear b3 HT HL d1 d2 hex H2
  go_wp2_with ((with_reducible refine at_op (.store 34 (.tmp 4) (.tmp 18)) rfl ?_); refine wpList_store_row rfl 34 (.tmp 4) (.tmp 18) rfl w.heap.size rfl (spC r.sp ia ic pa pc) rfl 34 _ H3.out (by kernel_rfl) rfl (by simp [spC, Value.oneCell']) ?_)
  exact bodyPost_ret (results_row_tmp rfl _ _ w.heap.size 34 (spC r.sp ia ic pa pc) (0, 0) _ rfl (setRow_heap _ _ _ _ _ _ H3.out) Tryz.underlying34 rfl (by kernel_rfl)) rfl ⟨ia, ic, pa, pc, rfl, n1, n2, D1.out, D2.out, below_setRow B3.out (Nat.le_refl _) _⟩
end Go.Proofs.YtfmnbhhpimpjbaaGreatDoor
