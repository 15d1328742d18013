/- Functions made of deeds; a deed guarded. -/
import Derived.Test.YtokfnlfadofmnaaDoorEe
namespace Go.Proofs.YtokfnlfadofmnaaDoor
open Go.RowKit Go.Shelf
set_option linter.unusedVariables false

theorem closing_any {B cb cap LB : Nat} {w : World} {v f0 : Value} {xs : List Int} {D0 : Ded} {L : List Ded} {fs : List Value} {sa : Option Addr} {cur : Array Value} (hc : CS B cb w v xs) (hB : B ≤ w.heap.size) (hl : xs.length + L.length + 1 ≤ 100)
    (hf0 : FVc cb w v D0 (-1) f0) (hfs : ∀ i, i < L.length → FVc cb w v (L.getD i default) i (fs.getD i undef)) (hsa : 0 < L.length → sa = some ⟨LB, 0, none⟩ ∧ w.heap[LB]? = some (.cells cur 46 (0, 0))) (hLBl : LB < w.heap.size) (hcur : ∀ i, i < L.length → cur[i]? = some (fs.getD i undef)) :
    Calls Tryd.prog 10 #[f0, .slice sa L.length cap] w (CPost B cb v xs D0 L w) := (callsIn_wide (n := 4)).1 (closing_ai 4 (Nat.le_refl _) hc hB hl hf0 hfs hsa hLBl hcur)
set_option maxRecDepth 100000 in
theorem deed_any {cb : Nat} {w : World} {D : Ded} {n : Int} : Calls Tryd.prog 9 #[.agg #[.int .i64 D.kind, .int .i64 D.e, .string D.word], .int .i64 n, .pointer (some ⟨cb, 0, none⟩)] w fun e w' => ∃ f, e = .returned f ∧ (∀ u : Value, (∀ b, u.ownBlock = some b → b < w.heap.size) → FVc cb w' u D n f) ∧ Below w.heap.size w w' ∧ w.heap.size < w'.heap.size ∧ ∀ b3 b4 b5, f = cloV b3 b4 b5 → w.heap.size ≤ b3 := by
  have hmf : ∀ (fn : Fn) (first cap : Array Value) (w : World), (Instr.makeFunc fn first cap).run Tryd.prog w = .ok (.func fn first cap) w := fun _ _ _ _ => rfl
  have hbel : Below w.heap.size w (((w.alloc (.cells #[.int .i64 D.kind, .int .i64 D.e, .string D.word] 42)).alloc (.cells #[.int .i64 n] 3)).alloc (.cells #[.pointer (some ⟨cb, 0, none⟩)] 48)) := (((Below.refl _ _).alloc (Nat.le_refl _) _).alloc (by simp) _).alloc (by simp <;> omega) _
  by_cases h4 : D.kind = 4
  · have z : (D.kind == 4) = true := by simp [h4]
    have H4 := Lib.hid h4
    clear h4
    go_enter Tryd.func9, Tryd.ntmps9
    go_wp2
    go_ret
    exact ⟨_, rfl, fun u hu => .inl ⟨H4.out, rfl⟩, hbel, by simp <;> omega, fun b3 b4 b5 h => by simp [cloV] at h⟩
  · have z : (D.kind == 4) = false := by simpa using h4
    have H4 := Lib.hid h4
    clear h4
    go_enter Tryd.func9, Tryd.ntmps9
    go_wp2
    go_ret
    refine ⟨_, rfl, fun u hu => .inr ⟨H4.out, w.heap.size, w.heap.size + 1, w.heap.size + 1 + 1, rfl, ?_, ?_, alloc_at' _ _ _ (by simp), fun e => by have := hu _ e; omega⟩, hbel, by simp <;> omega, fun b3 b4 b5 h => by simp [cloV] at h; omega⟩
    · exact (alloc_old _ _ _ (by simp <;> omega)).trans ((alloc_old _ _ _ (by simp)).trans (alloc_at _ _))
    · exact (alloc_old _ _ _ (by simp)).trans (alloc_at' _ _ _ (by simp))
/-- What is left behind a function that Guard calls for the statement. -/
def GE (B cb : Nat) (xs : List Int) (n : Int) (D : Ded) (q : Option Pan) (w' : World) : Prop := q = DQ D ∧ ∃ v', CS B cb w' v' (xs ++ [n])
set_option maxRecDepth 100000 in
theorem clo19 {B cb fb pb b3 b4 b5 : Nat} {w : World} {v : Value} {xs : List Int} {D : Ded} {n : Int} (hc : CS B cb w v xs) (h : Clo cb w v D n b3 b4 b5) (hB : B ≤ w.heap.size) (hl : xs.length ≤ 100)
    (hf : w.heap[fb]? = some (.cells #[cloV b3 b4 b5] 46 (0, 0))) (hp : w.heap[pb]? = some (.cells (pc Pan.none) 29 (0, 0))) (w0 : World) (hbel : Below B w0 w) {x : Nat} {cx : Array Value} (hx : w.heap[x]? = some (.cells cx 42 (0, 0))) :
    Calls Tryd.prog 19 #[.pointer (some ⟨fb, 0, none⟩)] w fun e w' => ∃ q, EndOk q e ∧ (GE B cb xs n D q w' ∧ Below B w0 w' ∧ w'.heap[x]? = some (.cells cx 42 (0, 0)) ∧ w.heap.size ≤ w'.heap.size) ∧ w'.heap[pb]? = some (.cells (pc Pan.none) 29 (0, 0)) := by
  have hd := deed1_any hc h hB hl
  have cf : w.cell? ⟨fb, 0, none⟩ = some (.func (.func 14) #[] #[.pointer (some ⟨b5, 0, none⟩), .pointer (some ⟨b4, 0, none⟩), .pointer (some ⟨b3, 0, none⟩)]) := by rw [cell_of_block hf]; rfl
  have H := Lib.hid (And.intro hc (And.intro hp (And.intro hbel hx)))
  clear hc h hf hp hbel hx
  go_enter Tryd.func19, Tryd.ntmps19
  go_wp2_with fail
  refine hd.mono ?_
  rintro e w2 ⟨hend, v', hcs, hft⟩
  have hp2 := hft.cells H.out.1 H.out.2.1 (by simp [T44]) (by decide)
  have hx2 := hft.cells H.out.1 H.out.2.2.2 (by simp [T44]) (by decide)
  have H2 := Lib.hid (And.intro hcs (And.intro hft (And.intro hx2 hp2)))
  clear hcs hft hp2 hx2
  rcases dq_end hend with ⟨p, u, hq, rfl, hv⟩ | ⟨hq, rfl⟩
  · go_wp2_with fail
    exact ⟨rfl, some p, ⟨u, [], rfl, hv, by intro x hx; cases hx⟩, ⟨⟨hq.symm, v', H2.out.1⟩, H.out.2.2.1.trans H2.out.2.1.below, H2.out.2.2.1, H2.out.2.1.below.size⟩, H2.out.2.2.2⟩
  · go_wp2_with fail
    go_end0
    exact ⟨none, rfl, ⟨⟨hq.symm, v', H2.out.1⟩, H.out.2.2.1.trans H2.out.2.1.below, H2.out.2.2.1, H2.out.2.1.below.size⟩, H2.out.2.2.2⟩
/-- Panics compared. -/
theorem pan_fields : (Tryd.prog.fieldsOf 29).toList.map (fun f => (f.name == "_", f.type, f.offset)) = [(false, 3, 0), (false, 9, 1), (false, 3, 2)] := by kernel_rfl
theorem pan_eql (a b : Int) (s t : ByteArray) (w : World) : (binOp .eql 29 (.agg #[.int .i64 a, .string s, .int .i64 0]) (.agg #[.int .i64 b, .string t, .int .i64 0])).run Tryd.prog w = .ok (.bool (a == b && s.toList == t.toList)) w := by
  rw [run_eql_struct, run_equalIn_struct w 9999 29 _ _ (by kernel_rfl) (by kernel_rfl)]
  have hf := pan_fields
  generalize (Tryd.prog.fieldsOf 29).toList = l at hf
  rcases l with _ | ⟨f0, _ | ⟨f1, _ | ⟨f2, _ | ⟨f3, l⟩⟩⟩⟩
  · simp at hf
  · simp at hf
  · simp at hf
  · simp at hf
    obtain ⟨⟨n0, t0, o0⟩, ⟨n1, t1, o1⟩, ⟨n2, t2, o2⟩⟩ := hf
    have q0 : ∀ (x y z : Value) w, (part 3 #[x, y, z] 0).run Tryd.prog w = .ok x w := fun _ _ _ _ => by kernel_rfl
    have q1 : ∀ (x y z : Value) w, (part 9 #[x, y, z] 1).run Tryd.prog w = .ok y w := fun _ _ _ _ => by kernel_rfl
    have q2 : ∀ (x y z : Value) w, (part 3 #[x, y, z] 2).run Tryd.prog w = .ok z w := fun _ _ _ _ => by kernel_rfl
    have e0 : ∀ (x y : Int) w, (Op.equalIn 9999 3 (.int .i64 x) (.int .i64 y)).run Tryd.prog w = .ok (x == y) w := fun x y w => run_equalIn_int w 9998 3 .i64 .i64 x y Tryd.underlying3
    have e1 : ∀ (x y : ByteArray) w, (Op.equalIn 9999 9 (.string x) (.string y)).run Tryd.prog w = .ok (x.toList == y.toList) w := fun x y w => run_equalIn_string w 9998 9 x y Tryd.underlying9
    simp [Op.eqFields, n0, n1, n2, t0, t1, t2, o0, o1, o2, q0, q1, q2, e0, e1]
    cases ha : decide (a = b) <;> cases hs : decide (s.toList = t.toList) <;> simp_all
  · simp at hf
theorem pan_eql_true (a : Int) (s : ByteArray) (w : World) : (binOp .eql 29 (.agg #[.int .i64 a, .string s, .int .i64 0]) (.agg #[.int .i64 a, .string s, .int .i64 0])).run Tryd.prog w = .ok (.bool true) w := by rw [pan_eql]; simp
set_option maxRecDepth 100000 in
set_option maxHeartbeats 4000000 in
theorem guarded_any (D : Ded) (w : World) : Calls Tryd.prog 11 #[.agg #[.int .i64 D.kind, .int .i64 D.e, .string D.word]] w fun e w' => e = .returned (.bool true) ∧ Below w.heap.size w w' := by
  have hmf : ∀ (fn : Fn) (first cap : Array Value) (w : World), (Instr.makeFunc fn first cap).run Tryd.prog w = .ok (.func fn first cap) w := fun _ _ _ _ => rfl
  have hpe := pan_eql_true
  obtain ⟨WD, hWD⟩ : ∃ WD, WD = (w.alloc (.cells #[.int .i64 D.kind, .int .i64 D.e, .string D.word] 42)).alloc (.cells #[.slice none 0 0] 44) := ⟨_, rfl⟩
  have hBD : Below w.heap.size w WD := by rw [hWD]; exact ((Below.refl _ _).alloc (Nat.le_refl _) _).alloc (by simp) _
  have hcD : CS w.heap.size (w.heap.size + 1) WD (.slice none 0 0) [] := ⟨by rw [hWD]; exact alloc_at' _ _ _ (by simp), ⟨rfl, .inl ⟨rfl, rfl⟩⟩, by omega⟩
  have hxD : WD.heap[w.heap.size]? = some (.cells (dc D) 42 (0, 0)) := by rw [hWD]; exact (alloc_old _ _ _ (by simp)).trans (alloc_at _ _)
  have hdeed := deed_any (cb := w.heap.size + 1) (w := WD) (D := D) (n := 0)
  rw [hWD] at hdeed
  have H := Lib.hid (And.intro hBD (And.intro hcD (And.intro hxD hWD)))
  clear hBD hcD hxD hWD
  go_enter Tryd.func11, Tryd.ntmps11
  go_wp2_with fail
  refine hdeed.mono ?_
  clear hdeed
  rintro e w1 ⟨f, rfl, hfa, hb1, hs1, -⟩
  have hfv := hfa (.slice none 0 0) (fun b h => by cases h)
  clear hfa
  obtain ⟨hBD, hcD, hxD, hWD⟩ := H.out
  rw [← hWD] at hb1 hs1
  have hc1 := hcD.below hb1
  have hx1 : w1.heap[w.heap.size]? = some (.cells (dc D) 42 (0, 0)) := by rw [hb1.block _ (Array.getElem?_eq_some_iff.1 hxD).1]; exact hxD
  have hB1 := hBD.trans (hb1.mono hBD.size)
  have hsD : WD.heap.size = w.heap.size + 2 := by rw [hWD]; simp
  have H1 := Lib.hid (And.intro hc1 (And.intro hx1 (And.intro hB1 hsD)))
  clear hBD hcD hxD hc1 hx1 hB1 hWD H
  rcases hfv with ⟨h4, rfl⟩ | ⟨h4, b3, b4, b5, rfl, hclo⟩
  · have hnil : ∀ w, (binOp .eql 46 .nilFunc .nilFunc).run Tryd.prog w = .ok (.bool true) w := fun w => by rfl
    clear h4 hsD hb1
    go_wp2_with fail
    refine (guard_nil _).mono ?_
    unfold pc
    dsimp only [Pan.none]
    rintro e w2 ⟨rfl, hb2⟩
    go_wp2_with fail
    go_ret
    exact ⟨rfl, (H1.out.2.2.1.alloc H1.out.2.2.1.size _).trans (hb2.mono (by have := H1.out.2.2.1.size; simp; omega))⟩
  · have hnil : ∀ w, (binOp .eql 46 (cloV b3 b4 b5) .nilFunc).run Tryd.prog w = .ok (.bool false) w := fun w => by rfl
    obtain ⟨hc1, hx1, hB1, hsD'⟩ := H1.out
    obtain ⟨W3, hW3⟩ : ∃ W3, W3 = (w1.alloc (.cells #[cloV b3 b4 b5] 46)).alloc (.cells #[.int .i64 0, .string ⟨#[]⟩, .int .i64 0] 29) := ⟨_, rfl⟩
    have hB3 : Below w1.heap.size w1 W3 := by rw [hW3]; exact ((Below.refl _ _).alloc (Nat.le_refl _) _).alloc (by simp) _
    have hg := guard_19 (w := w1.alloc (.cells #[cloV b3 b4 b5] 46)) (fb := w1.heap.size) (R := fun q W => GE w.heap.size (w.heap.size + 1) [] 0 D q W ∧ Below w.heap.size w W ∧ W.heap[w.heap.size]? = some (.cells (dc D) 42 (0, 0)) ∧ W3.heap.size ≤ W.heap.size) (by
      rw [← hW3]
      exact clo19 (hc1.below hB3) (hclo.keep hc1 (Ft.of_below (T := T44) hB3 hB1.size) (by simp [T44]) (by simp [T44]) (by simp [T44])) (Nat.le_trans hB1.size hB3.size) (by simp)
        (by rw [hW3]; exact (alloc_old _ _ _ (by simp)).trans (alloc_at _ _)) (by rw [hW3]; exact alloc_at _ _) w (hB1.trans (hB3.mono hB1.size)) (by rw [hB3.block _ (Array.getElem?_eq_some_iff.1 hx1).1]; exact hx1))
    have hsz : (w1.alloc (.cells #[cloV b3 b4 b5] 46)).heap.size = w1.heap.size + 1 := by simp
    have hsz3 : W3.heap.size = w1.heap.size + 2 := by rw [hW3]; simp
    rw [hsz] at hg
    have HX := Lib.hid (And.intro hsD (And.intro hsz3 hs1))
    clear hc1 hx1 hB1 hsD' hW3 hB3 hsz hclo hb1
    unfold cloV at hg hnil ⊢
    go_wp2_with fail
    refine hg.mono ?_
    clear hg
    rintro e w' ⟨q, w2, rfl, ⟨⟨hq, v', hcs, hrow, hle⟩, hBw, hx2, hs2⟩, hkb⟩
    obtain ⟨va, vc, rfl⟩ := own_form hrow
    have lx := (Array.getElem?_eq_some_iff.1 hx2).1
    have lc := (Array.getElem?_eq_some_iff.1 hcs).1
    have hx' : w'.heap[w.heap.size]? = some (.cells (dc D) 42 (0, 0)) := by rw [hkb.block _ lx (by omega)]; exact hx2
    have hc' : w'.heap[w.heap.size + 1]? = some (.cells #[.slice va 1 vc] 44 (0, 0)) := by rw [hkb.block _ lc (by omega)]; exact hcs
    have hBw' : Below w.heap.size w w' := ⟨hkb.os.trans hBw.os, hkb.tape.trans hBw.tape, hkb.output.trans hBw.output, Nat.le_trans hBw.size hkb.size, fun b hb => (hkb.block b (Nat.lt_of_lt_of_le hb hBw.size) (by omega)).trans (hBw.block b hb)⟩
    have d0 : w'.cell? ⟨w.heap.size, 0, none⟩ = some (.int .i64 D.kind) := by rw [cell_of_block hx']; rfl
    have d1 : w'.cell? ⟨w.heap.size, 1, none⟩ = some (.int .i64 D.e) := by rw [cell_of_block hx']; rfl
    have d2 : w'.cell? ⟨w.heap.size, 2, none⟩ = some (.string D.word) := by rw [cell_of_block hx']; rfl
    have kc : w'.cell? ⟨w.heap.size + 1, 0, none⟩ = some (.slice va 1 vc) := by rw [cell_of_block hc']; rfl
    have l1 : w.heap.size + 1 < w'.heap.size := by have := hkb.size; omega
    have l0 : w.heap.size < w'.heap.size := by omega
    have n1 : ¬ w.heap.size + 1 = w'.heap.size := by omega
    have n0 : ¬ w.heap.size = w'.heap.size := by omega
    clear hcs hrow hle hBw hx2 hs2 hkb lx lc hx' hc' H1
    rcases (show D.kind = 1 ∨ (2 ≤ D.kind ∧ D.kind ≤ 3) ∨ ¬ (1 ≤ D.kind ∧ D.kind ≤ 3) by omega) with hk | hk | hk
    · have e : DQ D = some (Pan.own D.word) := by unfold DQ; rw [if_pos hk]
      rw [hq, e]
      unfold pc
      dsimp only [Option.getD, Pan.own]
      have z1 : (D.kind == 1) = true := by simp [hk]
      clear hq e hk
      go_wp2_with fail
      go_ret
      exact ⟨rfl, hBw'.alloc hBw'.size _⟩
    · have e : DQ D = some Pan.rt := by unfold DQ; rw [if_neg (by omega), if_pos hk]
      rw [hq, e]
      unfold pc
      dsimp only [Option.getD, Pan.rt]
      have z1 : (D.kind == 1) = false := by simp; omega
      have z2 : (D.kind == 2 || D.kind == 3) = true := by simp; omega
      rcases (show D.kind = 2 ∨ D.kind = 3 by omega) with h | h
      · have z2 : (D.kind == 2) = true := by simp [h]
        clear hq e hk h
        go_wp2_with fail
        go_ret
        exact ⟨rfl, hBw'.alloc hBw'.size _⟩
      · have z2 : (D.kind == 2) = false := by simp [h]
        have z3 : (D.kind == 3) = true := by simp [h]
        clear hq e hk h
        go_wp2_with fail
        go_ret
        exact ⟨rfl, hBw'.alloc hBw'.size _⟩
    · have e : DQ D = none := by unfold DQ; rw [if_neg (by omega), if_neg (by omega)]
      rw [hq, e]
      unfold pc
      dsimp only [Option.getD, Pan.none]
      have z1 : (D.kind == 1) = false := by simp; omega
      have z2 : (D.kind == 2) = false := by simp; omega
      have z3 : (D.kind == 3) = false := by simp; omega
      clear hq e hk
      go_wp2_with fail
      go_ret
      exact ⟨rfl, hBw'.alloc hBw'.size _⟩
end Go.Proofs.YtokfnlfadofmnaaDoor
