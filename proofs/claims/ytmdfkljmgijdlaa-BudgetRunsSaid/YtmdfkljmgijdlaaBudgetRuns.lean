/- BudgetRuns: two budgets of any plans and any script of notes, merges and questions: every refusal and all that they tell is what the document says. Conditions: none. -/
import Derived.Test.YtmdfkljmgijdlaaSm
import Derived.Test.YtmdfkljmgijdlaaRf
import Derived.OpenShut
import Derived.Laws.Cover2
namespace Go.Proofs.Ytmdfkljmgijdlaa
open Go.RowKit Go.ChangeShapes Go.WideShapes Go.ChangeAt
set_option linter.unusedVariables false

theorem okWide_array {P : Program} {w : World} {r : Reach} {b : Nat} {t : TypeId} {v : Value} {n : Nat} {e : TypeId} (ht : P.underlying t = some (.array n e)) (h : Value.okWide P w r b t v) : ∃ cs, v = .agg cs ∧ cs.size = P.cellsOf t := by
  unfold Value.okWide at h
  rw [ht] at h
  obtain ⟨cs, h1, h2, _⟩ := h
  exact ⟨cs, h1, h2⟩
theorem ci89 : Try.prog.cellsOf 89 = 2 := by kernel_rfl
theorem ci90 : Try.prog.cellsOf 90 = 2 := by kernel_rfl
theorem ci98 : Try.prog.cellsOf 98 = 8 := by kernel_rfl
theorem ci36 : Try.prog.cellsOf 36 = 1 := by kernel_rfl
theorem weightsAll_mem {H : Type} {P : Program} {e : TypeId} : ∀ {l : List (DataW H)} {d : DataW H}, d ∈ l → ∀ n ∈ d.weights P e, n ∈ DataW.weightsAll P e l
  | d' :: r, d, hd, n, hn => by
    simp only [DataW.weightsAll, List.mem_append]
    rcases List.mem_cons.1 hd with rfl | h
    · exact Or.inl hn
    · exact Or.inr (weightsAll_mem h n hn)

theorem arr2v (l : Array Value) (h : l.size = 2) : ∃ a b, l = #[a, b] := by
  obtain ⟨l⟩ := l
  match l, h with
  | [a, b], _ => exact ⟨a, b, rfl⟩
set_option maxRecDepth 100000 in
theorem open_two {H : Type} {enc : TypeId × Value → H} {W : World} {b0 t e : Nat} {k : IntKind} {v : Value} {d : DataW H} {p : List MemPlace} (ht : Try.prog.underlying t = some (.array 2 e)) (he : Try.prog.underlying e = some (.int k)) (hc : Try.prog.cellsOf t = 2) (hce : Try.prog.cellsOf e = 1)
    (hval : Value.okWide Try.prog W .any b0 t v) (h : DataW.Trod enc Try.prog W 0 (fun _ => true) true t v d p) :
    ∃ x : Nat → Int, v = .agg #[.int k (x 0), .int k (x 1)] ∧ ∀ i, i < 2 → (Lit.int k (x i)).wf = true := by
  obtain ⟨cs, rfl, hs⟩ := okWide_array ht hval
  rw [hc] at hs
  obtain ⟨fuel, h⟩ := h
  obtain ⟨xs, m, rfl, _, _, hl, hf⟩ := DataW.trod_array ht h
  rw [hce] at hf
  obtain ⟨a, b, rfl⟩ := arr2v cs hs
  have h0 := hf 0 (by omega)
  have h1 := hf 1 (by omega)
  simp only [Value.cells, Nat.zero_mul, Nat.one_mul, List.drop_zero, List.drop_succ_cons, List.take_succ_cons, List.take_zero] at h0 h1
  obtain ⟨y0, e0⟩ : ∃ y, xs[0]? = some y := ⟨_, List.getElem?_eq_getElem (by omega)⟩
  obtain ⟨y1, e1⟩ : ∃ y, xs[1]? = some y := ⟨_, List.getElem?_eq_getElem (by omega)⟩
  rw [e0] at h0
  rw [e1] at h1
  obtain ⟨u, q0, _, w0⟩ := DataW.trod_int he h0
  obtain ⟨s, q1, _, w1⟩ := DataW.trod_int he h1
  simp only [List.cons.injEq, and_true] at q0 q1
  subst q0 q1
  refine ⟨fun i => if i = 0 then u else s, rfl, fun i hi => ?_⟩
  have q : i = 0 ∨ i = 1 := by omega
  rcases q with rfl | rfl
  · exact w0
  · exact w1

set_option maxRecDepth 100000 in
theorem rules_cells {H : Type} {enc : TypeId × Value → H} {W : World} {fuel : Nat} {c : Value} {x : DataW H × List MemPlace}
    (h : DataW.trod enc Try.prog W 0 (fun _ => true) true fuel 36 [c] = some x) : ∃ (a : Option Addr) (n cp : Nat) (R : Nat → Int × Int × Nat), c = .slice a n cp ∧ RulesIn W a n R ∧ ∃ el r : List (DataW H), ((x.1 = .nil ∧ n = 0) ∨ x.1 = .slice el r) ∧ (x.1 = .slice el r → el.length = n) := by
  rcases Deep.open_slice Try.underlying36 h with ⟨hcs, hd⟩ | ⟨q, n, cp, m, k, D, Pl, hcs, _, hl, hm, hmm, hd, hx⟩
  · simp only [List.cons.injEq, and_true] at hcs
    subst hcs hd
    exact ⟨none, 0, 0, fun _ => (0, 0, 0), rfl, fun h => by omega, [], [], Or.inl ⟨rfl, rfl⟩, fun e => by cases e⟩
  · simp only [List.cons.injEq, and_true] at hcs
    subst hcs hd
    have each : ∀ i, i < n → ∃ t : Int × Int × Nat, W.cell? (q.add (i * 3)) = some (.int .i64 t.1) ∧ W.cell? ⟨(q.add (i * 3)).block, (q.add (i * 3)).off + 1, none⟩ = some (.int .i64 t.2.1) ∧
        W.cell? ⟨(q.add (i * 3)).block, (q.add (i * 3)).off + 2, none⟩ = some (.int .u64 (t.2.2 : Nat)) := by
      intro i hi
      simp only [if_true] at hmm
      obtain ⟨cs', h1, h2⟩ := hx i (by omega)
      rw [ci165] at h1
      obtain ⟨_, hlen, hcell⟩ := World.cells?_some h1
      obtain ⟨v0, v1, v2, rfl⟩ := list3v cs' hlen
      obtain ⟨xs, m', rfl, _, _, hxl, hf⟩ := DataW.trod_struct Try.underlying165 h2
      obtain ⟨y0, hy0, e0⟩ := trod_fieldAt hxl hf 0 3 0 rfl
      obtain ⟨y1, hy1, e1⟩ := trod_fieldAt hxl hf 1 3 1 rfl
      obtain ⟨y2, hy2, e2⟩ := trod_fieldAt hxl hf 2 23 2 rfl
      simp only [ci3, ci23, List.drop_succ_cons, List.drop_zero, List.take_succ_cons, List.take_zero] at e0 e1 e2
      obtain ⟨t, h0, _, w0⟩ := DataW.trod_int Try.underlying3 e0
      obtain ⟨g, h1', _, w1⟩ := DataW.trod_int Try.underlying3 e1
      obtain ⟨c, h2', _, w2⟩ := DataW.trod_int Try.underlying23 e2
      simp only [List.cons.injEq, and_true] at h0 h1' h2'
      subst h0 h1' h2'
      have k0 := hcell 0 (by omega)
      have k1 := hcell 1 (by omega)
      have k2 := hcell 2 (by omega)
      rw [show (q.add (i * 3)).add 0 = q.add (i * 3) from rfl] at k0
      rw [add_fieldv] at k1 k2
      have hc : ((c.toNat : Nat) : Int) = c := by
        simp [Lit.wf, IntKind.min, IntKind.max, IntKind.signed, IntKind.bits] at w2
        omega
      exact ⟨(t, g, c.toNat), k0, k1, by rw [hc]; exact k2⟩
    obtain ⟨R, hR⟩ := Deep.choose_lt each
    exact ⟨some q, n, cp, R, rfl, fun _ => ⟨q, rfl, fun i hi => hR i hi⟩, _, _, Or.inr rfl, fun e => by cases e; simp⟩

theorem list8v (l : List Value) (h : l.length = 8) : ∃ a b c d e f g i, l = [a, b, c, d, e, f, g, i] := by
  match l, h with
  | [a, b, c, d, e, f, g, i], _ => exact ⟨a, b, c, d, e, f, g, i, rfl⟩

instance : Inhabited Stp := ⟨⟨0, false, false, 0, 0, 0, 0, none, 0, 0, fun _ => (0, 0, 0)⟩⟩
set_option maxRecDepth 100000 in
/-- Steps that came in. -/
theorem open_steps {H : Type} {enc : TypeId × Value → H} {W : World} {b0 : Nat} {v : Value} {d : DataW H} {p : List MemPlace} (hval : Value.okWide Try.prog W .any b0 91 v)
    (h : DataW.Trod enc Try.prog W 0 (fun _ => true) true 91 v d p) (hw : ∀ z ∈ d.weights Try.prog 91, z ≤ 140737488351232) : ∃ (a : Option Addr) (n cp : Nat) (X : Nat → Stp), v = .slice a n cp ∧ n ≤ maxLen ∧ StepsIn W a n X := by
  obtain ⟨a, n, cp, rfl⟩ := okWide_slice Try.underlying91 hval
  obtain ⟨fuel, h⟩ := h
  rcases Deep.open_slice Try.underlying91 h with ⟨hcs, _⟩ | ⟨q, len, cap, m, k, D, Pl, hcs, _, hl, hm, hmm, hd, hx⟩
  · simp only [Value.cells, List.cons.injEq, and_true, Value.slice.injEq] at hcs
    obtain ⟨rfl, rfl, rfl⟩ := hcs
    exact ⟨none, 0, 0, fun _ => ⟨0, false, false, 0, 0, 0, 0, none, 0, 0, fun _ => (0, 0, 0)⟩, rfl, by decide, fun h => by omega⟩
  · simp only [Value.cells, List.cons.injEq, and_true, Value.slice.injEq] at hcs
    obtain ⟨rfl, rfl, rfl⟩ := hcs
    simp only [Prod.mk.injEq] at hd
    have each : ∀ i, i < n → ∃ x : Stp, W.cell? (q.add (i * 8)) = some (.int .i64 x.kd) ∧ W.cell? ⟨(q.add (i * 8)).block, (q.add (i * 8)).off + 1, none⟩ = some (.bool x.wh) ∧
        W.cell? ⟨(q.add (i * 8)).block, (q.add (i * 8)).off + 2, none⟩ = some (.bool x.wt) ∧ W.cell? ⟨(q.add (i * 8)).block, (q.add (i * 8)).off + 3, none⟩ = some (.int .i64 x.ta) ∧
        W.cell? ⟨(q.add (i * 8)).block, (q.add (i * 8)).off + 4, none⟩ = some (.int .i64 x.gd) ∧ W.cell? ⟨(q.add (i * 8)).block, (q.add (i * 8)).off + 5, none⟩ = some (.int .i64 x.bd) ∧
        W.cell? ⟨(q.add (i * 8)).block, (q.add (i * 8)).off + 6, none⟩ = some (.int .i64 x.wn) ∧ W.cell? ⟨(q.add (i * 8)).block, (q.add (i * 8)).off + 7, none⟩ = some (.slice x.a2 x.n2 x.cp2) ∧
        RulesIn W x.a2 x.n2 x.R ∧ x.n2 * 24 ≤ 140737488351232 := by
      intro i hi
      simp only [if_true] at hmm
      obtain ⟨cs', h1, h2⟩ := hx i (by omega)
      rw [ci98] at h1
      obtain ⟨_, hlen, hcell⟩ := World.cells?_some h1
      obtain ⟨v0, v1, v2, v3, v4, v5, v6, v7, rfl⟩ := list8v cs' hlen
      obtain ⟨xs, m', rfl, hD, _, hxl, hf⟩ := DataW.trod_struct Try.underlying98 h2
      obtain ⟨y0, hy0, e0⟩ := trod_fieldAt hxl hf 0 3 0 rfl
      obtain ⟨y1, hy1, e1⟩ := trod_fieldAt hxl hf 1 4 1 rfl
      obtain ⟨y2, hy2, e2⟩ := trod_fieldAt hxl hf 2 4 2 rfl
      obtain ⟨y3, hy3, e3⟩ := trod_fieldAt hxl hf 3 2 3 rfl
      obtain ⟨y4, hy4, e4⟩ := trod_fieldAt hxl hf 4 3 4 rfl
      obtain ⟨y5, hy5, e5⟩ := trod_fieldAt hxl hf 5 3 5 rfl
      obtain ⟨y6, hy6, e6⟩ := trod_fieldAt hxl hf 6 3 6 rfl
      obtain ⟨y7, hy7, e7⟩ := trod_fieldAt hxl hf 7 36 7 rfl
      simp only [ci2, ci3, ci4, ci36, List.drop_succ_cons, List.drop_zero, List.take_succ_cons, List.take_zero] at e0 e1 e2 e3 e4 e5 e6 e7
      obtain ⟨z0, g0, _, _⟩ := DataW.trod_int Try.underlying3 e0
      obtain ⟨z1, g1, _⟩ := DataW.trod_bool Try.underlying4 e1
      obtain ⟨z2, g2, _⟩ := DataW.trod_bool Try.underlying4 e2
      obtain ⟨z3, g3, _, _⟩ := DataW.trod_int Try.underlying2 e3
      obtain ⟨z4, g4, _, _⟩ := DataW.trod_int Try.underlying3 e4
      obtain ⟨z5, g5, _, _⟩ := DataW.trod_int Try.underlying3 e5
      obtain ⟨z6, g6, _, _⟩ := DataW.trod_int Try.underlying3 e6
      obtain ⟨a2, n2, cp2, R, rfl, hR, el, rr, hdd, hel⟩ := rules_cells e7
      simp only [List.cons.injEq, and_true] at g0 g1 g2 g3 g4 g5 g6
      subst g0 g1 g2 g3 g4 g5 g6
      have k0 := hcell 0 (by omega)
      have k1 := hcell 1 (by omega)
      have k2 := hcell 2 (by omega)
      have k3 := hcell 3 (by omega)
      have k4 := hcell 4 (by omega)
      have k5 := hcell 5 (by omega)
      have k6 := hcell 6 (by omega)
      have k7 := hcell 7 (by omega)
      rw [show (q.add (i * 8)).add 0 = q.add (i * 8) from rfl] at k0
      rw [add_fieldv] at k1 k2 k3 k4 k5 k6 k7
      refine ⟨⟨z0, z1, z2, z3, z4, z5, z6, a2, n2, cp2, R⟩, k0, k1, k2, k3, k4, k5, k6, k7, hR, ?_⟩
      show n2 * 24 ≤ 140737488351232
      rcases hdd with ⟨_, rfl⟩ | hdd
      · omega
      · have hle := hel hdd
        have := hw ((el.length + rr.length) * 24) (by
          rw [hd.1]
          simp only [DataW.weights, Try.underlying91]
          refine List.mem_cons_of_mem _ (List.mem_append_left _ (weightsAll_mem (d := D i) (List.mem_map.2 ⟨i, List.mem_range.2 hi, rfl⟩) _ ?_))
          have hD1 : D i = .agg (xs.map (·.1)) := by have := congrArg Prod.fst hD; exact this
          rw [hD1]
          simp only [DataW.weights, Try.underlying98]
          refine DataW.weights_mem_each (j := 7) (t := 36) rfl (d := y7.1) (by rw [List.getElem?_map, hy7]; rfl) _ ?_
          rw [hdd]
          simp only [DataW.weights, Try.underlying36, b165]
          exact List.mem_cons_self ..)
        omega
    obtain ⟨X, hX⟩ := Deep.choose_lt each
    exact ⟨some q, n, cp, X, rfl, by omega, fun _ => ⟨q, rfl, fun i hi => hX i hi⟩⟩
end Go.Proofs.Ytmdfkljmgijdlaa
namespace Go.Proofs.Ytmdfkljmgijdlaa.budgetRuns
open Go.ChangeShapes Go.WideShapes Go.ChangeAt Go.RowKit
open Go.ChangeMaps (open_string shut_string)
set_option linter.unusedVariables false

theorem own : ownKnob Try.prog.godebug = none := by kernel_rfl
theorem laidOut : laidOutB Try.prog = true := by kernel_rfl
set_option maxRecDepth 100000 in
theorem lifted (os : Os) (started : os.Started) (H : Type) (enc : TypeId × Value → H) :
    ReturnsInHanded {} Try.checked os 9 .any (Rows.budgetRunsSpec.pre6 enc Try.prog Try.f9 Rows.budgetRunsRow.domain false) (Rows.budgetRunsSpec.post enc Try.prog Try.f9 false true false false) := by
  refine returnsInHanded_of_change_sized (C := Try.checked) own started (by kernel_rfl) Try.func9
    (ChangeSpec.witness6 (enc := enc) (C := Try.checked) false ⟨#[], #[.agg #[.int .u64 0, .int .u64 0], .agg #[.int .i64 0, .int .i64 0], .slice none 0 0], []⟩ 8 (by kernel_rfl) (by kernel_rfl) (by kernel_rfl) (by kernel_rfl)) ?_
  intro W base args ds gs before hval0 hW hcnd hsz0 _
  have hval : ∀ (j : Nat) t v, Try.f9.params[j]? = some t → args[j]? = some v → Value.okWide Try.prog W .any base t v := hval0
  have hsz : (DataW.weightsEach Try.prog (Try.f9.params.toList ++ Rows.budgetRunsSpec.plain.varTypes Try.prog) (ds ++ gs)).all (· ≤ reachBytes) = true := hsz0
  have hW' := hW
  obtain ⟨p, q, hA0, hV, rfl, hfz, hnd⟩ := hW
  have hA : DataW.TrodAll enc Try.prog W 0 (fun _ => true) true Try.f9.params.toList args.toList ds p := hA0
  rw [Try.params9] at hA hval hsz
  obtain ⟨v0, vs0, d0, ds0, p0, q0, hargs, rfl, rfl, h0, r0⟩ := trodAll_cons hA
  obtain ⟨v1, vs1, d1, ds1, p1, q1, rfl, rfl, rfl, h1, r1⟩ := trodAll_cons r0
  obtain ⟨v2, vs2, d2, ds2, p2, q2, rfl, rfl, rfl, h2, r2⟩ := trodAll_cons r1
  obtain ⟨rfl, rfl, rfl⟩ := trodAll_nil r2
  obtain rfl : args = #[v0, v1, v2] := by cases args; simp_all
  obtain ⟨rfl, rfl⟩ := trodVars_none hV
  have k0 := h0
  have k1 := h1
  have k2 := h2
  have lt0 : ∀ x ∈ p0, x.block < W.heap.size := by obtain ⟨m, hm⟩ := k0; exact DataW.trod_lt m _ _ _ hm
  have lt1 : ∀ x ∈ p1, x.block < W.heap.size := by obtain ⟨m, hm⟩ := k1; exact DataW.trod_lt m _ _ _ hm
  have lt2 : ∀ x ∈ p2, x.block < W.heap.size := by obtain ⟨m, hm⟩ := k2; exact DataW.trod_lt m _ _ _ hm
  obtain ⟨tx, rfl, wt⟩ := open_two Try.underlying89 Try.underlying23 ci89 ci23 (hval 0 89 v0 rfl rfl) h0
  obtain ⟨sx, rfl, _⟩ := open_two Try.underlying90 Try.underlying3 ci90 ci3 (hval 1 90 v1 rfl rfl) h1
  have hw2 : ∀ z ∈ d2.weights Try.prog 91, z ≤ 140737488351232 := fun z hz => by
    have hmem := List.all_eq_true.1 hsz z (DataW.weights_mem_each (j := 2) (t := 91) rfl rfl _ hz)
    simp only [decide_eq_true_eq] at hmem
    exact Nat.le_trans hmem (by decide)
  obtain ⟨a, n, cp, X, rfl, hn, hX⟩ := open_steps (hval 2 91 v2 rfl rfl) h2 hw2
  obtain ⟨T, hT0, hT1⟩ : ∃ T : Nat → Nat, (T 0 : Int) = tx 0 ∧ (T 1 : Int) = tx 1 := by
    have w0 := wt 0 (by omega)
    have w1 := wt 1 (by omega)
    simp [Lit.wf, IntKind.min, IntKind.max, IntKind.signed, IntKind.bits] at w0 w1
    exact ⟨fun i => (tx i).toNat, Int.toNat_of_nonneg w0.1, Int.toNat_of_nonneg w1.1⟩
  clear hA0 hval0 hsz0
  have walk : Calls Try.prog 9 #[.agg #[.int .u64 (tx 0), .int .u64 (tx 1)], .agg #[.int .i64 (sx 0), .int .i64 (sx 1)], .slice a n cp] W fun e w' =>
      e = .returned (.bool true) ∧ Below W.heap.size W w' := by
    rw [← hT0, ← hT1]
    exact runs_walk T sx a n cp X W hX hn
  refine walk.mono fun e W' ⟨he, bel⟩ => ?_
  subst he
  exact ⟨_, rfl, _, _, _, [], _, [], hW', trodAll_mk1 (shut_bool Try.underlying4 _), (trodAll_cons_mk (Below.trod laidOut (by kernel_rfl) (of_decide_eq_true (by kernel_rfl)) k0 bel lt0) (trodAll_cons_mk (Below.trod laidOut (by kernel_rfl) (of_decide_eq_true (by kernel_rfl)) k1 bel lt1) (trodAll_mk1 (Below.trod laidOut (by kernel_rfl) (of_decide_eq_true (by kernel_rfl)) k2 bel lt2)))), rfl, bel.frame _, fun h => by cases h⟩

theorem over : Rows.budgetRunsRow.holds Try.pinned (OpenSpec.ofChange Rows.budgetRunsSpec) :=
  OpenClaim.holds_of_wide 9 Try.f9 rfl rfl rfl rfl rfl rfl rfl ⟨rfl, rfl, rfl, rfl, rfl⟩ rfl rfl rfl rfl rfl (by kernel_rfl) Try.func9 (by kernel_rfl)
    (of_decide_eq_true (by kernel_rfl)) (by unfold Func.isWrapper; first | (rw [if_pos (by decide +kernel)]; kernel_rfl) | (rw [if_neg (by decide +kernel)]; exact ⟨rfl, rfl⟩))
    (fun os started H enc _ => lifted os started H enc)

/-- THE STATEMENT -/
theorem proved : Rows.BudgetRunsSaid := over
#print axioms proved
end Go.Proofs.Ytmdfkljmgijdlaa.budgetRuns
