/- Two budgets made, ours and the document's: the first loop of BudgetRuns. -/
import Derived.Test.YtmdfkljmgijdlaaSl
import Derived.Deep.Cut
namespace Go.Proofs.Ytmdfkljmgijdlaa
open Go.RowKit
set_option linter.unusedVariables false

/-- What New has come to, ours and the document's: none, or a pair. -/
def NW (W : World) (lo hi : Nat) (t : Nat) (s : Int) (pb pm : Option Addr) : Prop :=
  (pb = none ∧ pm = none) ∨ ∃ b g rb sn : Nat, (sn : Int) = s ∧ pb = some ⟨b, 0, none⟩ ∧ pm = some ⟨rb, 0, none⟩ ∧ BG W b g t sn 0 false noneF noneF ∧ MR W rb t sn 0 false none 0 0 (gd []) ∧
    lo ≤ b ∧ b < hi ∧ lo ≤ g ∧ g < hi ∧ lo ≤ rb ∧ rb < hi ∧ rb ≠ b ∧ rb ≠ g
theorem NW.fr {W W' : World} {lo hi t : Nat} {s : Int} {pb pm : Option Addr} (h : NW W lo hi t s pb pm) {q : Nat} (hq : q < lo) (hf : Fr q q W W') : NW W' lo hi t s pb pm := by
  rcases h with h | ⟨b, g, rb, sn, h1, h2, h3, h4, h5, h6, h7, h8, h9, h10, h11, h12, h13⟩
  · exact Or.inl h
  · refine Or.inr ⟨b, g, rb, sn, h1, h2, h3, h4.fr hf (by omega) (by omega) (by omega) (by omega), ?_, h6, h7, h8, h9, h10, h11, h12, h13⟩
    have := (mg_new (Bq := 0) h5)
    have hl := (Array.getElem?_eq_some_iff.1 h5.bud).1
    exact ⟨h5.s1, h5.s2, by rw [hf.block rb hl (by omega) (by omega)]; exact h5.bud, fun q => absurd q (by omega), h5.apart, h5.len, h5.may, h5.range⟩
theorem NW.own {W W' : World} {lo hi t : Nat} {s : Int} {pb pm : Option Addr} (h : NW W lo hi t s pb pm) (hb : Below W.heap.size W W') : NW W' lo hi t s pb pm := by
  rcases h with h | ⟨b, g, rb, sn, h1, h2, h3, h4, h5, h6⟩
  · exact Or.inl h
  · exact Or.inr ⟨b, g, rb, sn, h1, h2, h3, h4.own hb, h5.own hb, h6⟩

/-- The first k are made. -/
def IV (h0 : Nat) (T : Nat → Nat) (S : Nat → Int) (k : Nat) (W : World) : Prop :=
  ∃ (P M : Nat → Option Addr) (LO : Nat → Nat), W.heap[h0]? = some (.cells #[.int .u64 (T 0), .int .u64 (T 1)] 89 (0, 0)) ∧ W.heap[h0 + 1]? = some (.cells #[.int .i64 (S 0), .int .i64 (S 1)] 90 (0, 0)) ∧
    W.heap[h0 + 2]? = some (.cells #[.pointer (P 0), .pointer (P 1)] 92 (0, 0)) ∧ W.heap[h0 + 3]? = some (.cells #[.pointer (M 0), .pointer (M 1)] 94 (0, 0)) ∧
    (∀ j, j < k → NW W (LO j) (LO (j + 1)) (T j) (S j) (P j) (M j) ∧ LO j ≤ LO (j + 1)) ∧ LO 0 = h0 + 4 ∧ LO k ≤ W.heap.size

/-- A step that came in. -/
structure Stp where
  kd : Int
  wh : Bool
  wt : Bool
  ta : Int
  gd : Int
  bd : Int
  wn : Int
  a2 : Option Addr
  n2 : Nat
  cp2 : Nat
  R : Nat → Int × Int × Nat
def StepsIn (w : World) (a : Option Addr) (n : Nat) (X : Nat → Stp) : Prop :=
  0 < n → ∃ p, a = some p ∧ ∀ i, i < n → w.cell? (p.add (i * 8)) = some (.int .i64 (X i).kd) ∧ w.cell? ⟨(p.add (i * 8)).block, (p.add (i * 8)).off + 1, none⟩ = some (.bool (X i).wh) ∧
    w.cell? ⟨(p.add (i * 8)).block, (p.add (i * 8)).off + 2, none⟩ = some (.bool (X i).wt) ∧ w.cell? ⟨(p.add (i * 8)).block, (p.add (i * 8)).off + 3, none⟩ = some (.int .i64 (X i).ta) ∧
    w.cell? ⟨(p.add (i * 8)).block, (p.add (i * 8)).off + 4, none⟩ = some (.int .i64 (X i).gd) ∧ w.cell? ⟨(p.add (i * 8)).block, (p.add (i * 8)).off + 5, none⟩ = some (.int .i64 (X i).bd) ∧
    w.cell? ⟨(p.add (i * 8)).block, (p.add (i * 8)).off + 6, none⟩ = some (.int .i64 (X i).wn) ∧ w.cell? ⟨(p.add (i * 8)).block, (p.add (i * 8)).off + 7, none⟩ = some (.slice (X i).a2 (X i).n2 (X i).cp2) ∧
    RulesIn w (X i).a2 (X i).n2 (X i).R ∧ (X i).n2 * 24 ≤ 140737488351232
theorem StepsIn.below {w w' : World} {a : Option Addr} {n : Nat} {X : Nat → Stp} (h : StepsIn w a n X) (hb : Below w.heap.size w w') : StepsIn w' a n X := by
  intro hn
  obtain ⟨p, hp, h1⟩ := h hn
  refine ⟨p, hp, fun i hi => ?_⟩
  obtain ⟨q0, q1, q2, q3, q4, q5, q6, q7, q8, q9⟩ := h1 i hi
  exact ⟨(hb.cell (block_lt q0)).trans q0, (hb.cell (block_lt q1)).trans q1, (hb.cell (block_lt q2)).trans q2, (hb.cell (block_lt q3)).trans q3, (hb.cell (block_lt q4)).trans q4, (hb.cell (block_lt q5)).trans q5, (hb.cell (block_lt q6)).trans q6, (hb.cell (block_lt q7)).trans q7, q8.below hb, q9⟩

/-- Both budgets of both kinds, two arrays that point to them. -/
structure J2 (w : World) (h0 lo hi : Nat) (B G RB T S : Nat → Nat) (L : Nat → List Nt) (W : World) : Prop where
  s2 : S2 hi W B G RB T S L
  bel : Below w.heap.size w W
  ab : W.heap[h0 + 2]? = some (.cells #[.pointer (some ⟨B 0, 0, none⟩), .pointer (some ⟨B 1, 0, none⟩)] 92 (0, 0))
  am : W.heap[h0 + 3]? = some (.cells #[.pointer (some ⟨RB 0, 0, none⟩), .pointer (some ⟨RB 1, 0, none⟩)] 94 (0, 0))
theorem J2.kp {w : World} {h0 lo hi : Nat} {B G RB T S : Nat → Nat} {L L' : Nat → List Nt} {W W' : World} (h : J2 w h0 lo hi B G RB T S L W) (hs : S2 hi W' B G RB T S L') (hk : Kp lo hi W W') (hl : h0 + 4 ≤ lo) (hh : h0 = w.heap.size) : J2 w h0 lo hi B G RB T S L' W' := by
  have l3 := (Array.getElem?_eq_some_iff.1 h.ab).1
  have l4 := (Array.getElem?_eq_some_iff.1 h.am).1
  exact ⟨hs, hk.below h.bel h.bel.size (by omega), by rw [hk.block _ l3 (Or.inl (by omega))]; exact h.ab, by rw [hk.block _ l4 (Or.inl (by omega))]; exact h.am⟩
theorem J2.own {w : World} {h0 lo hi : Nat} {B G RB T S : Nat → Nat} {L : Nat → List Nt} {W W' : World} (h : J2 w h0 lo hi B G RB T S L W) (hb : Below W.heap.size W W') : J2 w h0 lo hi B G RB T S L W' := by
  have l3 := (Array.getElem?_eq_some_iff.1 h.ab).1
  have l4 := (Array.getElem?_eq_some_iff.1 h.am).1
  exact ⟨h.s2.own hb, h.bel.trans (hb.mono h.bel.size), by rw [hb.block _ l3]; exact h.ab, by rw [hb.block _ l4]; exact h.am⟩

/-- What the plan is: none, by its code; or one. -/
theorem plan_cases (t : Nat) (s : Int) : (∃ c : Int, (c = 1 ∨ c = 260) ∧ ((¬ (1 ≤ s ∧ s ≤ 1024) ∧ c = 1) ∨ ((1 ≤ s ∧ s ≤ 1024) ∧ c = 260 ∧ ((FloatKind.f64.format.order t 0 == some .gt) = false ∨ (FloatKind.f64.format.order t 4607182418800017408 == some .lt) = false)))) ∨
    ∃ sn : Nat, (sn : Int) = s ∧ 1 ≤ sn ∧ sn ≤ 1024 ∧ (FloatKind.f64.format.order t 0 == some .gt) = true ∧ (FloatKind.f64.format.order t 4607182418800017408 == some .lt) = true := by
  by_cases h : 1 ≤ s ∧ s ≤ 1024
  · rcases h0 : (FloatKind.f64.format.order t 0 == some .gt) with _ | _
    · exact Or.inl ⟨260, Or.inr rfl, Or.inr ⟨h, rfl, Or.inl rfl⟩⟩
    · rcases h1 : (FloatKind.f64.format.order t 4607182418800017408 == some .lt) with _ | _
      · exact Or.inl ⟨260, Or.inr rfl, Or.inr ⟨h, rfl, Or.inr rfl⟩⟩
      · exact Or.inr ⟨s.toNat, by omega, by omega, by omega, rfl, rfl⟩
  · exact Or.inl ⟨1, Or.inl rfl, Or.inl ⟨h, rfl⟩⟩

theorem IV.cells {h0 k : Nat} {T : Nat → Nat} {S : Nat → Int} {W : World} (h : IV h0 T S k W) (hk : k < 2) : W.cell? ⟨h0, k, none⟩ = some (.int .u64 (T k : Nat)) ∧ W.cell? ⟨h0 + 1, k, none⟩ = some (.int .i64 (S k)) ∧
    (∃ x, W.cell? ⟨h0 + 2, k, none⟩ = some x) ∧ (∃ x, W.cell? ⟨h0 + 3, k, none⟩ = some x) ∧ W.frozen? ⟨h0 + 2, k, none⟩ = false ∧ W.frozen? ⟨h0 + 3, k, none⟩ = false := by
  obtain ⟨P, M, LO, a1, a2, a3, a4, _⟩ := h
  have q : k = 0 ∨ k = 1 := by omega
  rcases q with rfl | rfl
  · exact ⟨cell_of_block a1 0, cell_of_block a2 0, ⟨_, cell_of_block a3 0⟩, ⟨_, cell_of_block a4 0⟩, frozen_of_block a3 0, frozen_of_block a4 0⟩
  · exact ⟨cell_of_block a1 1, cell_of_block a2 1, ⟨_, cell_of_block a3 1⟩, ⟨_, cell_of_block a4 1⟩, frozen_of_block a3 1, frozen_of_block a4 1⟩

theorem NW.mono {W : World} {lo lo' hi t : Nat} {s : Int} {pb pm : Option Addr} (h : NW W lo hi t s pb pm) (hl : lo' ≤ lo) : NW W lo' hi t s pb pm := by
  rcases h with h | ⟨b, g, rb, sn, h1, h2, h3, h4, h5, h6, h7, h8, h9, h10, h11, h12⟩
  · exact Or.inl h
  · exact Or.inr ⟨b, g, rb, sn, h1, h2, h3, h4, h5, by omega, h7, by omega, h9, by omega, h11, h12⟩
theorem IV.step {h0 k : Nat} {T : Nat → Nat} {S : Nat → Int} {W W1 : World} {pb pm : Option Addr} (h : IV h0 T S k W) (hk : k < 2) (hb : Below W.heap.size W W1) (hn : NW W1 W.heap.size W1.heap.size (T k) (S k) pb pm) :
    IV h0 T S (k + 1) ((W1.setCell ⟨h0 + 2, k, none⟩ (.pointer pb)).setCell ⟨h0 + 3, k, none⟩ (.pointer pm)) := by
  obtain ⟨P, M, LO, a1, a2, a3, a4, a5, a6, a7⟩ := h
  have l1 := (Array.getElem?_eq_some_iff.1 a1).1
  have l2 := (Array.getElem?_eq_some_iff.1 a2).1
  have l3 := (Array.getElem?_eq_some_iff.1 a3).1
  have l4 := (Array.getElem?_eq_some_iff.1 a4).1
  have b1 := (hb.block h0 l1).trans a1
  have b2 := (hb.block _ l2).trans a2
  have b3 := (hb.block _ l3).trans a3
  have b4 := (hb.block _ l4).trans a4
  have f : Fr (h0 + 2) (h0 + 3) W1 ((W1.setCell ⟨h0 + 2, k, none⟩ (.pointer pb)).setCell ⟨h0 + 3, k, none⟩ (.pointer pm)) := ((Fr.refl _ _ _).setB _ _).setG _ _
  have f2 : Fr (h0 + 2) (h0 + 2) W1 (W1.setCell ⟨h0 + 2, k, none⟩ (.pointer pb)) := (Fr.refl _ _ _).setB _ _
  have f3 : Fr (h0 + 3) (h0 + 3) (W1.setCell ⟨h0 + 2, k, none⟩ (.pointer pb)) ((W1.setCell ⟨h0 + 2, k, none⟩ (.pointer pb)).setCell ⟨h0 + 3, k, none⟩ (.pointer pm)) := (Fr.refl _ _ _).setB _ _
  have hlo : ∀ j, j ≤ k → h0 + 4 ≤ LO j := by
    intro j hj
    have q : j = 0 ∨ j = 1 := by omega
    rcases q with rfl | rfl
    · omega
    · have := (a5 0 (by omega)).2; rw [show (0 : Nat) + 1 = 1 from rfl] at this; omega
  refine ⟨fun j => if j = k then pb else P j, fun j => if j = k then pm else M j, fun j => if j ≤ k then LO j else W1.heap.size, ?_, ?_, ?_, ?_, ?_, ?_, ?_⟩
  · rw [f.block _ (Array.getElem?_eq_some_iff.1 b1).1 (by omega) (by omega)]; exact b1
  · rw [f.block _ (Array.getElem?_eq_some_iff.1 b2).1 (by omega) (by omega)]; exact b2
  · rw [Below.heap_setCell _ _ _ _ (by simp)]
    rw [heap_setCell_same W1 (h0 + 2) k _ 92 _ b3]
    have q : k = 0 ∨ k = 1 := by omega
    rcases q with rfl | rfl <;> rfl
  · have b4' : (W1.setCell ⟨h0 + 2, k, none⟩ (.pointer pb)).heap[h0 + 3]? = some (.cells #[.pointer (M 0), .pointer (M 1)] 94 (0, 0)) := by rw [Below.heap_setCell _ _ _ _ (by simp)]; exact b4
    rw [heap_setCell_same _ (h0 + 3) k _ 94 _ b4']
    have q : k = 0 ∨ k = 1 := by omega
    rcases q with rfl | rfl <;> rfl
  · intro j hj
    by_cases e : j = k
    · subst e
      simp only [if_pos, Nat.le_refl, if_neg (show ¬ (j + 1 ≤ j) by omega)]
      have hb' := hb.size
      exact ⟨((hn.mono (by omega)).fr (by have := hlo j (by omega); omega) f2).fr (by have := hlo j (by omega); omega) f3, by omega⟩
    · simp only [if_neg e, if_pos (show j ≤ k by omega), if_pos (show j + 1 ≤ k by omega)]
      obtain ⟨q1, q2⟩ := a5 j (by omega)
      exact ⟨((q1.own hb).fr (by have := hlo j (by omega); omega) f2).fr (by have := hlo j (by omega); omega) f3, q2⟩
  · simp only [if_pos (Nat.zero_le k)]; exact a6
  · simp only [if_neg (show ¬ (k + 1 ≤ k) by omega)]; exact f.size

set_option maxRecDepth 100000 in
set_option maxHeartbeats 80000000 in
theorem runs_walk (T : Nat → Nat) (S : Nat → Int) (a : Option Addr) (n cp : Nat) (X : Nat → Stp) (w : World) (HX : StepsIn w a n X) (hn : n ≤ 9223372036854775807) :
    Calls Try.prog 9 #[.agg #[.int .u64 (T 0), .int .u64 (T 1)], .agg #[.int .i64 (S 0), .int .i64 (S 1)], .slice a n cp] w fun e w' => e = .returned (.bool true) ∧ Below w.heap.size w w' := by
  have h19 := frombits_run
  go_enter Try.func9, Try.ntmps9
  go_wp2_with fail
  obtain ⟨h0, hh0⟩ : ∃ h0, h0 = w.heap.size := ⟨_, rfl⟩
  have HI := Lib.hid (show IV h0 T S 0 ((((w.alloc (Obj.cells #[Value.int IntKind.u64 ↑(T 0), Value.int IntKind.u64 ↑(T 1)] 89)).alloc (Obj.cells #[Value.int IntKind.i64 (S 0), Value.int IntKind.i64 (S 1)] 90)).alloc (Obj.cells #[Value.pointer none, Value.pointer none] 92)).alloc (Obj.cells #[Value.pointer none, Value.pointer none] 94)) from by
    subst hh0
    refine ⟨fun _ => none, fun _ => none, fun _ => w.heap.size + 4, ?_, ?_, ?_, ?_, fun j hj => by omega, rfl, by simp⟩
    · rw [Below.heap_alloc _ _ _ (by first | (simp; done) | (simp; omega)), Below.heap_alloc _ _ _ (by first | (simp; done) | (simp; omega)), Below.heap_alloc _ _ _ (by simp)]; exact alloc_at _ _
    · rw [Below.heap_alloc _ _ _ (by first | (simp; done) | (simp; omega)), Below.heap_alloc _ _ _ (by simp)]; exact alloc_at' _ _ _ (by simp)
    · rw [Below.heap_alloc _ _ _ (by simp)]; exact alloc_at' _ _ _ (by simp)
    · exact alloc_at' _ _ _ (by simp))
  have hbel : Below w.heap.size w ((((w.alloc (Obj.cells #[Value.int IntKind.u64 ↑(T 0), Value.int IntKind.u64 ↑(T 1)] 89)).alloc (Obj.cells #[Value.int IntKind.i64 (S 0), Value.int IntKind.i64 (S 1)] 90)).alloc (Obj.cells #[Value.pointer none, Value.pointer none] 92)).alloc (Obj.cells #[Value.pointer none, Value.pointer none] 94)) :=
    ((((Below.refl _ _).alloc (Nat.le_refl _) _).alloc (by simp) _).alloc (by first | (simp; done) | (simp; omega)) _).alloc (by first | (simp; done) | (simp; omega)) _
  rw [← hh0]
  have HH := Lib.hid hh0
  clear hh0
  generalize (((w.alloc (Obj.cells #[Value.int IntKind.u64 ↑(T 0), Value.int IntKind.u64 ↑(T 1)] 89)).alloc (Obj.cells #[Value.int IntKind.i64 (S 0), Value.int IntKind.i64 (S 1)] 90)).alloc (Obj.cells #[Value.pointer none, Value.pointer none] 92)).alloc (Obj.cells #[Value.pointer none, Value.pointer none] 94) = w1 at *
  go_loopw [9] (fun i W => ∃ k : Nat, i = .int .i64 k ∧ k ≤ 2 ∧ IV h0 T S k W ∧ Below w.heap.size w W) (fun i _ => 2 - (intOf i).toNat)
  case atStart => exact ⟨0, rfl, by omega, HI.out, hbel⟩
  case round =>
    clear HI hbel
    obtain ⟨k, rfl, hk, hI, hbel⟩ := hrel
    by_cases hk2 : k < 2
    · obtain ⟨c1, c2, ⟨x1, c3⟩, ⟨x2, c4⟩, z1, z2⟩ := hI.cells hk2
      have i1 : (k : Int) < 2 := by omega
      have i0 : (0 : Int) ≤ (k : Int) := by omega
      rcases plan_cases (T k) (S k) with ⟨c, hc, hbad⟩ | ⟨sn, hsn, hs1, hs2, g1, g2⟩
      · have K1 := Lib.hid (bnew_bad (T k) (S k) c)
        have K2 := Lib.hid (rnew_bad (T k) (S k) c)
        have HBad := Lib.hid hbad
        have HI := Lib.hid hI
        clear hbad hI
        go_wp2_with fail
        refine (K1.out _ HBad.out).mono ?_
        rintro e w2 ⟨rfl, hw⟩
        obtain rfl := hw
        go_wp2_with fail
        refine (K2.out _ HBad.out).mono ?_
        rintro e w2 ⟨rfl, hw⟩
        obtain rfl := hw
        clear K1 K2
        have hI2 := Lib.hid (HI.out.step hk2 (Below.refl _ _) (Or.inl ⟨rfl, rfl⟩))
        have hcc : (c != c) = false := by simp
        have hbl := HI.out.cells hk2
        have hh2 := Lib.hid hbel
        clear HBad HI hbel hbl
        go_wp2_with fail
        go_roundw
        case rel => exact ⟨k + 1, by go_num, by omega, hI2.out, (hh2.out.setCell (by have := HH.out; show w.heap.size ≤ h0 + 2; omega) _).setCell (by have := HH.out; show w.heap.size ≤ h0 + 3; omega) _⟩
        case measure => simp [intOf]; omega
      · have K1 := Lib.hid (new_budget (T k) sn hs1 hs2 g1 g2)
        have K2 := Lib.hid (rnew_any (T k) sn hs1 hs2 g1 g2)
        have HI := Lib.hid hI
        have HN := Lib.hid hsn
        rw [← hsn] at c2
        have hcl := HI.out
        clear hI hsn g1 g2 hcl
        have hll : h0 + 3 < wr.heap.size := block_lt c4
        go_wp2_with fail
        refine (K1.out _).mono ?_
        rintro e w2 ⟨b, g, rfl, hB, hb1, hg1, bel1⟩
        have HB := Lib.hid hB
        have hsz := bel1.size
        have d2 := (bel1.cell (p := ⟨h0 + 1, k, none⟩) (by show h0 + 1 < _; omega)).trans c2
        have HBel := Lib.hid bel1
        clear K1 hB bel1
        go_wp2_with fail
        refine (K2.out _).mono ?_
        rintro e w3 ⟨rb, rfl, hM, hr1, bel2⟩
        have hsz2 := bel2.size
        have bb := HBel.out.trans (bel2.mono hsz)
        have e3 := (bb.cell (p := ⟨h0 + 2, k, none⟩) (by show h0 + 2 < _; omega)).trans c3
        have e4 := (bb.cell (p := ⟨h0 + 3, k, none⟩) (by show h0 + 3 < _; omega)).trans c4
        have y1 := (bb.frozen (p := ⟨h0 + 2, k, none⟩) (by show h0 + 2 < _; omega)).trans z1
        have y2 := (bb.frozen (p := ⟨h0 + 3, k, none⟩) (by show h0 + 3 < _; omega)).trans z2
        have hI2 := Lib.hid (HI.out.step hk2 bb (Or.inr ⟨b, g, rb, sn, HN.out, rfl, rfl, HB.out.own bel2, hM, by
          obtain ⟨q1, q2, q3⟩ := HB.out.lt
          have q4 := (Array.getElem?_eq_some_iff.1 hM.bud).1
          omega⟩))
        have hh2 := Lib.hid (hbel.trans (bb.mono hbel.size))
        clear K2 HB HBel HI HN hM bel2 bb hbel c1 c2 c3 c4 z1 z2 d2
        go_wp2_with fail
        go_roundw
        case rel => exact ⟨k + 1, by go_num, by omega, hI2.out, (hh2.out.setCell (by have := HH.out; show w.heap.size ≤ h0 + 2; omega) _).setCell (by have := HH.out; show w.heap.size ≤ h0 + 3; omega) _⟩
        case measure => simp [intOf]; omega
    · obtain rfl : k = 2 := by omega
      obtain ⟨P, M, LO, a1, a2, a3, a4, a5, a6, a7⟩ := hI
      obtain ⟨n0, n0'⟩ := a5 0 (by omega)
      obtain ⟨n1, n1'⟩ := a5 1 (by omega)
      rw [show (0 : Nat) + 1 = 1 from rfl] at n0 n0'
      rw [show (1 : Nat) + 1 = 2 from rfl] at n1 n1'
      clear a5 hk hk2
      have A3 := Lib.hid a3
      have A4 := Lib.hid a4
      have HLO := Lib.hid (And.intro a6 a7)
      clear a1 a2 a4 a6 a7
      rcases n0 with ⟨e1, e2⟩ | ⟨b0, g0, r0, s0, hs0, e1, e2, hB0, hM0, q1, q2, q3, q4, q5, q6, q7, q8⟩
      · have c0 := cell_of_block a3 0
        have c1 := cell_of_block a3 1
        rw [e1] at c0
        have HB := Lib.hid hbel
        clear a3 n1 n0' n1' e1 e2 A3 A4 HLO hbel
        go_wp2
        go_ret
        exact ⟨rfl, HB.out⟩
      · rcases n1 with ⟨e3, e4⟩ | ⟨b1, g1, r1, s1, hs1, e3, e4, hB1, hM1, p1, p2, p3, p4, p5, p6, p7, p8⟩
        · have c0 := cell_of_block a3 0
          have c1 := cell_of_block a3 1
          rw [e1] at c0
          rw [e3] at c1
          have HB := Lib.hid hbel
          clear a3 n0' n1' e1 e2 e3 e4 A3 A4 HLO hbel hB0 hM0
          go_wp2
          go_ret
          exact ⟨rfl, HB.out⟩
        · have c0 := cell_of_block a3 0
          have c1 := cell_of_block a3 1
          rw [e1] at c0
          rw [e3] at c1
          obtain ⟨B, hB⟩ : ∃ B : Nat → Nat, B = fun k => if k = 0 then b0 else b1 := ⟨_, rfl⟩
          obtain ⟨G, hG⟩ : ∃ G : Nat → Nat, G = fun k => if k = 0 then g0 else g1 := ⟨_, rfl⟩
          obtain ⟨RB, hRB⟩ : ∃ RB : Nat → Nat, RB = fun k => if k = 0 then r0 else r1 := ⟨_, rfl⟩
          obtain ⟨SS, hSS⟩ : ∃ SS : Nat → Nat, SS = fun k => if k = 0 then s0 else s1 := ⟨_, rfl⟩
          obtain ⟨lo, hlo⟩ : ∃ lo, lo = LO 0 := ⟨_, rfl⟩
          obtain ⟨hi, hhi⟩ : ∃ hi, hi = LO 2 := ⟨_, rfl⟩
          have H6 : Six lo hi B G RB := by
            obtain ⟨d1, d2, d3⟩ := hB0.lt
            obtain ⟨d4, d5, d6⟩ := hB1.lt
            subst hB hG hRB hlo hhi
            constructor
            · intro k hk
              have q : k = 0 ∨ k = 1 := by omega
              rcases q with rfl | rfl <;> simp <;> omega
            · intro k hk j hj
              have q : k = 0 ∨ k = 1 := by omega
              have q' : j = 0 ∨ j = 1 := by omega
              rcases q with rfl | rfl <;> rcases q' with rfl | rfl <;> simp <;> omega
          have HJ0 : J2 w h0 lo hi B G RB T SS (fun _ => []) wr := by
            have hl7 := HLO.out.2
            refine ⟨⟨fun k hk => ?_, by rw [hhi]; exact hl7⟩, hbel, ?_, ?_⟩
            · have q : k = 0 ∨ k = 1 := by omega
              subst hB hG hRB hSS
              rcases q with rfl | rfl
              · exact ⟨0, false, hB0, mg_new hM0⟩
              · exact ⟨0, false, hB1, mg_new hM1⟩
            · rw [A3.out, e1, e3, hB]; rfl
            · rw [A4.out, e2, e4, hRB]; rfl
          have HJ := Lib.hid HJ0
          have h6 := Lib.hid H6
          have hlo4 : h0 + 4 ≤ lo := by rw [hlo, HLO.out.1]; omega
          have HLo := Lib.hid hlo4
          clear hB0 hM0 hB1 hM1 a3 A3 A4 HLO q1 q2 q3 q4 q5 q6 q7 q8 p1 p2 p3 p4 p5 p6 p7 p8 e1 e2 e3 e4 hB hG hRB hSS hlo hhi n0' n1' hbel hs0 hs1 hlo4 HJ0 H6
          go_wp2_with fail
          go_loopw [15] (fun i W => ∃ k : Nat, i = .int .i64 k ∧ k ≤ n ∧ k ≤ 300 ∧ ∃ L : Nat → List Nt, (∀ j, j < 2 → (L j).length ≤ 5000 + k) ∧ J2 w h0 lo hi B G RB T SS L W) (fun i _ => n - (intOf i).toNat)
          case atStart => exact ⟨0, rfl, by omega, by omega, fun _ => [], fun j _ => by simp, HJ.out⟩
          case round =>
            clear HJ c0 c1
            obtain ⟨k, rfl, hk, hk3, L, hL, hJ⟩ := hrel
            by_cases hlt : k < n ∧ k < 300
            · obtain ⟨hlt, hlt3⟩ := hlt
              have i1 : (k : Int) < (n : Int) := by omega
              have i2 : (k : Int) < 300 := by omega
              obtain ⟨p, rfl, hD0⟩ := HX (by omega)
              obtain ⟨_, _, _, _, _, _, _, _, f8, _⟩ := hD0 k hlt
              obtain ⟨p', hp', hD⟩ := (HX.below (hJ.bel)) (by omega)
              obtain rfl : p = p' := by cases hp'; rfl
              obtain ⟨f0, f1, f2, f3, f4, f5, f6, f7, _, f9⟩ := hD k hlt
              generalize X k = x at *
              obtain ⟨kd, wh, wt, ta, gdd, bd, wn, a2, n2, cp2, R⟩ := x
              simp only at f0 f1 f2 f3 f4 f5 f6 f7 f8 f9
              have HF8 := Lib.hid f8
              have HJ := Lib.hid hJ
              have HL := Lib.hid hL
              clear hD hD0 hp' f8 hJ hL
              have hhi := HJ.out.s2.hw
              have hlo1 := HLo.out
              have hal : Below wr.heap.size wr (wr.alloc (.cells (stepV kd wh wt ta gdd bd wn a2 n2 cp2) 98)) := (Below.refl _ _).alloc (Nat.le_refl _) _
              have HJ1 := Lib.hid (HJ.out.own hal)
              have HW1 := Lib.hid (show (wr.alloc (.cells (stepV kd wh wt ta gdd bd wn a2 n2 cp2) 98)).heap[wr.heap.size]? = some (.cells (stepV kd wh wt ta gdd bd wn a2 n2 cp2) 98 (0, 0)) from alloc_at _ _)
              have hs1 : wr.heap.size < (wr.alloc (.cells (stepV kd wh wt ta gdd bd wn a2 n2 cp2) 98)).heap.size := by simp
              have HRw := HF8
              clear hal HF8 HJ
              unfold stepV at HJ1 HW1 hs1
              cases wh
              · cases wt
                · by_cases e1 : kd = 1
                  · subst e1
                    go_wp2_with fail
                    clear f0 f1 f2 f3 f4 f5 f6 f7
                    obtain ⟨b8, hb8⟩ : ∃ b8, b8 = wr.heap.size := ⟨_, rfl⟩
                    rw [← hb8] at HW1 hs1 hhi ⊢
                    clear hb8
                    generalize wr.alloc _ = wx at *
                    have H8 := Lib.hid HW1.out
                    have c0 := cell_of_block H8.out 3
                    have c1 := cell_of_block H8.out 4
                    have c2 := cell_of_block H8.out 5
                    have c3 := cell_of_block HJ1.out.am 0
                    clear HW1
                    go_still_tail 10, (by kernel_rfl)
                    change wpList _ _ _ _ _ wx.drew
                    have K1 := note_m h6.out (HJ1.out.s2.drewN 1) 0 (by omega) ta gdd bd (by have := HL.out 0 (by omega); omega)
                    go_wp2_with fail
                    refine K1.mono ?_
                    rintro e w3 ⟨c, rfl, kp, hc⟩
                    clear K1
                    have hcc : (c != c) = false := by simp
                    have kp0 : Kp lo hi wx w3 := (Kp.ofBelow (below_dN (n := 1) (Below.refl _ _))).trans kp
                    have HELD := Lib.hid (show ∀ w', Kp lo hi wx w' → (Kp lo hi wx w' ∧ w'.cell? ⟨b8, 3, none⟩ = some (.int .i64 ta) ∧ w'.cell? ⟨b8, 4, none⟩ = some (.int .i64 gdd) ∧ w'.cell? ⟨b8, 5, none⟩ = some (.int .i64 bd) ∧ w'.cell? ⟨h0 + 2, 0, none⟩ = some (.pointer (some ⟨B 0, 0, none⟩))) from fun w' hk => by
                      have e1 := (hk.block b8 hs1 (Or.inr hhi)).trans H8.out
                      have e2 := (hk.block (h0 + 2) (block_lt (cell_of_block HJ1.out.ab 0)) (Or.inl (by omega))).trans HJ1.out.ab
                      exact ⟨hk, cell_of_block e1 3, cell_of_block e1 4, cell_of_block e1 5, cell_of_block e2 0⟩)
                    have hk0 : Kp lo hi wx w3.drew := kp0.drewN 1
                    have KP := Lib.hid hk0
                    have HC1 := Lib.hid (hc 1)
                    obtain ⟨_, y0, y1, y2, y3⟩ := HELD.out _ kp0
                    clear hc kp kp0 hk0 c0 c1 c2 c3
                    go_wp2_with fail
                    go_region_held3 (fun w' => Kp lo hi wx w' ∧ w'.cell? ⟨b8, 3, none⟩ = some (.int .i64 ta) ∧ w'.cell? ⟨b8, 4, none⟩ = some (.int .i64 gdd) ∧ w'.cell? ⟨b8, 5, none⟩ = some (.int .i64 bd) ∧ w'.cell? ⟨h0 + 2, 0, none⟩ = some (.pointer (some ⟨B 0, 0, none⟩)))
                      (first | with_reducible exact HELD.out _ KP.out | exact HELD.out _ ((Kp.ofBelow (below_dN (n := 1) (Below.refl _ _))).trans (by assumption)))
                      (first | (go_at_call 20; refine (HC1.out).mono ?_; rintro e w4 ⟨rfl, kp2, L2, hs2, hl2⟩))
                    rename_i hS
                    have kpx := and_l hS
                    have hlen : ∀ j, j < 2 → (up L 0 L2 j).length ≤ 5000 + (k + 1) := fun j hj => by
                      have q := HL.out j hj
                      unfold up
                      split
                      · subst_vars; omega
                      · omega
                    clear hS kp2 hl2 y0 y1 y2 y3 KP HC1 HELD hcc
                    have J4 := Lib.hid (HJ1.out.kp hs2 kpx HLo.out HH.out)
                    have H84 := Lib.hid ((kpx.block b8 hs1 (Or.inr hhi)).trans H8.out)
                    have hcell := fun i => cell_of_block H84.out i
                    have d0 := cell_of_block J4.out.ab 0
                    have d1 := cell_of_block J4.out.am 0
                    have LN := Lib.hid hlen
                    clear hlen hs2
                    go_wp2_with fail
                    go_still_tail 7, (by kernel_rfl)
                    change wpList _ _ _ _ _ w4.drew
                    have J5 := Lib.hid (J4.out.own (below_dN (n := 1) (Below.refl _ _)))
                    have HR5 := HRw.out.below (w' := w4.drewN 1) J5.out.bel
                    obtain ⟨nw, mm, hB5, hM5⟩ := J5.out.s2.pr 0 (by omega)
                    have KA := Lib.hid (asked_any hB5 hM5 1 false false ta gdd bd wn a2 n2 cp2 R HR5 f9)
                    have KA2 := Lib.hid (show Calls Try.prog 49 #[.pointer (some ⟨B 0, 0, none⟩), .pointer (some ⟨RB 0, 0, none⟩), .agg #[.int .i64 1, .bool false, .bool false, .int .i64 ta, .int .i64 gdd, .int .i64 bd, .int .i64 wn, .slice a2 n2 cp2]] w4.drew fun e w' => e = .returned (.bool true) ∧ Below w4.drew.heap.size w4.drew w' from KA.out)
                    clear hB5 hM5 HR5 KA hcell d0 d1
                    go_wp2_with fail
                    refine KA2.out.mono ?_
                    rintro e w9 ⟨rfl, hb9⟩
                    have J6 := Lib.hid (J5.out.own hb9)
                    clear KA2 hb9 J5 J4 H84
                    go_wp2_with fail
                    go_roundw
                    case rel => (repeat apply Exists.intro); exact ⟨⟨k + 1, by go_num, by omega, by omega, up L 0 L2, LN.out, J6.out⟩, rfl⟩
                    case measure => simp [intOf]; omega
                  · by_cases e2 : kd = 2
                    · subst e2
                      have i3 : ((2 : Int) == 1) = false := rfl
                      go_wp2_with fail
                      clear f0 f1 f2 f3 f4 f5 f6 f7
                      obtain ⟨b8, hb8⟩ : ∃ b8, b8 = wr.heap.size := ⟨_, rfl⟩
                      rw [← hb8] at HW1 hs1 hhi ⊢
                      clear hb8
                      generalize wr.alloc _ = wx at *
                      have H8 := Lib.hid HW1.out
                      have c3 := cell_of_block HJ1.out.am 0
                      have c4 := cell_of_block HJ1.out.am 1
                      clear HW1
                      go_still_tail 6, (by kernel_rfl)
                      change wpList _ _ _ _ _ wx.drew
                      have K1 := merge_m h6.out (HJ1.out.s2.drewN 1) 0 1 (by omega) (by omega) (by have := HL.out 0 (by omega); omega) (by have := HL.out 1 (by omega); omega)
                      go_wp2_with fail
                      refine K1.mono ?_
                      rintro e w3 ⟨c, rfl, kp, hc⟩
                      clear K1
                      have hcc : (c != c) = false := by simp
                      have kp0 : Kp lo hi wx w3 := (Kp.ofBelow (below_dN (n := 1) (Below.refl _ _))).trans kp
                      have HELD := Lib.hid (show ∀ w', Kp lo hi wx w' → (Kp lo hi wx w' ∧ w'.cell? ⟨h0 + 2, 0, none⟩ = some (.pointer (some ⟨B 0, 0, none⟩)) ∧ w'.cell? ⟨h0 + 2, 1, none⟩ = some (.pointer (some ⟨B 1, 0, none⟩))) from fun w' hk => by
                        have e2 := (hk.block (h0 + 2) (block_lt (cell_of_block HJ1.out.ab 0)) (Or.inl (by omega))).trans HJ1.out.ab
                        exact ⟨hk, cell_of_block e2 0, cell_of_block e2 1⟩)
                      have hk0 : Kp lo hi wx w3.drew := kp0.drewN 1
                      have KP := Lib.hid hk0
                      have HC1 := Lib.hid (hc 1)
                      obtain ⟨_, y0, y1⟩ := HELD.out _ kp0
                      clear hc kp kp0 hk0 c3 c4
                      go_wp2_with fail
                      go_region_held3 (fun w' => Kp lo hi wx w' ∧ w'.cell? ⟨h0 + 2, 0, none⟩ = some (.pointer (some ⟨B 0, 0, none⟩)) ∧ w'.cell? ⟨h0 + 2, 1, none⟩ = some (.pointer (some ⟨B 1, 0, none⟩)))
                        (first | with_reducible exact HELD.out _ KP.out | exact HELD.out _ ((Kp.ofBelow (below_dN (n := 1) (Below.refl _ _))).trans (by assumption)))
                        (first | (go_at_call 36; refine (HC1.out).mono ?_; rintro e w4 ⟨rfl, kp2, L2, hs2, hl2⟩))
                      rename_i hS
                      have kpx := and_l hS
                      clear hS kp2 y0 y1 KP HC1 HELD hcc
                      have J4 := Lib.hid (HJ1.out.kp hs2 kpx HLo.out HH.out)
                      have H84 := Lib.hid ((kpx.block b8 hs1 (Or.inr hhi)).trans H8.out)
                      have d1 := cell_of_block J4.out.am 0
                      obtain ⟨nw4, mm4, hB4, a4, cp4, hM4, _⟩ := hs2.pr 0 (by omega)
                      have d2 := cell_of_block hM4.bud 2
                      have hul : up L 0 L2 0 = L2 := up_self _ _ _
                      unfold mrV at d2
                      rw [hul] at d2
                      clear hB4 hM4 hul
                      have HS2 := Lib.hid hs2
                      clear hs2
                      by_cases hbig : 5000 < L2.length
                      · have hb2 : (5000 : Int) < (L2.length : Int) := by omega
                        have hcell := fun i => cell_of_block H84.out i
                        have g0 := cell_of_block J4.out.ab 0
                        have g1 := cell_of_block J4.out.ab 1
                        have g2 := cell_of_block J4.out.am 0
                        have g3 := cell_of_block J4.out.am 1
                        have HR5 := HRw.out.below J4.out.bel
                        obtain ⟨nw, mm, hB5, hM5⟩ := J4.out.s2.pr 0 (by omega)
                        have KA2 := Lib.hid (asked_any hB5 hM5 2 false false ta gdd bd wn a2 n2 cp2 R HR5 f9)
                        unfold stepV at KA2
                        clear hB5 hM5 HR5 hl2
                        go_wp2_with fail
                        refine KA2.out.mono ?_
                        rintro e w9 ⟨rfl, hb9⟩
                        have J6 := Lib.hid (J4.out.own hb9)
                        have H86 := Lib.hid ((hb9.block b8 (block_lt (cell_of_block H84.out 0))).trans H84.out)
                        clear KA2 hb9 J4 H84 hcell g0 g1 g2 g3 d1 d2
                        have hcell := fun i => cell_of_block H86.out i
                        have g0 := cell_of_block J6.out.ab 0
                        have g1 := cell_of_block J6.out.ab 1
                        have g2 := cell_of_block J6.out.am 0
                        have g3 := cell_of_block J6.out.am 1
                        have HR5 := HRw.out.below J6.out.bel
                        obtain ⟨nw, mm, hB5, hM5⟩ := J6.out.s2.pr 1 (by omega)
                        have KA2 := Lib.hid (asked_any hB5 hM5 2 false false ta gdd bd wn a2 n2 cp2 R HR5 f9)
                        unfold stepV at KA2
                        clear hB5 hM5 HR5
                        go_wp2_with fail
                        refine KA2.out.mono ?_
                        rintro e w10 ⟨rfl, hb10⟩
                        have bel10 := Lib.hid (J6.out.own hb10).bel
                        clear KA2 hb10 hcell g0 g1 g2 g3
                        go_wp2
                        go_ret
                        exact ⟨rfl, bel10.out⟩
                      · have hb2 : ¬ ((5000 : Int) < (L2.length : Int)) := by omega
                        have hlen : ∀ j, j < 2 → (up L 0 L2 j).length ≤ 5000 + (k + 1) := fun j hj => by
                          have q := HL.out j hj
                          unfold up
                          split
                          · subst_vars; omega
                          · omega
                        have hs2 := HS2.out
                        clear hl2 J4 H84 hbig HS2
                        have J4 := Lib.hid (HJ1.out.kp hs2 kpx HLo.out HH.out)
                        have H84 := Lib.hid ((kpx.block b8 hs1 (Or.inr hhi)).trans H8.out)
                        have hcell := fun i => cell_of_block H84.out i
                        have d0 := cell_of_block J4.out.ab 0
                        have d1 := cell_of_block J4.out.am 0
                        have LN := Lib.hid hlen
                        clear hlen hs2
                        go_wp2_with fail
                        go_still_tail 7, (by kernel_rfl)
                        change wpList _ _ _ _ _ w4.drew
                        have J5 := Lib.hid (J4.out.own (below_dN (n := 1) (Below.refl _ _)))
                        have HR5 := HRw.out.below (w' := w4.drewN 1) J5.out.bel
                        obtain ⟨nw, mm, hB5, hM5⟩ := J5.out.s2.pr 0 (by omega)
                        have KA := Lib.hid (asked_any hB5 hM5 2 false false ta gdd bd wn a2 n2 cp2 R HR5 f9)
                        have KA2 := Lib.hid (show Calls Try.prog 49 #[.pointer (some ⟨B 0, 0, none⟩), .pointer (some ⟨RB 0, 0, none⟩), .agg #[.int .i64 2, .bool false, .bool false, .int .i64 ta, .int .i64 gdd, .int .i64 bd, .int .i64 wn, .slice a2 n2 cp2]] w4.drew fun e w' => e = .returned (.bool true) ∧ Below w4.drew.heap.size w4.drew w' from KA.out)
                        clear hB5 hM5 HR5 KA hcell d0 d1
                        go_wp2_with fail
                        refine KA2.out.mono ?_
                        rintro e w9 ⟨rfl, hb9⟩
                        have J6 := Lib.hid (J5.out.own hb9)
                        clear KA2 hb9 J5 J4 H84
                        go_wp2_with fail
                        go_roundw
                        case rel => (repeat apply Exists.intro); exact ⟨⟨k + 1, by go_num, by omega, by omega, up L 0 L2, LN.out, J6.out⟩, rfl⟩
                        case measure => simp [intOf]; omega
                    · have i3 : (kd == 1) = false := by simpa using e1
                      have i4 : (kd == 2) = false := by simpa using e2
                      clear e1 e2
                      go_wp2_with fail
                      clear f0 f1 f2 f3 f4 f5 f6 f7
                      obtain ⟨b8, hb8⟩ : ∃ b8, b8 = wr.heap.size := ⟨_, rfl⟩
                      rw [← hb8] at HW1 hs1 hhi ⊢
                      clear hb8
                      generalize wr.alloc _ = wx at *
                      have H8 := Lib.hid HW1.out
                      have kpx : Kp lo hi wx wx := Kp.refl _ _ _
                      have hs2 := HJ1.out.s2
                      have hlen : ∀ j, j < 2 → (L j).length ≤ 5000 + (k + 1) := fun j hj => by have q := HL.out j hj; omega
                      clear HW1
                      have J4 := Lib.hid (HJ1.out.kp hs2 kpx HLo.out HH.out)
                      have H84 := Lib.hid ((kpx.block b8 hs1 (Or.inr hhi)).trans H8.out)
                      have hcell := fun i => cell_of_block H84.out i
                      have d0 := cell_of_block J4.out.ab 0
                      have d1 := cell_of_block J4.out.am 0
                      have LN := Lib.hid hlen
                      clear hlen hs2
                      go_wp2_with fail
                      go_still_tail 7, (by kernel_rfl)
                      change wpList _ _ _ _ _ wx.drew
                      have J5 := Lib.hid (J4.out.own (below_dN (n := 1) (Below.refl _ _)))
                      have HR5 := HRw.out.below (w' := wx.drewN 1) J5.out.bel
                      obtain ⟨nw, mm, hB5, hM5⟩ := J5.out.s2.pr 0 (by omega)
                      have KA := Lib.hid (asked_any hB5 hM5 kd false false ta gdd bd wn a2 n2 cp2 R HR5 f9)
                      have KA2 := Lib.hid (show Calls Try.prog 49 #[.pointer (some ⟨B 0, 0, none⟩), .pointer (some ⟨RB 0, 0, none⟩), .agg #[.int .i64 kd, .bool false, .bool false, .int .i64 ta, .int .i64 gdd, .int .i64 bd, .int .i64 wn, .slice a2 n2 cp2]] wx.drew fun e w' => e = .returned (.bool true) ∧ Below wx.drew.heap.size wx.drew w' from KA.out)
                      clear hB5 hM5 HR5 KA hcell d0 d1
                      go_wp2_with fail
                      refine KA2.out.mono ?_
                      rintro e w9 ⟨rfl, hb9⟩
                      have J6 := Lib.hid (J5.out.own hb9)
                      clear KA2 hb9 J5 J4 H84
                      go_wp2_with fail
                      go_roundw
                      case rel => (repeat apply Exists.intro); exact ⟨⟨k + 1, by go_num, by omega, by omega, L, LN.out, J6.out⟩, rfl⟩
                      case measure => simp [intOf]; omega
                · by_cases e1 : kd = 1
                  · subst e1
                    go_wp2_with fail
                    clear f0 f1 f2 f3 f4 f5 f6 f7
                    obtain ⟨b8, hb8⟩ : ∃ b8, b8 = wr.heap.size := ⟨_, rfl⟩
                    rw [← hb8] at HW1 hs1 hhi ⊢
                    clear hb8
                    generalize wr.alloc _ = wx at *
                    have H8 := Lib.hid HW1.out
                    have c0 := cell_of_block H8.out 3
                    have c1 := cell_of_block H8.out 4
                    have c2 := cell_of_block H8.out 5
                    have c3 := cell_of_block HJ1.out.am 0
                    clear HW1
                    go_still_tail 10, (by kernel_rfl)
                    change wpList _ _ _ _ _ wx.drew
                    have K1 := note_m h6.out (HJ1.out.s2.drewN 1) 0 (by omega) ta gdd bd (by have := HL.out 0 (by omega); omega)
                    go_wp2_with fail
                    refine K1.mono ?_
                    rintro e w3 ⟨c, rfl, kp, hc⟩
                    clear K1
                    have hcc : (c != c) = false := by simp
                    have kp0 : Kp lo hi wx w3 := (Kp.ofBelow (below_dN (n := 1) (Below.refl _ _))).trans kp
                    have HELD := Lib.hid (show ∀ w', Kp lo hi wx w' → (Kp lo hi wx w' ∧ w'.cell? ⟨b8, 3, none⟩ = some (.int .i64 ta) ∧ w'.cell? ⟨b8, 4, none⟩ = some (.int .i64 gdd) ∧ w'.cell? ⟨b8, 5, none⟩ = some (.int .i64 bd) ∧ w'.cell? ⟨h0 + 2, 0, none⟩ = some (.pointer (some ⟨B 0, 0, none⟩))) from fun w' hk => by
                      have e1 := (hk.block b8 hs1 (Or.inr hhi)).trans H8.out
                      have e2 := (hk.block (h0 + 2) (block_lt (cell_of_block HJ1.out.ab 0)) (Or.inl (by omega))).trans HJ1.out.ab
                      exact ⟨hk, cell_of_block e1 3, cell_of_block e1 4, cell_of_block e1 5, cell_of_block e2 0⟩)
                    have hk0 : Kp lo hi wx w3.drew := kp0.drewN 1
                    have KP := Lib.hid hk0
                    have HC1 := Lib.hid (hc 1)
                    obtain ⟨_, y0, y1, y2, y3⟩ := HELD.out _ kp0
                    clear hc kp kp0 hk0 c0 c1 c2 c3
                    go_wp2_with fail
                    go_region_held3 (fun w' => Kp lo hi wx w' ∧ w'.cell? ⟨b8, 3, none⟩ = some (.int .i64 ta) ∧ w'.cell? ⟨b8, 4, none⟩ = some (.int .i64 gdd) ∧ w'.cell? ⟨b8, 5, none⟩ = some (.int .i64 bd) ∧ w'.cell? ⟨h0 + 2, 0, none⟩ = some (.pointer (some ⟨B 0, 0, none⟩)))
                      (first | with_reducible exact HELD.out _ KP.out | exact HELD.out _ ((Kp.ofBelow (below_dN (n := 1) (Below.refl _ _))).trans (by assumption)))
                      (first | (go_at_call 20; refine (HC1.out).mono ?_; rintro e w4 ⟨rfl, kp2, L2, hs2, hl2⟩))
                    rename_i hS
                    have kpx := and_l hS
                    have hlen : ∀ j, j < 2 → (up L 0 L2 j).length ≤ 5000 + (k + 1) := fun j hj => by
                      have q := HL.out j hj
                      unfold up
                      split
                      · subst_vars; omega
                      · omega
                    clear hS kp2 hl2 y0 y1 y2 y3 KP HC1 HELD hcc
                    have J4 := Lib.hid (HJ1.out.kp hs2 kpx HLo.out HH.out)
                    have H84 := Lib.hid ((kpx.block b8 hs1 (Or.inr hhi)).trans H8.out)
                    have hcell := fun i => cell_of_block H84.out i
                    have d0 := cell_of_block J4.out.ab 0
                    have d1 := cell_of_block J4.out.am 0
                    have LN := Lib.hid hlen
                    clear hlen hs2
                    go_wp2_with fail
                    go_still_tail 7, (by kernel_rfl)
                    change wpList _ _ _ _ _ w4.drew
                    have J5 := Lib.hid (J4.out.own (below_dN (n := 1) (Below.refl _ _)))
                    have HR5 := HRw.out.below (w' := w4.drewN 1) J5.out.bel
                    obtain ⟨nw, mm, hB5, hM5⟩ := J5.out.s2.pr 0 (by omega)
                    have KA := Lib.hid (asked_any hB5 hM5 1 false true ta gdd bd wn a2 n2 cp2 R HR5 f9)
                    have KA2 := Lib.hid (show Calls Try.prog 49 #[.pointer (some ⟨B 0, 0, none⟩), .pointer (some ⟨RB 0, 0, none⟩), .agg #[.int .i64 1, .bool false, .bool true, .int .i64 ta, .int .i64 gdd, .int .i64 bd, .int .i64 wn, .slice a2 n2 cp2]] w4.drew fun e w' => e = .returned (.bool true) ∧ Below w4.drew.heap.size w4.drew w' from KA.out)
                    clear hB5 hM5 HR5 KA hcell d0 d1
                    go_wp2_with fail
                    refine KA2.out.mono ?_
                    rintro e w9 ⟨rfl, hb9⟩
                    have J6 := Lib.hid (J5.out.own hb9)
                    clear KA2 hb9 J5 J4 H84
                    go_wp2_with fail
                    go_roundw
                    case rel => (repeat apply Exists.intro); exact ⟨⟨k + 1, by go_num, by omega, by omega, up L 0 L2, LN.out, J6.out⟩, rfl⟩
                    case measure => simp [intOf]; omega
                  · by_cases e2 : kd = 2
                    · subst e2
                      have i3 : ((2 : Int) == 1) = false := rfl
                      go_wp2_with fail
                      clear f0 f1 f2 f3 f4 f5 f6 f7
                      obtain ⟨b8, hb8⟩ : ∃ b8, b8 = wr.heap.size := ⟨_, rfl⟩
                      rw [← hb8] at HW1 hs1 hhi ⊢
                      clear hb8
                      generalize wr.alloc _ = wx at *
                      have H8 := Lib.hid HW1.out
                      have c3 := cell_of_block HJ1.out.am 0
                      clear HW1
                      go_still_tail 6, (by kernel_rfl)
                      change wpList _ _ _ _ _ wx.drew
                      have K1 := merge_m h6.out (HJ1.out.s2.drewN 1) 0 0 (by omega) (by omega) (by have := HL.out 0 (by omega); omega) (by have := HL.out 0 (by omega); omega)
                      go_wp2_with fail
                      refine K1.mono ?_
                      rintro e w3 ⟨c, rfl, kp, hc⟩
                      clear K1
                      have hcc : (c != c) = false := by simp
                      have kp0 : Kp lo hi wx w3 := (Kp.ofBelow (below_dN (n := 1) (Below.refl _ _))).trans kp
                      have HELD := Lib.hid (show ∀ w', Kp lo hi wx w' → (Kp lo hi wx w' ∧ w'.cell? ⟨h0 + 2, 0, none⟩ = some (.pointer (some ⟨B 0, 0, none⟩))) from fun w' hk => by
                        have e2 := (hk.block (h0 + 2) (block_lt (cell_of_block HJ1.out.ab 0)) (Or.inl (by omega))).trans HJ1.out.ab
                        exact ⟨hk, cell_of_block e2 0⟩)
                      have hk0 : Kp lo hi wx w3.drew := kp0.drewN 1
                      have KP := Lib.hid hk0
                      have HC1 := Lib.hid (hc 1)
                      obtain ⟨_, y0⟩ := HELD.out _ kp0
                      clear hc kp kp0 hk0 c3
                      go_wp2_with fail
                      go_region_held3 (fun w' => Kp lo hi wx w' ∧ w'.cell? ⟨h0 + 2, 0, none⟩ = some (.pointer (some ⟨B 0, 0, none⟩)))
                        (first | with_reducible exact HELD.out _ KP.out | exact HELD.out _ ((Kp.ofBelow (below_dN (n := 1) (Below.refl _ _))).trans (by assumption)))
                        (first | (go_at_call 36; refine (HC1.out).mono ?_; rintro e w4 ⟨rfl, kp2, L2, hs2, hl2⟩))
                      rename_i hS
                      have kpx := and_l hS
                      clear hS kp2 y0 KP HC1 HELD hcc
                      have J4 := Lib.hid (HJ1.out.kp hs2 kpx HLo.out HH.out)
                      have H84 := Lib.hid ((kpx.block b8 hs1 (Or.inr hhi)).trans H8.out)
                      have d1 := cell_of_block J4.out.am 0
                      obtain ⟨nw4, mm4, hB4, a4, cp4, hM4, _⟩ := hs2.pr 0 (by omega)
                      have d2 := cell_of_block hM4.bud 2
                      have hul : up L 0 L2 0 = L2 := up_self _ _ _
                      unfold mrV at d2
                      rw [hul] at d2
                      clear hB4 hM4 hul
                      have HS2 := Lib.hid hs2
                      clear hs2
                      by_cases hbig : 5000 < L2.length
                      · have hb2 : (5000 : Int) < (L2.length : Int) := by omega
                        have hcell := fun i => cell_of_block H84.out i
                        have g0 := cell_of_block J4.out.ab 0
                        have g1 := cell_of_block J4.out.ab 1
                        have g2 := cell_of_block J4.out.am 0
                        have g3 := cell_of_block J4.out.am 1
                        have HR5 := HRw.out.below J4.out.bel
                        obtain ⟨nw, mm, hB5, hM5⟩ := J4.out.s2.pr 0 (by omega)
                        have KA2 := Lib.hid (asked_any hB5 hM5 2 false true ta gdd bd wn a2 n2 cp2 R HR5 f9)
                        unfold stepV at KA2
                        clear hB5 hM5 HR5 hl2
                        go_wp2_with fail
                        refine KA2.out.mono ?_
                        rintro e w9 ⟨rfl, hb9⟩
                        have J6 := Lib.hid (J4.out.own hb9)
                        have H86 := Lib.hid ((hb9.block b8 (block_lt (cell_of_block H84.out 0))).trans H84.out)
                        clear KA2 hb9 J4 H84 hcell g0 g1 g2 g3 d1 d2
                        have hcell := fun i => cell_of_block H86.out i
                        have g0 := cell_of_block J6.out.ab 0
                        have g1 := cell_of_block J6.out.ab 1
                        have g2 := cell_of_block J6.out.am 0
                        have g3 := cell_of_block J6.out.am 1
                        have HR5 := HRw.out.below J6.out.bel
                        obtain ⟨nw, mm, hB5, hM5⟩ := J6.out.s2.pr 1 (by omega)
                        have KA2 := Lib.hid (asked_any hB5 hM5 2 false true ta gdd bd wn a2 n2 cp2 R HR5 f9)
                        unfold stepV at KA2
                        clear hB5 hM5 HR5
                        go_wp2_with fail
                        refine KA2.out.mono ?_
                        rintro e w10 ⟨rfl, hb10⟩
                        have bel10 := Lib.hid (J6.out.own hb10).bel
                        clear KA2 hb10 hcell g0 g1 g2 g3
                        go_wp2
                        go_ret
                        exact ⟨rfl, bel10.out⟩
                      · have hb2 : ¬ ((5000 : Int) < (L2.length : Int)) := by omega
                        have hlen : ∀ j, j < 2 → (up L 0 L2 j).length ≤ 5000 + (k + 1) := fun j hj => by
                          have q := HL.out j hj
                          unfold up
                          split
                          · subst_vars; omega
                          · omega
                        have hs2 := HS2.out
                        clear hl2 J4 H84 hbig HS2
                        have J4 := Lib.hid (HJ1.out.kp hs2 kpx HLo.out HH.out)
                        have H84 := Lib.hid ((kpx.block b8 hs1 (Or.inr hhi)).trans H8.out)
                        have hcell := fun i => cell_of_block H84.out i
                        have d0 := cell_of_block J4.out.ab 0
                        have d1 := cell_of_block J4.out.am 0
                        have LN := Lib.hid hlen
                        clear hlen hs2
                        go_wp2_with fail
                        go_still_tail 7, (by kernel_rfl)
                        change wpList _ _ _ _ _ w4.drew
                        have J5 := Lib.hid (J4.out.own (below_dN (n := 1) (Below.refl _ _)))
                        have HR5 := HRw.out.below (w' := w4.drewN 1) J5.out.bel
                        obtain ⟨nw, mm, hB5, hM5⟩ := J5.out.s2.pr 0 (by omega)
                        have KA := Lib.hid (asked_any hB5 hM5 2 false true ta gdd bd wn a2 n2 cp2 R HR5 f9)
                        have KA2 := Lib.hid (show Calls Try.prog 49 #[.pointer (some ⟨B 0, 0, none⟩), .pointer (some ⟨RB 0, 0, none⟩), .agg #[.int .i64 2, .bool false, .bool true, .int .i64 ta, .int .i64 gdd, .int .i64 bd, .int .i64 wn, .slice a2 n2 cp2]] w4.drew fun e w' => e = .returned (.bool true) ∧ Below w4.drew.heap.size w4.drew w' from KA.out)
                        clear hB5 hM5 HR5 KA hcell d0 d1
                        go_wp2_with fail
                        refine KA2.out.mono ?_
                        rintro e w9 ⟨rfl, hb9⟩
                        have J6 := Lib.hid (J5.out.own hb9)
                        clear KA2 hb9 J5 J4 H84
                        go_wp2_with fail
                        go_roundw
                        case rel => (repeat apply Exists.intro); exact ⟨⟨k + 1, by go_num, by omega, by omega, up L 0 L2, LN.out, J6.out⟩, rfl⟩
                        case measure => simp [intOf]; omega
                    · have i3 : (kd == 1) = false := by simpa using e1
                      have i4 : (kd == 2) = false := by simpa using e2
                      clear e1 e2
                      go_wp2_with fail
                      clear f0 f1 f2 f3 f4 f5 f6 f7
                      obtain ⟨b8, hb8⟩ : ∃ b8, b8 = wr.heap.size := ⟨_, rfl⟩
                      rw [← hb8] at HW1 hs1 hhi ⊢
                      clear hb8
                      generalize wr.alloc _ = wx at *
                      have H8 := Lib.hid HW1.out
                      have kpx : Kp lo hi wx wx := Kp.refl _ _ _
                      have hs2 := HJ1.out.s2
                      have hlen : ∀ j, j < 2 → (L j).length ≤ 5000 + (k + 1) := fun j hj => by have q := HL.out j hj; omega
                      clear HW1
                      have J4 := Lib.hid (HJ1.out.kp hs2 kpx HLo.out HH.out)
                      have H84 := Lib.hid ((kpx.block b8 hs1 (Or.inr hhi)).trans H8.out)
                      have hcell := fun i => cell_of_block H84.out i
                      have d0 := cell_of_block J4.out.ab 0
                      have d1 := cell_of_block J4.out.am 0
                      have LN := Lib.hid hlen
                      clear hlen hs2
                      go_wp2_with fail
                      go_still_tail 7, (by kernel_rfl)
                      change wpList _ _ _ _ _ wx.drew
                      have J5 := Lib.hid (J4.out.own (below_dN (n := 1) (Below.refl _ _)))
                      have HR5 := HRw.out.below (w' := wx.drewN 1) J5.out.bel
                      obtain ⟨nw, mm, hB5, hM5⟩ := J5.out.s2.pr 0 (by omega)
                      have KA := Lib.hid (asked_any hB5 hM5 kd false true ta gdd bd wn a2 n2 cp2 R HR5 f9)
                      have KA2 := Lib.hid (show Calls Try.prog 49 #[.pointer (some ⟨B 0, 0, none⟩), .pointer (some ⟨RB 0, 0, none⟩), .agg #[.int .i64 kd, .bool false, .bool true, .int .i64 ta, .int .i64 gdd, .int .i64 bd, .int .i64 wn, .slice a2 n2 cp2]] wx.drew fun e w' => e = .returned (.bool true) ∧ Below wx.drew.heap.size wx.drew w' from KA.out)
                      clear hB5 hM5 HR5 KA hcell d0 d1
                      go_wp2_with fail
                      refine KA2.out.mono ?_
                      rintro e w9 ⟨rfl, hb9⟩
                      have J6 := Lib.hid (J5.out.own hb9)
                      clear KA2 hb9 J5 J4 H84
                      go_wp2_with fail
                      go_roundw
                      case rel => (repeat apply Exists.intro); exact ⟨⟨k + 1, by go_num, by omega, by omega, L, LN.out, J6.out⟩, rfl⟩
                      case measure => simp [intOf]; omega
              · cases wt
                · by_cases e1 : kd = 1
                  · subst e1
                    go_wp2_with fail
                    clear f0 f1 f2 f3 f4 f5 f6 f7
                    obtain ⟨b8, hb8⟩ : ∃ b8, b8 = wr.heap.size := ⟨_, rfl⟩
                    rw [← hb8] at HW1 hs1 hhi ⊢
                    clear hb8
                    generalize wr.alloc _ = wx at *
                    have H8 := Lib.hid HW1.out
                    have c0 := cell_of_block H8.out 3
                    have c1 := cell_of_block H8.out 4
                    have c2 := cell_of_block H8.out 5
                    have c3 := cell_of_block HJ1.out.am 1
                    clear HW1
                    go_still_tail 10, (by kernel_rfl)
                    change wpList _ _ _ _ _ wx.drew
                    have K1 := note_m h6.out (HJ1.out.s2.drewN 1) 1 (by omega) ta gdd bd (by have := HL.out 1 (by omega); omega)
                    go_wp2_with fail
                    refine K1.mono ?_
                    rintro e w3 ⟨c, rfl, kp, hc⟩
                    clear K1
                    have hcc : (c != c) = false := by simp
                    have kp0 : Kp lo hi wx w3 := (Kp.ofBelow (below_dN (n := 1) (Below.refl _ _))).trans kp
                    have HELD := Lib.hid (show ∀ w', Kp lo hi wx w' → (Kp lo hi wx w' ∧ w'.cell? ⟨b8, 3, none⟩ = some (.int .i64 ta) ∧ w'.cell? ⟨b8, 4, none⟩ = some (.int .i64 gdd) ∧ w'.cell? ⟨b8, 5, none⟩ = some (.int .i64 bd) ∧ w'.cell? ⟨h0 + 2, 1, none⟩ = some (.pointer (some ⟨B 1, 0, none⟩))) from fun w' hk => by
                      have e1 := (hk.block b8 hs1 (Or.inr hhi)).trans H8.out
                      have e2 := (hk.block (h0 + 2) (block_lt (cell_of_block HJ1.out.ab 0)) (Or.inl (by omega))).trans HJ1.out.ab
                      exact ⟨hk, cell_of_block e1 3, cell_of_block e1 4, cell_of_block e1 5, cell_of_block e2 1⟩)
                    have hk0 : Kp lo hi wx w3.drew := kp0.drewN 1
                    have KP := Lib.hid hk0
                    have HC1 := Lib.hid (hc 1)
                    obtain ⟨_, y0, y1, y2, y3⟩ := HELD.out _ kp0
                    clear hc kp kp0 hk0 c0 c1 c2 c3
                    go_wp2_with fail
                    go_region_held3 (fun w' => Kp lo hi wx w' ∧ w'.cell? ⟨b8, 3, none⟩ = some (.int .i64 ta) ∧ w'.cell? ⟨b8, 4, none⟩ = some (.int .i64 gdd) ∧ w'.cell? ⟨b8, 5, none⟩ = some (.int .i64 bd) ∧ w'.cell? ⟨h0 + 2, 1, none⟩ = some (.pointer (some ⟨B 1, 0, none⟩)))
                      (first | with_reducible exact HELD.out _ KP.out | exact HELD.out _ ((Kp.ofBelow (below_dN (n := 1) (Below.refl _ _))).trans (by assumption)))
                      (first | (go_at_call 20; refine (HC1.out).mono ?_; rintro e w4 ⟨rfl, kp2, L2, hs2, hl2⟩))
                    rename_i hS
                    have kpx := and_l hS
                    have hlen : ∀ j, j < 2 → (up L 1 L2 j).length ≤ 5000 + (k + 1) := fun j hj => by
                      have q := HL.out j hj
                      unfold up
                      split
                      · subst_vars; omega
                      · omega
                    clear hS kp2 hl2 y0 y1 y2 y3 KP HC1 HELD hcc
                    have J4 := Lib.hid (HJ1.out.kp hs2 kpx HLo.out HH.out)
                    have H84 := Lib.hid ((kpx.block b8 hs1 (Or.inr hhi)).trans H8.out)
                    have hcell := fun i => cell_of_block H84.out i
                    have d0 := cell_of_block J4.out.ab 1
                    have d1 := cell_of_block J4.out.am 1
                    have LN := Lib.hid hlen
                    clear hlen hs2
                    go_wp2_with fail
                    go_still_tail 7, (by kernel_rfl)
                    change wpList _ _ _ _ _ w4.drew
                    have J5 := Lib.hid (J4.out.own (below_dN (n := 1) (Below.refl _ _)))
                    have HR5 := HRw.out.below (w' := w4.drewN 1) J5.out.bel
                    obtain ⟨nw, mm, hB5, hM5⟩ := J5.out.s2.pr 1 (by omega)
                    have KA := Lib.hid (asked_any hB5 hM5 1 true false ta gdd bd wn a2 n2 cp2 R HR5 f9)
                    have KA2 := Lib.hid (show Calls Try.prog 49 #[.pointer (some ⟨B 1, 0, none⟩), .pointer (some ⟨RB 1, 0, none⟩), .agg #[.int .i64 1, .bool true, .bool false, .int .i64 ta, .int .i64 gdd, .int .i64 bd, .int .i64 wn, .slice a2 n2 cp2]] w4.drew fun e w' => e = .returned (.bool true) ∧ Below w4.drew.heap.size w4.drew w' from KA.out)
                    clear hB5 hM5 HR5 KA hcell d0 d1
                    go_wp2_with fail
                    refine KA2.out.mono ?_
                    rintro e w9 ⟨rfl, hb9⟩
                    have J6 := Lib.hid (J5.out.own hb9)
                    clear KA2 hb9 J5 J4 H84
                    go_wp2_with fail
                    go_roundw
                    case rel => (repeat apply Exists.intro); exact ⟨⟨k + 1, by go_num, by omega, by omega, up L 1 L2, LN.out, J6.out⟩, rfl⟩
                    case measure => simp [intOf]; omega
                  · by_cases e2 : kd = 2
                    · subst e2
                      have i3 : ((2 : Int) == 1) = false := rfl
                      go_wp2_with fail
                      clear f0 f1 f2 f3 f4 f5 f6 f7
                      obtain ⟨b8, hb8⟩ : ∃ b8, b8 = wr.heap.size := ⟨_, rfl⟩
                      rw [← hb8] at HW1 hs1 hhi ⊢
                      clear hb8
                      generalize wr.alloc _ = wx at *
                      have H8 := Lib.hid HW1.out
                      have c3 := cell_of_block HJ1.out.am 1
                      have c4 := cell_of_block HJ1.out.am 0
                      clear HW1
                      go_still_tail 6, (by kernel_rfl)
                      change wpList _ _ _ _ _ wx.drew
                      have K1 := merge_m h6.out (HJ1.out.s2.drewN 1) 1 0 (by omega) (by omega) (by have := HL.out 1 (by omega); omega) (by have := HL.out 0 (by omega); omega)
                      go_wp2_with fail
                      refine K1.mono ?_
                      rintro e w3 ⟨c, rfl, kp, hc⟩
                      clear K1
                      have hcc : (c != c) = false := by simp
                      have kp0 : Kp lo hi wx w3 := (Kp.ofBelow (below_dN (n := 1) (Below.refl _ _))).trans kp
                      have HELD := Lib.hid (show ∀ w', Kp lo hi wx w' → (Kp lo hi wx w' ∧ w'.cell? ⟨h0 + 2, 1, none⟩ = some (.pointer (some ⟨B 1, 0, none⟩)) ∧ w'.cell? ⟨h0 + 2, 0, none⟩ = some (.pointer (some ⟨B 0, 0, none⟩))) from fun w' hk => by
                        have e2 := (hk.block (h0 + 2) (block_lt (cell_of_block HJ1.out.ab 0)) (Or.inl (by omega))).trans HJ1.out.ab
                        exact ⟨hk, cell_of_block e2 1, cell_of_block e2 0⟩)
                      have hk0 : Kp lo hi wx w3.drew := kp0.drewN 1
                      have KP := Lib.hid hk0
                      have HC1 := Lib.hid (hc 1)
                      obtain ⟨_, y0, y1⟩ := HELD.out _ kp0
                      clear hc kp kp0 hk0 c3 c4
                      go_wp2_with fail
                      go_region_held3 (fun w' => Kp lo hi wx w' ∧ w'.cell? ⟨h0 + 2, 1, none⟩ = some (.pointer (some ⟨B 1, 0, none⟩)) ∧ w'.cell? ⟨h0 + 2, 0, none⟩ = some (.pointer (some ⟨B 0, 0, none⟩)))
                        (first | with_reducible exact HELD.out _ KP.out | exact HELD.out _ ((Kp.ofBelow (below_dN (n := 1) (Below.refl _ _))).trans (by assumption)))
                        (first | (go_at_call 36; refine (HC1.out).mono ?_; rintro e w4 ⟨rfl, kp2, L2, hs2, hl2⟩))
                      rename_i hS
                      have kpx := and_l hS
                      clear hS kp2 y0 y1 KP HC1 HELD hcc
                      have J4 := Lib.hid (HJ1.out.kp hs2 kpx HLo.out HH.out)
                      have H84 := Lib.hid ((kpx.block b8 hs1 (Or.inr hhi)).trans H8.out)
                      have d1 := cell_of_block J4.out.am 1
                      obtain ⟨nw4, mm4, hB4, a4, cp4, hM4, _⟩ := hs2.pr 1 (by omega)
                      have d2 := cell_of_block hM4.bud 2
                      have hul : up L 1 L2 1 = L2 := up_self _ _ _
                      unfold mrV at d2
                      rw [hul] at d2
                      clear hB4 hM4 hul
                      have HS2 := Lib.hid hs2
                      clear hs2
                      by_cases hbig : 5000 < L2.length
                      · have hb2 : (5000 : Int) < (L2.length : Int) := by omega
                        have hcell := fun i => cell_of_block H84.out i
                        have g0 := cell_of_block J4.out.ab 0
                        have g1 := cell_of_block J4.out.ab 1
                        have g2 := cell_of_block J4.out.am 0
                        have g3 := cell_of_block J4.out.am 1
                        have HR5 := HRw.out.below J4.out.bel
                        obtain ⟨nw, mm, hB5, hM5⟩ := J4.out.s2.pr 0 (by omega)
                        have KA2 := Lib.hid (asked_any hB5 hM5 2 true false ta gdd bd wn a2 n2 cp2 R HR5 f9)
                        unfold stepV at KA2
                        clear hB5 hM5 HR5 hl2
                        go_wp2_with fail
                        refine KA2.out.mono ?_
                        rintro e w9 ⟨rfl, hb9⟩
                        have J6 := Lib.hid (J4.out.own hb9)
                        have H86 := Lib.hid ((hb9.block b8 (block_lt (cell_of_block H84.out 0))).trans H84.out)
                        clear KA2 hb9 J4 H84 hcell g0 g1 g2 g3 d1 d2
                        have hcell := fun i => cell_of_block H86.out i
                        have g0 := cell_of_block J6.out.ab 0
                        have g1 := cell_of_block J6.out.ab 1
                        have g2 := cell_of_block J6.out.am 0
                        have g3 := cell_of_block J6.out.am 1
                        have HR5 := HRw.out.below J6.out.bel
                        obtain ⟨nw, mm, hB5, hM5⟩ := J6.out.s2.pr 1 (by omega)
                        have KA2 := Lib.hid (asked_any hB5 hM5 2 true false ta gdd bd wn a2 n2 cp2 R HR5 f9)
                        unfold stepV at KA2
                        clear hB5 hM5 HR5
                        go_wp2_with fail
                        refine KA2.out.mono ?_
                        rintro e w10 ⟨rfl, hb10⟩
                        have bel10 := Lib.hid (J6.out.own hb10).bel
                        clear KA2 hb10 hcell g0 g1 g2 g3
                        go_wp2
                        go_ret
                        exact ⟨rfl, bel10.out⟩
                      · have hb2 : ¬ ((5000 : Int) < (L2.length : Int)) := by omega
                        have hlen : ∀ j, j < 2 → (up L 1 L2 j).length ≤ 5000 + (k + 1) := fun j hj => by
                          have q := HL.out j hj
                          unfold up
                          split
                          · subst_vars; omega
                          · omega
                        have hs2 := HS2.out
                        clear hl2 J4 H84 hbig HS2
                        have J4 := Lib.hid (HJ1.out.kp hs2 kpx HLo.out HH.out)
                        have H84 := Lib.hid ((kpx.block b8 hs1 (Or.inr hhi)).trans H8.out)
                        have hcell := fun i => cell_of_block H84.out i
                        have d0 := cell_of_block J4.out.ab 1
                        have d1 := cell_of_block J4.out.am 1
                        have LN := Lib.hid hlen
                        clear hlen hs2
                        go_wp2_with fail
                        go_still_tail 7, (by kernel_rfl)
                        change wpList _ _ _ _ _ w4.drew
                        have J5 := Lib.hid (J4.out.own (below_dN (n := 1) (Below.refl _ _)))
                        have HR5 := HRw.out.below (w' := w4.drewN 1) J5.out.bel
                        obtain ⟨nw, mm, hB5, hM5⟩ := J5.out.s2.pr 1 (by omega)
                        have KA := Lib.hid (asked_any hB5 hM5 2 true false ta gdd bd wn a2 n2 cp2 R HR5 f9)
                        have KA2 := Lib.hid (show Calls Try.prog 49 #[.pointer (some ⟨B 1, 0, none⟩), .pointer (some ⟨RB 1, 0, none⟩), .agg #[.int .i64 2, .bool true, .bool false, .int .i64 ta, .int .i64 gdd, .int .i64 bd, .int .i64 wn, .slice a2 n2 cp2]] w4.drew fun e w' => e = .returned (.bool true) ∧ Below w4.drew.heap.size w4.drew w' from KA.out)
                        clear hB5 hM5 HR5 KA hcell d0 d1
                        go_wp2_with fail
                        refine KA2.out.mono ?_
                        rintro e w9 ⟨rfl, hb9⟩
                        have J6 := Lib.hid (J5.out.own hb9)
                        clear KA2 hb9 J5 J4 H84
                        go_wp2_with fail
                        go_roundw
                        case rel => (repeat apply Exists.intro); exact ⟨⟨k + 1, by go_num, by omega, by omega, up L 1 L2, LN.out, J6.out⟩, rfl⟩
                        case measure => simp [intOf]; omega
                    · have i3 : (kd == 1) = false := by simpa using e1
                      have i4 : (kd == 2) = false := by simpa using e2
                      clear e1 e2
                      go_wp2_with fail
                      clear f0 f1 f2 f3 f4 f5 f6 f7
                      obtain ⟨b8, hb8⟩ : ∃ b8, b8 = wr.heap.size := ⟨_, rfl⟩
                      rw [← hb8] at HW1 hs1 hhi ⊢
                      clear hb8
                      generalize wr.alloc _ = wx at *
                      have H8 := Lib.hid HW1.out
                      have kpx : Kp lo hi wx wx := Kp.refl _ _ _
                      have hs2 := HJ1.out.s2
                      have hlen : ∀ j, j < 2 → (L j).length ≤ 5000 + (k + 1) := fun j hj => by have q := HL.out j hj; omega
                      clear HW1
                      have J4 := Lib.hid (HJ1.out.kp hs2 kpx HLo.out HH.out)
                      have H84 := Lib.hid ((kpx.block b8 hs1 (Or.inr hhi)).trans H8.out)
                      have hcell := fun i => cell_of_block H84.out i
                      have d0 := cell_of_block J4.out.ab 1
                      have d1 := cell_of_block J4.out.am 1
                      have LN := Lib.hid hlen
                      clear hlen hs2
                      go_wp2_with fail
                      go_still_tail 7, (by kernel_rfl)
                      change wpList _ _ _ _ _ wx.drew
                      have J5 := Lib.hid (J4.out.own (below_dN (n := 1) (Below.refl _ _)))
                      have HR5 := HRw.out.below (w' := wx.drewN 1) J5.out.bel
                      obtain ⟨nw, mm, hB5, hM5⟩ := J5.out.s2.pr 1 (by omega)
                      have KA := Lib.hid (asked_any hB5 hM5 kd true false ta gdd bd wn a2 n2 cp2 R HR5 f9)
                      have KA2 := Lib.hid (show Calls Try.prog 49 #[.pointer (some ⟨B 1, 0, none⟩), .pointer (some ⟨RB 1, 0, none⟩), .agg #[.int .i64 kd, .bool true, .bool false, .int .i64 ta, .int .i64 gdd, .int .i64 bd, .int .i64 wn, .slice a2 n2 cp2]] wx.drew fun e w' => e = .returned (.bool true) ∧ Below wx.drew.heap.size wx.drew w' from KA.out)
                      clear hB5 hM5 HR5 KA hcell d0 d1
                      go_wp2_with fail
                      refine KA2.out.mono ?_
                      rintro e w9 ⟨rfl, hb9⟩
                      have J6 := Lib.hid (J5.out.own hb9)
                      clear KA2 hb9 J5 J4 H84
                      go_wp2_with fail
                      go_roundw
                      case rel => (repeat apply Exists.intro); exact ⟨⟨k + 1, by go_num, by omega, by omega, L, LN.out, J6.out⟩, rfl⟩
                      case measure => simp [intOf]; omega
                · by_cases e1 : kd = 1
                  · subst e1
                    go_wp2_with fail
                    clear f0 f1 f2 f3 f4 f5 f6 f7
                    obtain ⟨b8, hb8⟩ : ∃ b8, b8 = wr.heap.size := ⟨_, rfl⟩
                    rw [← hb8] at HW1 hs1 hhi ⊢
                    clear hb8
                    generalize wr.alloc _ = wx at *
                    have H8 := Lib.hid HW1.out
                    have c0 := cell_of_block H8.out 3
                    have c1 := cell_of_block H8.out 4
                    have c2 := cell_of_block H8.out 5
                    have c3 := cell_of_block HJ1.out.am 1
                    clear HW1
                    go_still_tail 10, (by kernel_rfl)
                    change wpList _ _ _ _ _ wx.drew
                    have K1 := note_m h6.out (HJ1.out.s2.drewN 1) 1 (by omega) ta gdd bd (by have := HL.out 1 (by omega); omega)
                    go_wp2_with fail
                    refine K1.mono ?_
                    rintro e w3 ⟨c, rfl, kp, hc⟩
                    clear K1
                    have hcc : (c != c) = false := by simp
                    have kp0 : Kp lo hi wx w3 := (Kp.ofBelow (below_dN (n := 1) (Below.refl _ _))).trans kp
                    have HELD := Lib.hid (show ∀ w', Kp lo hi wx w' → (Kp lo hi wx w' ∧ w'.cell? ⟨b8, 3, none⟩ = some (.int .i64 ta) ∧ w'.cell? ⟨b8, 4, none⟩ = some (.int .i64 gdd) ∧ w'.cell? ⟨b8, 5, none⟩ = some (.int .i64 bd) ∧ w'.cell? ⟨h0 + 2, 1, none⟩ = some (.pointer (some ⟨B 1, 0, none⟩))) from fun w' hk => by
                      have e1 := (hk.block b8 hs1 (Or.inr hhi)).trans H8.out
                      have e2 := (hk.block (h0 + 2) (block_lt (cell_of_block HJ1.out.ab 0)) (Or.inl (by omega))).trans HJ1.out.ab
                      exact ⟨hk, cell_of_block e1 3, cell_of_block e1 4, cell_of_block e1 5, cell_of_block e2 1⟩)
                    have hk0 : Kp lo hi wx w3.drew := kp0.drewN 1
                    have KP := Lib.hid hk0
                    have HC1 := Lib.hid (hc 1)
                    obtain ⟨_, y0, y1, y2, y3⟩ := HELD.out _ kp0
                    clear hc kp kp0 hk0 c0 c1 c2 c3
                    go_wp2_with fail
                    go_region_held3 (fun w' => Kp lo hi wx w' ∧ w'.cell? ⟨b8, 3, none⟩ = some (.int .i64 ta) ∧ w'.cell? ⟨b8, 4, none⟩ = some (.int .i64 gdd) ∧ w'.cell? ⟨b8, 5, none⟩ = some (.int .i64 bd) ∧ w'.cell? ⟨h0 + 2, 1, none⟩ = some (.pointer (some ⟨B 1, 0, none⟩)))
                      (first | with_reducible exact HELD.out _ KP.out | exact HELD.out _ ((Kp.ofBelow (below_dN (n := 1) (Below.refl _ _))).trans (by assumption)))
                      (first | (go_at_call 20; refine (HC1.out).mono ?_; rintro e w4 ⟨rfl, kp2, L2, hs2, hl2⟩))
                    rename_i hS
                    have kpx := and_l hS
                    have hlen : ∀ j, j < 2 → (up L 1 L2 j).length ≤ 5000 + (k + 1) := fun j hj => by
                      have q := HL.out j hj
                      unfold up
                      split
                      · subst_vars; omega
                      · omega
                    clear hS kp2 hl2 y0 y1 y2 y3 KP HC1 HELD hcc
                    have J4 := Lib.hid (HJ1.out.kp hs2 kpx HLo.out HH.out)
                    have H84 := Lib.hid ((kpx.block b8 hs1 (Or.inr hhi)).trans H8.out)
                    have hcell := fun i => cell_of_block H84.out i
                    have d0 := cell_of_block J4.out.ab 1
                    have d1 := cell_of_block J4.out.am 1
                    have LN := Lib.hid hlen
                    clear hlen hs2
                    go_wp2_with fail
                    go_still_tail 7, (by kernel_rfl)
                    change wpList _ _ _ _ _ w4.drew
                    have J5 := Lib.hid (J4.out.own (below_dN (n := 1) (Below.refl _ _)))
                    have HR5 := HRw.out.below (w' := w4.drewN 1) J5.out.bel
                    obtain ⟨nw, mm, hB5, hM5⟩ := J5.out.s2.pr 1 (by omega)
                    have KA := Lib.hid (asked_any hB5 hM5 1 true true ta gdd bd wn a2 n2 cp2 R HR5 f9)
                    have KA2 := Lib.hid (show Calls Try.prog 49 #[.pointer (some ⟨B 1, 0, none⟩), .pointer (some ⟨RB 1, 0, none⟩), .agg #[.int .i64 1, .bool true, .bool true, .int .i64 ta, .int .i64 gdd, .int .i64 bd, .int .i64 wn, .slice a2 n2 cp2]] w4.drew fun e w' => e = .returned (.bool true) ∧ Below w4.drew.heap.size w4.drew w' from KA.out)
                    clear hB5 hM5 HR5 KA hcell d0 d1
                    go_wp2_with fail
                    refine KA2.out.mono ?_
                    rintro e w9 ⟨rfl, hb9⟩
                    have J6 := Lib.hid (J5.out.own hb9)
                    clear KA2 hb9 J5 J4 H84
                    go_wp2_with fail
                    go_roundw
                    case rel => (repeat apply Exists.intro); exact ⟨⟨k + 1, by go_num, by omega, by omega, up L 1 L2, LN.out, J6.out⟩, rfl⟩
                    case measure => simp [intOf]; omega
                  · by_cases e2 : kd = 2
                    · subst e2
                      have i3 : ((2 : Int) == 1) = false := rfl
                      go_wp2_with fail
                      clear f0 f1 f2 f3 f4 f5 f6 f7
                      obtain ⟨b8, hb8⟩ : ∃ b8, b8 = wr.heap.size := ⟨_, rfl⟩
                      rw [← hb8] at HW1 hs1 hhi ⊢
                      clear hb8
                      generalize wr.alloc _ = wx at *
                      have H8 := Lib.hid HW1.out
                      have c3 := cell_of_block HJ1.out.am 1
                      clear HW1
                      go_still_tail 6, (by kernel_rfl)
                      change wpList _ _ _ _ _ wx.drew
                      have K1 := merge_m h6.out (HJ1.out.s2.drewN 1) 1 1 (by omega) (by omega) (by have := HL.out 1 (by omega); omega) (by have := HL.out 1 (by omega); omega)
                      go_wp2_with fail
                      refine K1.mono ?_
                      rintro e w3 ⟨c, rfl, kp, hc⟩
                      clear K1
                      have hcc : (c != c) = false := by simp
                      have kp0 : Kp lo hi wx w3 := (Kp.ofBelow (below_dN (n := 1) (Below.refl _ _))).trans kp
                      have HELD := Lib.hid (show ∀ w', Kp lo hi wx w' → (Kp lo hi wx w' ∧ w'.cell? ⟨h0 + 2, 1, none⟩ = some (.pointer (some ⟨B 1, 0, none⟩))) from fun w' hk => by
                        have e2 := (hk.block (h0 + 2) (block_lt (cell_of_block HJ1.out.ab 0)) (Or.inl (by omega))).trans HJ1.out.ab
                        exact ⟨hk, cell_of_block e2 1⟩)
                      have hk0 : Kp lo hi wx w3.drew := kp0.drewN 1
                      have KP := Lib.hid hk0
                      have HC1 := Lib.hid (hc 1)
                      obtain ⟨_, y0⟩ := HELD.out _ kp0
                      clear hc kp kp0 hk0 c3
                      go_wp2_with fail
                      go_region_held3 (fun w' => Kp lo hi wx w' ∧ w'.cell? ⟨h0 + 2, 1, none⟩ = some (.pointer (some ⟨B 1, 0, none⟩)))
                        (first | with_reducible exact HELD.out _ KP.out | exact HELD.out _ ((Kp.ofBelow (below_dN (n := 1) (Below.refl _ _))).trans (by assumption)))
                        (first | (go_at_call 36; refine (HC1.out).mono ?_; rintro e w4 ⟨rfl, kp2, L2, hs2, hl2⟩))
                      rename_i hS
                      have kpx := and_l hS
                      clear hS kp2 y0 KP HC1 HELD hcc
                      have J4 := Lib.hid (HJ1.out.kp hs2 kpx HLo.out HH.out)
                      have H84 := Lib.hid ((kpx.block b8 hs1 (Or.inr hhi)).trans H8.out)
                      have d1 := cell_of_block J4.out.am 1
                      obtain ⟨nw4, mm4, hB4, a4, cp4, hM4, _⟩ := hs2.pr 1 (by omega)
                      have d2 := cell_of_block hM4.bud 2
                      have hul : up L 1 L2 1 = L2 := up_self _ _ _
                      unfold mrV at d2
                      rw [hul] at d2
                      clear hB4 hM4 hul
                      have HS2 := Lib.hid hs2
                      clear hs2
                      by_cases hbig : 5000 < L2.length
                      · have hb2 : (5000 : Int) < (L2.length : Int) := by omega
                        have hcell := fun i => cell_of_block H84.out i
                        have g0 := cell_of_block J4.out.ab 0
                        have g1 := cell_of_block J4.out.ab 1
                        have g2 := cell_of_block J4.out.am 0
                        have g3 := cell_of_block J4.out.am 1
                        have HR5 := HRw.out.below J4.out.bel
                        obtain ⟨nw, mm, hB5, hM5⟩ := J4.out.s2.pr 0 (by omega)
                        have KA2 := Lib.hid (asked_any hB5 hM5 2 true true ta gdd bd wn a2 n2 cp2 R HR5 f9)
                        unfold stepV at KA2
                        clear hB5 hM5 HR5 hl2
                        go_wp2_with fail
                        refine KA2.out.mono ?_
                        rintro e w9 ⟨rfl, hb9⟩
                        have J6 := Lib.hid (J4.out.own hb9)
                        have H86 := Lib.hid ((hb9.block b8 (block_lt (cell_of_block H84.out 0))).trans H84.out)
                        clear KA2 hb9 J4 H84 hcell g0 g1 g2 g3 d1 d2
                        have hcell := fun i => cell_of_block H86.out i
                        have g0 := cell_of_block J6.out.ab 0
                        have g1 := cell_of_block J6.out.ab 1
                        have g2 := cell_of_block J6.out.am 0
                        have g3 := cell_of_block J6.out.am 1
                        have HR5 := HRw.out.below J6.out.bel
                        obtain ⟨nw, mm, hB5, hM5⟩ := J6.out.s2.pr 1 (by omega)
                        have KA2 := Lib.hid (asked_any hB5 hM5 2 true true ta gdd bd wn a2 n2 cp2 R HR5 f9)
                        unfold stepV at KA2
                        clear hB5 hM5 HR5
                        go_wp2_with fail
                        refine KA2.out.mono ?_
                        rintro e w10 ⟨rfl, hb10⟩
                        have bel10 := Lib.hid (J6.out.own hb10).bel
                        clear KA2 hb10 hcell g0 g1 g2 g3
                        go_wp2
                        go_ret
                        exact ⟨rfl, bel10.out⟩
                      · have hb2 : ¬ ((5000 : Int) < (L2.length : Int)) := by omega
                        have hlen : ∀ j, j < 2 → (up L 1 L2 j).length ≤ 5000 + (k + 1) := fun j hj => by
                          have q := HL.out j hj
                          unfold up
                          split
                          · subst_vars; omega
                          · omega
                        have hs2 := HS2.out
                        clear hl2 J4 H84 hbig HS2
                        have J4 := Lib.hid (HJ1.out.kp hs2 kpx HLo.out HH.out)
                        have H84 := Lib.hid ((kpx.block b8 hs1 (Or.inr hhi)).trans H8.out)
                        have hcell := fun i => cell_of_block H84.out i
                        have d0 := cell_of_block J4.out.ab 1
                        have d1 := cell_of_block J4.out.am 1
                        have LN := Lib.hid hlen
                        clear hlen hs2
                        go_wp2_with fail
                        go_still_tail 7, (by kernel_rfl)
                        change wpList _ _ _ _ _ w4.drew
                        have J5 := Lib.hid (J4.out.own (below_dN (n := 1) (Below.refl _ _)))
                        have HR5 := HRw.out.below (w' := w4.drewN 1) J5.out.bel
                        obtain ⟨nw, mm, hB5, hM5⟩ := J5.out.s2.pr 1 (by omega)
                        have KA := Lib.hid (asked_any hB5 hM5 2 true true ta gdd bd wn a2 n2 cp2 R HR5 f9)
                        have KA2 := Lib.hid (show Calls Try.prog 49 #[.pointer (some ⟨B 1, 0, none⟩), .pointer (some ⟨RB 1, 0, none⟩), .agg #[.int .i64 2, .bool true, .bool true, .int .i64 ta, .int .i64 gdd, .int .i64 bd, .int .i64 wn, .slice a2 n2 cp2]] w4.drew fun e w' => e = .returned (.bool true) ∧ Below w4.drew.heap.size w4.drew w' from KA.out)
                        clear hB5 hM5 HR5 KA hcell d0 d1
                        go_wp2_with fail
                        refine KA2.out.mono ?_
                        rintro e w9 ⟨rfl, hb9⟩
                        have J6 := Lib.hid (J5.out.own hb9)
                        clear KA2 hb9 J5 J4 H84
                        go_wp2_with fail
                        go_roundw
                        case rel => (repeat apply Exists.intro); exact ⟨⟨k + 1, by go_num, by omega, by omega, up L 1 L2, LN.out, J6.out⟩, rfl⟩
                        case measure => simp [intOf]; omega
                    · have i3 : (kd == 1) = false := by simpa using e1
                      have i4 : (kd == 2) = false := by simpa using e2
                      clear e1 e2
                      go_wp2_with fail
                      clear f0 f1 f2 f3 f4 f5 f6 f7
                      obtain ⟨b8, hb8⟩ : ∃ b8, b8 = wr.heap.size := ⟨_, rfl⟩
                      rw [← hb8] at HW1 hs1 hhi ⊢
                      clear hb8
                      generalize wr.alloc _ = wx at *
                      have H8 := Lib.hid HW1.out
                      have kpx : Kp lo hi wx wx := Kp.refl _ _ _
                      have hs2 := HJ1.out.s2
                      have hlen : ∀ j, j < 2 → (L j).length ≤ 5000 + (k + 1) := fun j hj => by have q := HL.out j hj; omega
                      clear HW1
                      have J4 := Lib.hid (HJ1.out.kp hs2 kpx HLo.out HH.out)
                      have H84 := Lib.hid ((kpx.block b8 hs1 (Or.inr hhi)).trans H8.out)
                      have hcell := fun i => cell_of_block H84.out i
                      have d0 := cell_of_block J4.out.ab 1
                      have d1 := cell_of_block J4.out.am 1
                      have LN := Lib.hid hlen
                      clear hlen hs2
                      go_wp2_with fail
                      go_still_tail 7, (by kernel_rfl)
                      change wpList _ _ _ _ _ wx.drew
                      have J5 := Lib.hid (J4.out.own (below_dN (n := 1) (Below.refl _ _)))
                      have HR5 := HRw.out.below (w' := wx.drewN 1) J5.out.bel
                      obtain ⟨nw, mm, hB5, hM5⟩ := J5.out.s2.pr 1 (by omega)
                      have KA := Lib.hid (asked_any hB5 hM5 kd true true ta gdd bd wn a2 n2 cp2 R HR5 f9)
                      have KA2 := Lib.hid (show Calls Try.prog 49 #[.pointer (some ⟨B 1, 0, none⟩), .pointer (some ⟨RB 1, 0, none⟩), .agg #[.int .i64 kd, .bool true, .bool true, .int .i64 ta, .int .i64 gdd, .int .i64 bd, .int .i64 wn, .slice a2 n2 cp2]] wx.drew fun e w' => e = .returned (.bool true) ∧ Below wx.drew.heap.size wx.drew w' from KA.out)
                      clear hB5 hM5 HR5 KA hcell d0 d1
                      go_wp2_with fail
                      refine KA2.out.mono ?_
                      rintro e w9 ⟨rfl, hb9⟩
                      have J6 := Lib.hid (J5.out.own hb9)
                      clear KA2 hb9 J5 J4 H84
                      go_wp2_with fail
                      go_roundw
                      case rel => (repeat apply Exists.intro); exact ⟨⟨k + 1, by go_num, by omega, by omega, L, LN.out, J6.out⟩, rfl⟩
                      case measure => simp [intOf]; omega
            · rcases Nat.lt_or_ge k n with q1 | q1
              · have i1 : (k : Int) < (n : Int) := by omega
                have i2 : ¬ ((k : Int) < 300) := by omega
                clear hlt
                have hal : Below wr.heap.size wr (wr.alloc (.cells (stepV 0 false false 0 0 0 1 none 0 0) 98)) := (Below.refl _ _).alloc (Nat.le_refl _) _
                have HJ1 := Lib.hid (hJ.own hal)
                have HW1 := Lib.hid (show (wr.alloc (.cells (stepV 0 false false 0 0 0 1 none 0 0) 98)).heap[wr.heap.size]? = some (.cells (stepV 0 false false 0 0 0 1 none 0 0) 98 (0, 0)) from alloc_at _ _)
                clear hal hJ
                unfold stepV at HJ1 HW1
                go_upto_region 39 with fail
                obtain ⟨b8, hb8⟩ : ∃ b8, b8 = wr.heap.size := ⟨_, rfl⟩
                rw [← hb8] at HW1 ⊢
                clear hb8
                generalize wr.alloc _ = wx at *
                have hcell := fun i => cell_of_block HW1.out i
                have g0 := cell_of_block HJ1.out.ab 0
                have g1 := cell_of_block HJ1.out.ab 1
                have g2 := cell_of_block HJ1.out.am 0
                have g3 := cell_of_block HJ1.out.am 1
                obtain ⟨nw, mm, hB5, hM5⟩ := HJ1.out.s2.pr 0 (by omega)
                have KA2 := Lib.hid (asked_any hB5 hM5 0 false false 0 0 0 1 none 0 0 (fun _ => (0, 0, 0)) (fun h => absurd h (by omega)) (by omega))
                unfold stepV at KA2
                clear hB5 hM5
                go_wp2_with fail
                refine KA2.out.mono ?_
                rintro e w9 ⟨rfl, hb9⟩
                have J6 := Lib.hid (HJ1.out.own hb9)
                have H86 := Lib.hid ((hb9.block b8 (block_lt (cell_of_block HW1.out 0))).trans HW1.out)
                clear KA2 hb9 HJ1 HW1 hcell g0 g1 g2 g3
                have hcell := fun i => cell_of_block H86.out i
                have g0 := cell_of_block J6.out.ab 0
                have g1 := cell_of_block J6.out.ab 1
                have g2 := cell_of_block J6.out.am 0
                have g3 := cell_of_block J6.out.am 1
                obtain ⟨nw, mm, hB5, hM5⟩ := J6.out.s2.pr 1 (by omega)
                have KA2 := Lib.hid (asked_any hB5 hM5 0 false false 0 0 0 1 none 0 0 (fun _ => (0, 0, 0)) (fun h => absurd h (by omega)) (by omega))
                unfold stepV at KA2
                clear hB5 hM5
                go_wp2_with fail
                refine KA2.out.mono ?_
                rintro e w10 ⟨rfl, hb10⟩
                have bel10 := Lib.hid (J6.out.own hb10).bel
                clear KA2 hb10 hcell g0 g1 g2 g3
                go_wp2
                go_ret
                exact ⟨rfl, bel10.out⟩
              · have i1 : ¬ ((k : Int) < (n : Int)) := by omega
                clear hlt
                have hal : Below wr.heap.size wr (wr.alloc (.cells (stepV 0 false false 0 0 0 1 none 0 0) 98)) := (Below.refl _ _).alloc (Nat.le_refl _) _
                have HJ1 := Lib.hid (hJ.own hal)
                have HW1 := Lib.hid (show (wr.alloc (.cells (stepV 0 false false 0 0 0 1 none 0 0) 98)).heap[wr.heap.size]? = some (.cells (stepV 0 false false 0 0 0 1 none 0 0) 98 (0, 0)) from alloc_at _ _)
                clear hal hJ
                unfold stepV at HJ1 HW1
                go_upto_region 39 with fail
                obtain ⟨b8, hb8⟩ : ∃ b8, b8 = wr.heap.size := ⟨_, rfl⟩
                rw [← hb8] at HW1 ⊢
                clear hb8
                generalize wr.alloc _ = wx at *
                have hcell := fun i => cell_of_block HW1.out i
                have g0 := cell_of_block HJ1.out.ab 0
                have g1 := cell_of_block HJ1.out.ab 1
                have g2 := cell_of_block HJ1.out.am 0
                have g3 := cell_of_block HJ1.out.am 1
                obtain ⟨nw, mm, hB5, hM5⟩ := HJ1.out.s2.pr 0 (by omega)
                have KA2 := Lib.hid (asked_any hB5 hM5 0 false false 0 0 0 1 none 0 0 (fun _ => (0, 0, 0)) (fun h => absurd h (by omega)) (by omega))
                unfold stepV at KA2
                clear hB5 hM5
                go_wp2_with fail
                refine KA2.out.mono ?_
                rintro e w9 ⟨rfl, hb9⟩
                have J6 := Lib.hid (HJ1.out.own hb9)
                have H86 := Lib.hid ((hb9.block b8 (block_lt (cell_of_block HW1.out 0))).trans HW1.out)
                clear KA2 hb9 HJ1 HW1 hcell g0 g1 g2 g3
                have hcell := fun i => cell_of_block H86.out i
                have g0 := cell_of_block J6.out.ab 0
                have g1 := cell_of_block J6.out.ab 1
                have g2 := cell_of_block J6.out.am 0
                have g3 := cell_of_block J6.out.am 1
                obtain ⟨nw, mm, hB5, hM5⟩ := J6.out.s2.pr 1 (by omega)
                have KA2 := Lib.hid (asked_any hB5 hM5 0 false false 0 0 0 1 none 0 0 (fun _ => (0, 0, 0)) (fun h => absurd h (by omega)) (by omega))
                unfold stepV at KA2
                clear hB5 hM5
                go_wp2_with fail
                refine KA2.out.mono ?_
                rintro e w10 ⟨rfl, hb10⟩
                have bel10 := Lib.hid (J6.out.own hb10).bel
                clear KA2 hb10 hcell g0 g1 g2 g3
                go_wp2
                go_ret
                exact ⟨rfl, bel10.out⟩
end Go.Proofs.Ytmdfkljmgijdlaa
