/- Two pairs of budgets, ours and the document's: a note, a merge. -/
import Derived.Test.YtmdfkljmgijdlaaSj
namespace Go.Proofs.Ytmdfkljmgijdlaa
open Go.RowKit
set_option linter.unusedVariables false

theorem MG.fr {Bq : Nat} {w w' : World} {rb t s b g : Nat} {now : Int} {m : Bool} {L : List Nt} (h : MG Bq w rb t s now m L) (hf : Fr b g w w') (h1 : rb ≠ b) (h2 : rb ≠ g) (h3 : b < Bq) (h4 : g < Bq) : MG Bq w' rb t s now m L := by
  obtain ⟨a, cp, hM, e1, e2, e3⟩ := h
  have hl := (Array.getElem?_eq_some_iff.1 hM.bud).1
  refine ⟨a, cp, ⟨hM.s1, hM.s2, by rw [hf.block rb hl h1 h2]; exact hM.bud, fun q => ?_, hM.apart, hM.len, hM.may, hM.range⟩, e1, e2, e3⟩
  obtain ⟨pp, hpp, hq⟩ := hM.notes q
  refine ⟨pp, hpp, fun k hk => ?_⟩
  obtain ⟨q1, q2, q3⟩ := hq k hk
  have e : (pp.add (k * 3)).block = pp.block := by unfold Addr.add; split <;> rfl
  have hb := e3 pp hpp
  have hh := hf.block (pp.add (k * 3)).block (block_lt q1) (by omega) (by omega)
  exact ⟨(World.cell?_of_block (w := w) (a := pp.add (k * 3)) hh).trans q1, (World.cell?_of_block (w := w) (a := ⟨(pp.add (k * 3)).block, (pp.add (k * 3)).off + 1, none⟩) hh).trans q2, (World.cell?_of_block (w := w) (a := ⟨(pp.add (k * 3)).block, (pp.add (k * 3)).off + 2, none⟩) hh).trans q3⟩
/-- A new one. -/
theorem mg_new {Bq : Nat} {w : World} {rb t s : Nat} (h : MR w rb t s 0 false none 0 0 (gd [])) : MG Bq w rb t s 0 false [] :=
  ⟨none, 0, h, fun _ => ⟨rfl, rfl⟩, fun _ => ⟨rfl, rfl⟩, fun p hp => by cases hp⟩
end Go.Proofs.Ytmdfkljmgijdlaa
namespace Go.Proofs.Ytmdfkljmgijdlaa
open Go.RowKit
set_option linter.unusedVariables false

/-- All but the blocks from lo up to hi as it was. -/
structure Kp (lo hi : Nat) (w w' : World) : Prop where
  os : w'.os = w.os
  tape : w'.tape = w.tape
  output : w'.output = w.output
  size : w.heap.size ≤ w'.heap.size
  block : ∀ k, k < w.heap.size → (k < lo ∨ hi ≤ k) → w'.heap[k]? = w.heap[k]?
theorem Kp.refl (lo hi : Nat) (w : World) : Kp lo hi w w := ⟨rfl, rfl, rfl, Nat.le_refl _, fun _ _ _ => rfl⟩
theorem Kp.trans {lo hi : Nat} {w w' w'' : World} (h : Kp lo hi w w') (k : Kp lo hi w' w'') : Kp lo hi w w'' :=
  ⟨k.os.trans h.os, k.tape.trans h.tape, k.output.trans h.output, Nat.le_trans h.size k.size, fun j h1 h2 => (k.block j (Nat.lt_of_lt_of_le h1 h.size) h2).trans (h.block j h1 h2)⟩
theorem Kp.drewN {lo hi : Nat} {w w' : World} (h : Kp lo hi w w') (n : Nat) : Kp lo hi w (w'.drewN n) := ⟨h.os, h.tape, h.output, h.size, h.block⟩
theorem Kp.ofBelow {lo hi : Nat} {w w' : World} (h : Below w.heap.size w w') : Kp lo hi w w' := ⟨h.os, h.tape, h.output, h.size, fun k h1 _ => h.block k h1⟩
theorem Fr.kp {b g lo hi : Nat} {w w' : World} (h : Fr b g w w') (h1 : lo ≤ b) (h2 : b < hi) (h3 : lo ≤ g) (h4 : g < hi) : Kp lo hi w w' :=
  ⟨h.os, h.tape, h.output, h.size, fun k hk ho => h.block k hk (by omega) (by omega)⟩
theorem Kp.below {lo hi : Nat} {w0 w w' : World} {B : Nat} (h : Kp lo hi w w') (k : Below B w0 w) (hB : B ≤ w.heap.size) (hl : B ≤ lo) : Below B w0 w' :=
  k.trans ⟨h.os, h.tape, h.output, h.size, fun j hj => h.block j (by omega) (Or.inl (by omega))⟩

/-- A pair: a budget and the document's tell the same. -/
def PR (Bq : Nat) (W : World) (b g rb t s : Nat) (L : List Nt) : Prop := ∃ now m, BG W b g t s now m (GL L) (BL L) ∧ MG Bq W rb t s now m L
structure Six (lo hi : Nat) (B G RB : Nat → Nat) : Prop where
  inb : ∀ k, k < 2 → lo ≤ B k ∧ B k < hi ∧ lo ≤ G k ∧ G k < hi ∧ lo ≤ RB k ∧ RB k < hi
  ne : ∀ k, k < 2 → ∀ j, j < 2 → B k ≠ RB j ∧ G k ≠ RB j ∧ (k ≠ j → B k ≠ B j ∧ B k ≠ G j ∧ G k ≠ B j ∧ G k ≠ G j ∧ RB k ≠ RB j)
structure S2 (hi : Nat) (W : World) (B G RB T S : Nat → Nat) (L : Nat → List Nt) : Prop where
  pr : ∀ k, k < 2 → PR hi W (B k) (G k) (RB k) (T k) (S k) (L k)
  hw : hi ≤ W.heap.size
def up (L : Nat → List Nt) (k : Nat) (x : List Nt) : Nat → List Nt := fun j => if j = k then x else L j
theorem up_self (L : Nat → List Nt) (k : Nat) (x : List Nt) : up L k x k = x := by unfold up; rw [if_pos rfl]
theorem up_same (L : Nat → List Nt) (k : Nat) : up L k (L k) = L := by funext j; unfold up; split <;> simp_all
theorem up_ne {L : Nat → List Nt} {k j : Nat} {x : List Nt} (h : j ≠ k) : up L k x j = L j := by unfold up; rw [if_neg h]

theorem PR.own {Bq : Nat} {W W' : World} {b g rb t s : Nat} {L : List Nt} (h : PR Bq W b g rb t s L) (hb : Below W.heap.size W W') : PR Bq W' b g rb t s L := by
  obtain ⟨now, m, h1, h2⟩ := h
  exact ⟨now, m, h1.own hb, h2.own hb⟩
theorem S2.own {hi : Nat} {W W' : World} {B G RB T S : Nat → Nat} {L : Nat → List Nt} (h : S2 hi W B G RB T S L) (hb : Below W.heap.size W W') : S2 hi W' B G RB T S L :=
  ⟨fun k hk => (h.pr k hk).own hb, Nat.le_trans h.hw hb.size⟩
theorem S2.drewN {hi : Nat} {W : World} {B G RB T S : Nat → Nat} {L : Nat → List Nt} (h : S2 hi W B G RB T S L) (n : Nat) : S2 hi (W.drewN n) B G RB T S L := h.own (below_dN (Below.refl _ _))

/-- What the document's call leaves: ours answers alike. -/
def AfterQ (lo hi : Nat) (W : World) (B G RB T S : Nat → Nat) (L : Nat → List Nt) (k f : Nat) (args : Array Value) (d : Nat) (e : Ending) (w' : World) : Prop :=
  ∃ c : Int, e = .returned (.int .i64 c) ∧ Kp lo hi W w' ∧ ∀ n, Calls Try.prog f args (w'.drewN n) fun e' w'' => e' = .returned (.int .i64 c) ∧ Kp lo hi W w'' ∧ ∃ L', S2 hi w'' B G RB T S (up L k L') ∧ L'.length ≤ d

theorem s2_up {lo hi : Nat} {W w' : World} {B G RB T S : Nat → Nat} {L : Nat → List Nt} {k : Nat} (h6 : Six lo hi B G RB) (h : S2 hi W B G RB T S L) (hk : k < 2) {w1 : World} (f1 : Fr (RB k) (RB k) W w1) (f2 : Fr (B k) (G k) w1 w') {L' : List Nt} (hp : PR hi w' (B k) (G k) (RB k) (T k) (S k) L') : S2 hi w' B G RB T S (up L k L') := by
  refine ⟨fun j hj => ?_, Nat.le_trans h.hw (Nat.le_trans f1.size f2.size)⟩
  by_cases e : j = k
  · subst e; rw [up_self]; exact hp
  · rw [up_ne e]
    obtain ⟨now, m, q1, q2⟩ := h.pr j hj
    obtain ⟨a1, a2, a3, a4, a5, a6⟩ := h6.inb k hk
    obtain ⟨n1, n2, n3⟩ := h6.ne j hj k hk
    obtain ⟨m1, m2, m3⟩ := h6.ne k hk j hj
    obtain ⟨n3, n4, n5, n6, n7⟩ := n3 e
    exact ⟨now, m, (q1.fr f1 n1 n1 n2 n2).fr f2 n3 n4 n5 n6, (q2.fr f1 n7 n7 a6 a6).fr f2 (fun q => m1 q.symm) (fun q => m2 q.symm) a2 a4⟩

theorem note_m {lo hi : Nat} {W : World} {B G RB T S : Nat → Nat} {L : Nat → List Nt} (h6 : Six lo hi B G RB) (h : S2 hi W B G RB T S L) (k : Nat) (hk : k < 2) (x y z : Int) (hl : (L k).length ≤ 1000000) :
    Calls Try.prog 47 #[.pointer (some ⟨RB k, 0, none⟩), .agg #[.int .i64 x, .int .i64 y, .int .i64 z]] W (AfterQ lo hi W B G RB T S L k 20 #[.pointer (some ⟨B k, 0, none⟩), .int .i64 x, .int .i64 y, .int .i64 z] ((L k).length + 1)) := by
  obtain ⟨now, m, hB, hM⟩ := h.pr k hk
  obtain ⟨a1, a2, a3, a4, a5, a6⟩ := h6.inb k hk
  obtain ⟨n1, n2, n3⟩ := h6.ne k hk k hk
  by_cases hm : mayB x y z
  · by_cases hp : m = true ∧ x ≤ now - S k
    · obtain ⟨rfl, hp⟩ := hp
      refine (rnote_past hM x y z hm hp).mono ?_
      rintro e w1 ⟨rfl, h1⟩
      refine ⟨261, rfl, Kp.ofBelow h1, fun n => ?_⟩
      have h1 := below_dN (n := n) h1
      refine (note_past (hB.own h1) x y z hm hp).mono ?_
      rintro e w2 ⟨rfl, n2, rfl⟩
      refine ⟨rfl, (Kp.ofBelow h1).drewN n2, L k, ?_, by omega⟩
      rw [up_same]
      exact (h.own h1).drewN n2
    · have hp' : m = false ∨ now - S k < x := by
        cases m
        · exact Or.inl rfl
        · right
          by_cases hq : x ≤ now - S k
          · exact absurd ⟨rfl, hq⟩ hp
          · omega
      refine (rnote_ok hM x y z hm hp' hl h.hw).mono ?_
      rintro e w1 ⟨rfl, f1, L', hM', e1, e2, hL⟩
      have f1 := f1
      refine ⟨0, rfl, f1.kp a5 a6 a5 a6, fun n => ?_⟩
      have f1 := f1.drewN n
      have hM' := hM'.drewN n
      refine (note_ok (hB.fr f1 n1 n1 n2 n2) x y z hm hp').mono ?_
      rintro e w2 ⟨rfl, hB2, f2⟩
      refine ⟨rfl, (f1.kp a5 a6 a5 a6).trans (f2.kp a1 a2 a3 a4), L', ?_, hL⟩
      refine s2_up h6 h hk f1 f2 ⟨_, _, ?_, hM'.fr f2 (fun q => n1 q.symm) (fun q => n2 q.symm) a2 a4⟩
      refine hB2.congr hM'.out fun u q1 q2 q3 => ?_
      rw [e1, e2]
      unfold cutF
      rw [if_pos q1, if_pos q1]
      exact ⟨rfl, rfl⟩
  · refine (rnote_arg hM x y z hm).mono ?_
    rintro e w1 ⟨rfl, h1⟩
    refine ⟨1, rfl, Kp.ofBelow h1, fun n => ?_⟩
    have h1 := below_dN (n := n) h1
    refine (note_arg _ (B k) x y z hm).mono ?_
    rintro e w2 ⟨rfl, rfl⟩
    refine ⟨rfl, Kp.ofBelow h1, L k, ?_, by omega⟩
    rw [up_same]
    exact h.own h1

theorem merge_m {lo hi : Nat} {W : World} {B G RB T S : Nat → Nat} {L : Nat → List Nt} (h6 : Six lo hi B G RB) (h : S2 hi W B G RB T S L) (k o : Nat) (hk : k < 2) (ho : o < 2) (hl : (L k).length ≤ 100000) (hl' : (L o).length ≤ 100000) :
    Calls Try.prog 48 #[.pointer (some ⟨RB k, 0, none⟩), .pointer (some ⟨RB o, 0, none⟩)] W (AfterQ lo hi W B G RB T S L k 36 #[.pointer (some ⟨B k, 0, none⟩), .pointer (some ⟨B o, 0, none⟩)] ((L k).length + (L o).length + 1)) := by
  obtain ⟨now, m, hB, hM⟩ := h.pr k hk
  obtain ⟨no, m', hB', hM'⟩ := h.pr o ho
  obtain ⟨a1, a2, a3, a4, a5, a6⟩ := h6.inb k hk
  obtain ⟨n1, n2, n3⟩ := h6.ne k hk k hk
  obtain ⟨o1, o2, o3⟩ := h6.ne o ho k hk
  by_cases hne : T k ≠ T o ∨ S k ≠ S o
  · refine (rmerge_plan hM hM' hne).mono ?_
    rintro e w1 ⟨rfl, n0, rfl⟩
    have h1 : Below W.heap.size W (W.drewN n0) := below_dN (Below.refl _ _)
    refine ⟨260, rfl, Kp.ofBelow h1, fun n => ?_⟩
    have h1 := below_dN (n := n) h1
    refine (merge_plan (hB.own h1) (hB'.own h1) hne).mono ?_
    rintro e w2 ⟨rfl, h2⟩
    have h2 := h1.trans (h2.mono h1.size)
    refine ⟨rfl, Kp.ofBelow h2, L k, ?_, by omega⟩
    rw [up_same]
    exact h.own h2
  · have et : T o = T k := by
      by_cases e : T k = T o
      · exact e.symm
      · exact absurd (Or.inl e) hne
    have es : S o = S k := by
      by_cases e : S k = S o
      · exact e.symm
      · exact absurd (Or.inr e) hne
    rw [et, es] at hB' hM'
    refine (rmerge_any hM hM' hl hl' h.hw).mono ?_
    rintro e w1 ⟨rfl, f1, L', hM2, e1, hL⟩
    refine ⟨0, rfl, f1.kp a5 a6 a5 a6, fun n => ?_⟩
    have f1 := f1.drewN n
    have hM2 := hM2.drewN n
    refine (merge_any (hB.fr f1 n1 n1 n2 n2) (hB'.fr f1 o1 o1 o2 o2)).mono ?_
    rintro e w2 ⟨rfl, hB2, f2⟩
    refine ⟨rfl, (f1.kp a5 a6 a5 a6).trans (f2.kp a1 a2 a3 a4), L', ?_, hL⟩
    refine s2_up h6 h hk f1 f2 ⟨_, _, ?_, hM2.fr f2 (fun q => n1 q.symm) (fun q => n2 q.symm) a2 a4⟩
    cases hmm : (m || m')
    · have q1 : m = false := by cases m <;> simp_all
      have q2 : m' = false := by cases m' <;> simp_all
      have hM3 := hM2
      rw [hmm] at hM3 hB2
      obtain ⟨_, _, _, z1, _⟩ := hM3
      have z1 := (z1 rfl).2
      obtain ⟨_, _, _, z2, _⟩ := hM
      have z2 := (z2 q1).2
      obtain ⟨_, _, _, z3, _⟩ := hM'
      have z3 := (z3 q2).2
      rw [z2, z3] at hB2
      rw [z1]
      exact hB2
    · rw [hmm] at hB2
      refine hB2.congr hM2.out fun u q1 q2 q3 => ?_
      obtain ⟨r1, r2⟩ := e1 u (by omega)
      unfold sumF2
      rw [r1, r2]
      exact ⟨rfl, rfl⟩
end Go.Proofs.Ytmdfkljmgijdlaa
