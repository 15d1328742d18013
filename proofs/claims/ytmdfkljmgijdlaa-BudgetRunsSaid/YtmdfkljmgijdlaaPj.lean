/- A new budget; the second example. -/
import Derived.Test.YtmdfkljmgijdlaaPi
namespace Go.Proofs.Ytmdfkljmgijdlaa
open Go.RowKit
set_option linter.unusedVariables false

def noneF : Int → Int := fun _ => 0
theorem RI.new {s : Nat} : RI s 0 false (fun _ => 0) (fun _ => 0) noneF noneF :=
  ⟨fun _ => ⟨rfl, fun _ _ => ⟨rfl, rfl⟩, fun _ => ⟨rfl, rfl⟩⟩, ⟨by omega, by omega⟩, fun _ _ => ⟨rfl, rfl⟩, fun _ _ _ _ => ⟨wrap64_zero.symm, wrap64_zero.symm⟩⟩

/-- New, as a budget that has counted nothing. -/
theorem new_budget (t s : Nat) (hs1 : 1 ≤ s) (hs : s ≤ 1024) (h0 : (FloatKind.f64.format.order t 0 == some .gt) = true) (h1 : (FloatKind.f64.format.order t 4607182418800017408 == some .lt) = true) (w : World) :
    Calls Try.prog 18 #[.float .f64 t, .int .i64 s] w fun e w' => ∃ b g, e = .returned (.tuple #[.pointer (some ⟨b, 0, none⟩), .int .i64 0]) ∧ BG w' b g t s 0 false noneF noneF ∧ w.heap.size ≤ b ∧ w.heap.size ≤ g ∧ Below w.heap.size w w' := by
  refine (bnew_any t s hs1 hs h0 h1 w).mono ?_
  rintro e w' ⟨rfl, rfl⟩
  refine ⟨w.heap.size + 1, w.heap.size, rfl, ⟨_, _, ⟨by omega, hs1, hs, ?_, ?_⟩, RI.new⟩, by omega, Nat.le_refl _, ((Below.refl _ _).alloc (Nat.le_refl _) _).alloc (by simp) _⟩
  · exact alloc_at' _ _ _ (by simp)
  · rw [Below.heap_alloc _ _ _ (by simp), made_ring]; exact alloc_at _ _

set_option maxRecDepth 100000 in
theorem awake26_any (w : World) : Calls Try.prog 17 #[] w fun e w' => e = .returned (.bool true) ∧ Below w.heap.size w w' := by
  go_enter Try.func17, Try.ntmps17
  go_wp2_with fail
  refine (new_budget 4604930618986332160 4 (by omega) (by omega) (by decide +kernel) (by decide +kernel) _).mono ?_
  rintro e w1 ⟨b, g, rfl, h1, hb, hg, hbel1⟩
  go_wp2_with fail
  refine (note_ok h1 10 3 1 (by decide) (Or.inl rfl)).mono ?_
  rintro e w2 ⟨rfl, h2, hf2⟩
  have hbel2 := hf2.below hbel1 hbel1.size hb hg
  clear h1 hbel1 hf2
  go_wp2_with fail
  refine (note_ok h2 11 4 0 (by decide) (Or.inr (by decide))).mono ?_
  rintro e w3 ⟨rfl, h3, hf3⟩
  have hbel3 := hf3.below hbel2 hbel2.size hb hg
  clear h2 hbel2 hf3
  have K1 := Lib.hid (burn_any h3 2 (by omega) (by omega))
  go_wp2_with fail
  refine K1.out.mono ?_
  rintro e w4 ⟨z, hz, rfl, h4⟩
  have hbel4 := hbel3.trans (h4.mono hbel3.size)
  have h5 := h3.own h4
  have e1 : burnC 4604930618986332160 (sumW (addAt (addAt noneF 10 3) 11 4) (max (max 0 10) 11) 2) (sumW (addAt (addAt noneF 10 1) 11 0) (max (max 0 10) 11) 2) = 4602678819172646912 := by decide +kernel
  rw [e1] at hz
  have ez := hz.eq (by decide +kernel)
  subst ez
  clear K1 hz h4 h3 hbel3 e1
  have K2 := Lib.hid (lasts_any h5 2 (by omega) (by omega))
  go_wp2_with fail
  refine K2.out.mono ?_
  rintro e w5 ⟨z, hz, rfl, h4⟩
  have hbel5 := hbel4.trans (h4.mono hbel4.size)
  have h6 := h5.own h4
  have e1 : lastsC 4 (leftC 4604930618986332160 (sumW (addAt (addAt noneF 10 3) 11 4) (max (max 0 10) 11) 4) (sumW (addAt (addAt noneF 10 1) 11 0) (max (max 0 10) 11) 4)) (burnC 4604930618986332160 (sumW (addAt (addAt noneF 10 3) 11 4) (max (max 0 10) 11) 2) (sumW (addAt (addAt noneF 10 1) 11 0) (max (max 0 10) 11) 2)) = 4616189618054758400 := by decide +kernel
  rw [e1] at hz
  have ez := hz.eq (by decide +kernel)
  subst ez
  clear K2 hz h4 h5 hbel4 e1
  have K3 := Lib.hid (left_any h6)
  have t1 : (FloatKind.f64.format.order 4602678819172646912 4602678819172646912 == some .eq) = true := by decide +kernel
  have t2 : (FloatKind.f64.format.order 4616189618054758400 4616189618054758400 == some .eq) = true := by decide +kernel
  go_wp2_with fail
  refine K3.out.mono ?_
  rintro e w6 ⟨z, hz, rfl, h4⟩
  have hbel6 := hbel5.trans (h4.mono hbel5.size)
  have e1 : leftC 4604930618986332160 (sumW (addAt (addAt noneF 10 3) 11 4) (max (max 0 10) 11) 4) (sumW (addAt (addAt noneF 10 1) 11 0) (max (max 0 10) 11) 4) = 4602678819172646912 := by decide +kernel
  rw [e1] at hz
  have ez := hz.eq (by decide +kernel)
  subst ez
  clear K3 hz h4 h6 hbel5 e1
  go_wp2
  go_ret
  exact ⟨rfl, hbel6⟩

/-- A note that may be noted, whether it is past or not: its time's counts are told as far as a ring tells them. -/
theorem note_step {w : World} {b g t s : Nat} {now : Int} {m : Bool} {fg fb : Int → Int} (h : BG w b g t s now m fg fb) (x y z : Int) (hm : mayB x y z) :
    Calls Try.prog 20 #[.pointer (some ⟨b, 0, none⟩), .int .i64 x, .int .i64 y, .int .i64 z] w fun e w' =>
      ∃ c : Int, (c = 0 ∨ c = 261) ∧ e = .returned (.int .i64 c) ∧ BG w' b g t s (max now x) true (addAt fg x y) (addAt fb x z) ∧ Fr b g w w' := by
  by_cases hp : m = true ∧ x ≤ now - s
  · obtain ⟨rfl, hp⟩ := hp
    refine (note_past h x y z hm hp).mono ?_
    rintro e w' ⟨rfl, n, rfl⟩
    have hs := h.slots
    have e : max now x = now := by omega
    rw [e]
    refine ⟨261, Or.inr rfl, rfl, (h.drewN n).congr (fun u hu => ?_) (fun u h1 h2 h3 => ?_), (Fr.refl _ _ _).drewN n⟩
    · have := h.out.1 u hu
      have hx := hm.1
      unfold addAt
      rw [if_neg (by omega), if_neg (by omega)]; exact this
    · unfold addAt
      rw [if_neg (by omega), if_neg (by omega)]; exact ⟨rfl, rfl⟩
  · refine (note_ok h x y z hm (by cases m; exact Or.inl rfl; right; simp at hp; exact hp)).mono ?_
    rintro e w' ⟨rfl, hb, hf⟩
    exact ⟨0, Or.inl rfl, rfl, hb, hf⟩

/-- The notes that came in. -/
def CountsIn (w : World) (a : Option Addr) (n : Nat) (V : Nat → Int × Int × Int) : Prop :=
  0 < n → ∃ p, a = some p ∧ ∀ i, i < n → w.cell? (p.add (i * 3)) = some (.int .i64 (V i).1) ∧ w.cell? ⟨(p.add (i * 3)).block, (p.add (i * 3)).off + 1, none⟩ = some (.int .i64 (V i).2.1) ∧ w.cell? ⟨(p.add (i * 3)).block, (p.add (i * 3)).off + 2, none⟩ = some (.int .i64 (V i).2.2)

/-- The latest time of the first k that may be noted. -/
def lastN (V : Nat → Int × Int × Int) : Nat → Int
  | 0 => -1
  | k + 1 => if mayB (V k).1 (V k).2.1 (V k).2.2 then max (lastN V k) (V k).1 else lastN V k
/-- What they count. -/
def goodN (V : Nat → Int × Int × Int) : Nat → Int → Int
  | 0 => noneF
  | k + 1 => if mayB (V k).1 (V k).2.1 (V k).2.2 then addAt (goodN V k) (V k).1 (V k).2.1 else goodN V k
def badN (V : Nat → Int × Int × Int) : Nat → Int → Int
  | 0 => noneF
  | k + 1 => if mayB (V k).1 (V k).2.1 (V k).2.2 then addAt (badN V k) (V k).1 (V k).2.2 else badN V k
theorem lastN_ge (V : Nat → Int × Int × Int) (k : Nat) : -1 ≤ lastN V k ∧ lastN V k ≤ 4611686018427387904 := by
  induction k with
  | zero => unfold lastN; omega
  | succ k ih =>
    unfold lastN
    by_cases h : mayB (V k).1 (V k).2.1 (V k).2.2
    · rw [if_pos h]; unfold mayB at h; omega
    · rw [if_neg h]; exact ih
theorem lastN_mono (V : Nat → Int × Int × Int) (k n : Nat) (h : k ≤ n) : lastN V k ≤ lastN V n := by
  induction n with
  | zero => have : k = 0 := by omega
            subst this; exact Int.le_refl _
  | succ n ih =>
    by_cases e : k = n + 1
    · subst e; exact Int.le_refl _
    · have := ih (by omega)
      refine Int.le_trans this ?_
      rw [lastN]
      split
      · omega
      · exact Int.le_refl _
theorem tot_none (now : Int) (n : Nat) : tot noneF now n = 0 := tot_zero now n
end Go.Proofs.Ytmdfkljmgijdlaa
