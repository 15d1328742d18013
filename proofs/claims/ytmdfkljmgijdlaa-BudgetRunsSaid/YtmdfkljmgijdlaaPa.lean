/- The plain law of a ring of counts: what is counted at each time, and a window's total. -/
import Derived.IntWalk
namespace Go.Proofs.Ytmdfkljmgijdlaa
open Go.RowKit
set_option linter.unusedVariables false

theorem wrap64_zero : wrap64 0 = 0 := by unfold wrap64; omega
theorem wrap64_add (a b : Int) : wrap64 (wrap64 a + b) = wrap64 (a + b) := by unfold wrap64; omega
theorem wrap64_add2 (a b : Int) : wrap64 (a + wrap64 b) = wrap64 (a + b) := by unfold wrap64; omega
theorem wrap64_idem (a : Int) : wrap64 (wrap64 a) = wrap64 a := by unfold wrap64; omega
theorem wrap64_fits (a : Int) : -9223372036854775808 ≤ wrap64 a ∧ wrap64 a ≤ 9223372036854775807 := by unfold wrap64; omega

/-- What a window of n, up to 'now', has counted. -/
def tot (f : Int → Int) (now : Int) : Nat → Int
  | 0 => 0
  | n + 1 => tot f now n + f (now - n)

/-- One more at a time. -/
def addAt (f : Int → Int) (at' x : Int) : Int → Int := fun t => if t = at' then f t + x else f t

theorem tot_zero (now : Int) (n : Nat) : tot (fun _ => 0) now n = 0 := by
  induction n with
  | zero => rfl
  | succ n ih => simp [tot, ih]
theorem tot_congr {f g : Int → Int} {now : Int} {n : Nat} (h : ∀ t, now - n < t → t ≤ now → f t = g t) : tot f now n = tot g now n := by
  induction n with
  | zero => rfl
  | succ n ih =>
    simp only [tot]
    rw [ih (fun t h1 h2 => h t (by omega) h2), h (now - n) (by omega) (by omega)]
theorem tot_addAt (f : Int → Int) (now at' x : Int) (n : Nat) : tot (addAt f at' x) now n = tot f now n + (if now - n < at' ∧ at' ≤ now then x else 0) := by
  induction n with
  | zero => simp only [tot]; rw [if_neg (by omega)]; omega
  | succ n ih =>
    simp only [tot, ih, addAt]
    by_cases h : now - n = at'
    · rw [if_pos h, if_neg (by omega), if_pos (by omega)]; omega
    · rw [if_neg h]
      by_cases h2 : now - n < at' ∧ at' ≤ now
      · rw [if_pos h2, if_pos (by omega)]; omega
      · rw [if_neg h2, if_neg (by omega)]; omega
theorem tot_add (f g : Int → Int) (now : Int) (n : Nat) : tot (fun t => f t + g t) now n = tot f now n + tot g now n := by
  induction n with
  | zero => rfl
  | succ n ih => simp only [tot, ih]; omega

/-- One slot of a ring set. -/
def upd (r : Nat → Int) (k : Nat) (x : Int) : Nat → Int := fun j => if j = k then x else r j

/-- The cells of a ring. -/
def ringV (s : Nat) (rg rb : Nat → Int) : Array Value := Array.ofFn (n := s * 2) fun i => if i.1 % 2 = 0 then .int .i64 (rg (i.1 / 2)) else .int .i64 (rb (i.1 / 2))

theorem ringV_size (s : Nat) (rg rb : Nat → Int) : (ringV s rg rb).size = s * 2 := by simp [ringV]
theorem ringV_good {s : Nat} {rg rb : Nat → Int} {k : Nat} (h : k < s) : (ringV s rg rb)[k * 2]? = some (.int .i64 (rg k)) := by
  have : k * 2 < s * 2 := by omega
  simp [ringV, this]
theorem ringV_bad {s : Nat} {rg rb : Nat → Int} {k : Nat} (h : k < s) : (ringV s rg rb)[k * 2 + 1]? = some (.int .i64 (rb k)) := by
  have h1 : k * 2 + 1 < s * 2 := by omega
  have h2 : (k * 2 + 1) % 2 = 1 := by omega
  have h3 : (k * 2 + 1) / 2 = k := by omega
  simp [ringV, h1, h2, h3]
theorem ringV_get (s : Nat) (rg rb : Nat → Int) (i : Nat) : (ringV s rg rb)[i]? = if i < s * 2 then some (if i % 2 = 0 then .int .i64 (rg (i / 2)) else .int .i64 (rb (i / 2))) else none := by
  unfold ringV
  rw [Array.getElem?_ofFn]
  by_cases h : i < s * 2
  · rw [dif_pos h, if_pos h]
  · rw [dif_neg h, if_neg h]
theorem ringV_setGood {s : Nat} {rg rb : Nat → Int} {k : Nat} (h : k < s) (x : Int) : (ringV s rg rb).setIfInBounds (k * 2) (.int .i64 x) = ringV s (upd rg k x) rb := by
  apply Array.ext_getElem?
  intro i
  rw [Array.getElem?_setIfInBounds, ringV_size, ringV_get, ringV_get]
  unfold upd
  by_cases e : k * 2 = i
  · subst e
    have h1 : k * 2 < s * 2 := by omega
    have h2 : k * 2 % 2 = 0 := by omega
    have h3 : k * 2 / 2 = k := by omega
    simp only [h1, h2, h3, if_true]
  · rw [if_neg e]
    by_cases m : i % 2 = 0
    · have : ¬ (i / 2 = k) := by omega
      simp only [if_neg this]
    · simp only [if_neg m]
theorem ringV_setBad {s : Nat} {rg rb : Nat → Int} {k : Nat} (h : k < s) (x : Int) : (ringV s rg rb).setIfInBounds (k * 2 + 1) (.int .i64 x) = ringV s rg (upd rb k x) := by
  apply Array.ext_getElem?
  intro i
  rw [Array.getElem?_setIfInBounds, ringV_size, ringV_get, ringV_get]
  unfold upd
  by_cases e : k * 2 + 1 = i
  · subst e
    have h1 : k * 2 + 1 < s * 2 := by omega
    have h2 : ¬ (k * 2 + 1) % 2 = 0 := by omega
    have h3 : (k * 2 + 1) / 2 = k := by omega
    simp only [h1, h2, h3, if_true, if_false]
  · rw [if_neg e]
    by_cases m : i % 2 = 0
    · simp only [if_pos m]
    · have : ¬ (i / 2 = k) := by omega
      simp only [if_neg this]

/-- The place of a time. -/
def sl (s : Nat) (t : Int) : Nat := (t % (s : Int)).toNat
theorem sl_lt {s : Nat} (hs : 1 ≤ s) (t : Int) : sl s t < s := by
  unfold sl
  have h1 := Int.emod_nonneg t (b := (s : Int)) (by omega)
  have h2 := Int.emod_lt_of_pos t (b := (s : Int)) (by omega)
  omega
theorem sl_cast {s : Nat} (hs : 1 ≤ s) (t : Int) : ((sl s t : Nat) : Int) = t % (s : Int) := by
  unfold sl
  have h1 := Int.emod_nonneg t (b := (s : Int)) (by omega)
  omega
theorem sl_inj {s : Nat} (hs : 1 ≤ s) {t u : Int} (h : sl s t = sl s u) (h1 : t - u < s) (h2 : u - t < s) : t = u := by
  have e : t % (s : Int) = u % (s : Int) := by rw [← sl_cast hs, ← sl_cast hs, h]
  have h3 : (t - u) % (s : Int) = 0 := Int.emod_eq_emod_iff_emod_sub_eq_zero.1 e
  obtain ⟨c, hc⟩ := Int.dvd_of_emod_eq_zero h3
  have : c = 0 := by
    rcases Int.lt_trichotomy c 0 with g | g | g
    · have : (s : Int) * c ≤ (s : Int) * (-1) := Int.mul_le_mul_of_nonneg_left (by omega) (by omega)
      omega
    · exact g
    · have : (s : Int) * 1 ≤ (s : Int) * c := Int.mul_le_mul_of_nonneg_left (by omega) (by omega)
      omega
  rw [this] at hc
  omega

/-- A ring says, at each time of its window, what was counted. -/
structure RI (s : Nat) (now : Int) (some : Bool) (rg rb : Nat → Int) (fg fb : Int → Int) : Prop where
  none : some = false → now = 0 ∧ (∀ k, k < s → rg k = 0 ∧ rb k = 0) ∧ ∀ t, fg t = 0 ∧ fb t = 0
  range : 0 ≤ now ∧ now ≤ 4611686018427387904
  out : ∀ t, t < 0 ∨ now < t → fg t = 0 ∧ fb t = 0
  at' : ∀ t, now - s < t → t ≤ now → 0 ≤ t → rg (sl s t) = wrap64 (fg t) ∧ rb (sl s t) = wrap64 (fb t)

theorem RI.first {s : Nat} {now t : Int} {rg rb : Nat → Int} {fg fb : Int → Int} (hs : 1 ≤ s) (h : RI s now false rg rb fg fb) (h0 : 0 ≤ t) (h1 : t ≤ 4611686018427387904) : RI s t true rg rb fg fb := by
  obtain ⟨_, h2, h3⟩ := h.none rfl
  exact ⟨by simp, ⟨h0, h1⟩, fun u _ => h3 u, fun u _ _ _ => by rw [(h3 u).1, (h3 u).2, wrap64_zero]; exact h2 _ (sl_lt hs u)⟩
theorem RI.clear {s : Nat} {now t : Int} {rg rb : Nat → Int} {fg fb : Int → Int} (h : RI s now true rg rb fg fb) (h0 : t - now ≥ s) (h1 : t ≤ 4611686018427387904) : RI s t true (fun _ => 0) (fun _ => 0) fg fb := by
  have := h.range
  refine ⟨by simp, ⟨by omega, h1⟩, fun u g => h.out u (by omega), fun u g1 g2 g3 => ?_⟩
  have e := h.out u (by omega)
  rw [e.1, e.2, wrap64_zero]; exact ⟨rfl, rfl⟩
theorem RI.step {s : Nat} {now : Int} {rg rb : Nat → Int} {fg fb : Int → Int} (hs : 1 ≤ s) (h : RI s now true rg rb fg fb) (h1 : now + 1 ≤ 4611686018427387904) :
    RI s (now + 1) true (upd rg (sl s (now + 1)) 0) (upd rb (sl s (now + 1)) 0) fg fb := by
  have := h.range
  refine ⟨by simp, ⟨by omega, h1⟩, fun u g => h.out u (by omega), fun u g1 g2 g3 => ?_⟩
  unfold upd
  by_cases e : u = now + 1
  · have e2 := h.out u (by omega)
    rw [e2.1, e2.2, wrap64_zero, e, if_pos rfl]; simp
  · have hne : sl s u ≠ sl s (now + 1) := fun g => e (sl_inj hs g (by omega) (by omega))
    rw [if_neg hne, if_neg hne]
    exact h.at' u (by omega) (by omega) g3
theorem RI.add {s : Nat} {now : Int} {rg rb : Nat → Int} {fg fb : Int → Int} (hs : 1 ≤ s) (h : RI s now true rg rb fg fb) {t : Int} (h0 : 0 ≤ t) (h1 : t ≤ now) (h2 : now - s < t) (x y : Int) :
    RI s now true (upd rg (sl s t) (wrap64 (rg (sl s t) + x))) (upd rb (sl s t) (wrap64 (rb (sl s t) + y))) (addAt fg t x) (addAt fb t y) := by
  refine ⟨by simp, h.range, fun u g => ?_, fun u g1 g2 g3 => ?_⟩
  · unfold addAt; rw [if_neg (by omega), if_neg (by omega)]; exact h.out u g
  · unfold upd addAt
    obtain ⟨e1, e2⟩ := h.at' t h2 h1 h0
    by_cases e : u = t
    · rw [e, if_pos rfl, if_pos rfl, if_pos rfl, if_pos rfl, e1, e2, wrap64_add, wrap64_add]; exact ⟨rfl, rfl⟩
    · have hne : sl s u ≠ sl s t := fun g => e (sl_inj hs g (by omega) (by omega))
      rw [if_neg hne, if_neg hne, if_neg e, if_neg e]
      exact h.at' u g1 g2 g3
/-- What lies outside of the window is free. -/
theorem RI.congr {s : Nat} {now : Int} {b : Bool} {rg rb : Nat → Int} {fg fb fg' fb' : Int → Int} (h : RI s now b rg rb fg fb) (hb : b = true)
    (h1 : ∀ t, t < 0 ∨ now < t → fg' t = 0 ∧ fb' t = 0) (h2 : ∀ t, now - s < t → t ≤ now → 0 ≤ t → fg' t = fg t ∧ fb' t = fb t) : RI s now b rg rb fg' fb' :=
  ⟨fun e => (Bool.false_ne_true (e.symm.trans hb)).elim, h.range, h1, fun t g1 g2 g3 => by rw [(h2 t g1 g2 g3).1, (h2 t g1 g2 g3).2]; exact h.at' t g1 g2 g3⟩
theorem RI.fits {s : Nat} {now : Int} {b : Bool} {rg rb : Nat → Int} {fg fb : Int → Int} (h : RI s now b rg rb fg fb) (n : Nat) (h0 : b = false) : tot fg now n = 0 ∧ tot fb now n = 0 := by
  obtain ⟨_, _, h3⟩ := h.none h0
  exact ⟨by rw [tot_congr (g := fun _ => 0) (fun t _ _ => (h3 t).1), tot_zero], by rw [tot_congr (g := fun _ => 0) (fun t _ _ => (h3 t).2), tot_zero]⟩
/-- The same counts, as far as a ring tells them. -/
theorem RI.congr2 {s : Nat} {now : Int} {rg rb : Nat → Int} {fg fb fg' fb' : Int → Int} (h : RI s now true rg rb fg fb)
    (h1 : ∀ t, t < 0 ∨ now < t → fg' t = 0 ∧ fb' t = 0) (h2 : ∀ t, now - s < t → t ≤ now → 0 ≤ t → wrap64 (fg' t) = wrap64 (fg t) ∧ wrap64 (fb' t) = wrap64 (fb t)) : RI s now true rg rb fg' fb' :=
  ⟨by simp, h.range, h1, fun t g1 g2 g3 => by rw [(h2 t g1 g2 g3).1, (h2 t g1 g2 g3).2]; exact h.at' t g1 g2 g3⟩

/-- Two countings together. -/
def sumF2 (f g : Int → Int) : Int → Int := fun t => f t + g t
/-- With the last k times of another counting. -/
def part (f g : Int → Int) (o : Int) (k : Nat) : Int → Int := fun t => f t + (if o - k < t ∧ t ≤ o then g t else 0)
theorem part_zero (f g : Int → Int) (o : Int) : part f g o 0 = f := by
  funext t; unfold part; rw [if_neg (by omega)]; omega

/-- One more time of the other counting, where it is within. -/
theorem RI.partIn {s : Nat} {now o : Int} {k : Nat} {rg rb : Nat → Int} {fg fb hg hb : Int → Int} (hs : 1 ≤ s) (h : RI s now true rg rb (part fg hg o k) (part fb hb o k)) (h0 : 0 ≤ o - k) (ho : o ≤ now) (hw : now - s < o - k)
    (hf : ∀ t, t < 0 ∨ now < t → fg t = 0 ∧ fb t = 0) (hh : ∀ t, t < 0 ∨ o < t → hg t = 0 ∧ hb t = 0) :
    RI s now true (upd rg (sl s (o - k)) (wrap64 (rg (sl s (o - k)) + wrap64 (hg (o - k))))) (upd rb (sl s (o - k)) (wrap64 (rb (sl s (o - k)) + wrap64 (hb (o - k))))) (part fg hg o (k + 1)) (part fb hb o (k + 1)) := by
  refine (h.add hs h0 (by omega) hw (wrap64 (hg (o - k))) (wrap64 (hb (o - k)))).congr2 (fun t ht => ?_) (fun t t1 t2 t3 => ?_)
  · have e := hf t ht
    have e2 := hh t (by omega)
    unfold part
    rw [e.1, e.2, e2.1, e2.2]; simp
  · unfold addAt part
    by_cases e : t = o - k
    · subst e
      rw [if_pos rfl, if_pos rfl, if_pos (by omega), if_neg (by omega), if_pos (by omega), if_neg (by omega), wrap64_add2, wrap64_add2]
      simp
    · rw [if_neg e, if_neg e]
      by_cases e2 : o - k < t ∧ t ≤ o
      · rw [if_pos e2, if_pos (by omega), if_pos e2, if_pos (by omega)]; exact ⟨rfl, rfl⟩
      · rw [if_neg e2, if_neg (by omega), if_neg e2, if_neg (by omega)]; exact ⟨rfl, rfl⟩
/-- The same where it is not. -/
theorem RI.partOut {s : Nat} {now o : Int} {k : Nat} {rg rb : Nat → Int} {fg fb hg hb : Int → Int} (h : RI s now true rg rb (part fg hg o k) (part fb hb o k)) (ho : o ≤ now) (hw : o - k < 0 ∨ o - k ≤ now - s)
    (hf : ∀ t, t < 0 ∨ now < t → fg t = 0 ∧ fb t = 0) (hh : ∀ t, t < 0 ∨ o < t → hg t = 0 ∧ hb t = 0) :
    RI s now true rg rb (part fg hg o (k + 1)) (part fb hb o (k + 1)) := by
  refine h.congr2 (fun t ht => ?_) (fun t t1 t2 t3 => ?_)
  · have e := hf t ht
    have e2 := hh t (by omega)
    unfold part
    rw [e.1, e.2, e2.1, e2.2]; simp
  · unfold part
    by_cases e2 : o - k < t ∧ t ≤ o
    · rw [if_pos e2, if_pos (by omega), if_pos e2, if_pos (by omega)]; exact ⟨rfl, rfl⟩
    · rw [if_neg e2, if_neg (by omega), if_neg e2, if_neg (by omega)]; exact ⟨rfl, rfl⟩
/-- In the end: all of it. -/
theorem RI.partAll {s : Nat} {now o : Int} {rg rb : Nat → Int} {fg fb hg hb : Int → Int} (h : RI s now true rg rb (part fg hg o s) (part fb hb o s)) (ho : o ≤ now)
    (hf : ∀ t, t < 0 ∨ now < t → fg t = 0 ∧ fb t = 0) (hh : ∀ t, t < 0 ∨ o < t → hg t = 0 ∧ hb t = 0) : RI s now true rg rb (sumF2 fg hg) (sumF2 fb hb) := by
  refine h.congr2 (fun t ht => ?_) (fun t t1 t2 t3 => ?_)
  · have e := hf t ht
    have e2 := hh t (by omega)
    unfold sumF2
    rw [e.1, e.2, e2.1, e2.2]; simp
  · unfold part sumF2
    by_cases e2 : t ≤ o
    · rw [if_pos (by omega), if_pos (by omega)]; exact ⟨rfl, rfl⟩
    · rw [if_neg (by omega), if_neg (by omega), (hh t (by omega)).1, (hh t (by omega)).2]; exact ⟨rfl, rfl⟩
end Go.Proofs.Ytmdfkljmgijdlaa
