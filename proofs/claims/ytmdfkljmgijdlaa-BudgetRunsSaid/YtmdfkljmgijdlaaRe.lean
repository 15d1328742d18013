/- Before BudgetShares' walk. -/
import Derived.Test.YtmdfkljmgijdlaaRd
namespace Go.Proofs.Ytmdfkljmgijdlaa
open Go.RowKit
set_option linter.unusedVariables false

/-- Counts of at most K notes of at most 999. -/
def Bd (K : Nat) (f : Int → Int) : Prop := ∀ (now : Int) (n : Nat), 0 ≤ tot f now n ∧ tot f now n ≤ 999 * (K : Int)
theorem Bd.none (K : Nat) : Bd K noneF := fun now n => by rw [tot_none]; omega
theorem Bd.mono {K L : Nat} {f : Int → Int} (h : Bd K f) (hk : K ≤ L) : Bd L f := fun now n => by have := h now n; omega
theorem Bd.add {K : Nat} {f : Int → Int} (h : Bd K f) (u x : Int) (hx : 0 ≤ x) (hx2 : x ≤ 999) : Bd (K + 1) (addAt f u x) := fun now n => by
  have := h now n
  rw [tot_addAt]
  split <;> omega
theorem Bd.nat {K : Nat} {f : Int → Int} (h : Bd K f) (hK : K ≤ 400) (now : Int) (n : Nat) : ∃ G : Nat, sumW f now n = (G : Int) ∧ tot f now n = (G : Int) ∧ G ≤ 400000 := by
  have h1 := h now n
  have e : sumW f now n = tot f now n := IntWalk.wrap64_in _ (by omega)
  exact ⟨(tot f now n).toNat, by omega, by omega, by omega⟩

/-- One more bad, at the latest time. -/
theorem sum_more {K : Nat} {f : Int → Int} (h : Bd K f) (hK : K ≤ 400) (now x : Int) (n : Nat) (hn : 1 ≤ n) (hx : 0 ≤ x) (hx2 : x ≤ 999) : sumW (addAt f now x) (max now now) n = sumW f now n + x := by
  have h1 := h now n
  unfold sumW
  rw [show max now now = now by omega, tot_addAt, if_pos (by omega), IntWalk.wrap64_in _ (by omega), IntWalk.wrap64_in _ (by omega)]

theorem fire_more {K t s : Nat} {fg fb : Int → Int} {now m : Int} {r : Int × Int × Nat} (hg : Bd K fg) (hb : Bd K fb) (hK : K ≤ 400) (t0 : 0 < t) (t1 : t < Fl.one) (hm : 0 ≤ m) (hm2 : m ≤ 999) (hw : winB s r.1 ∧ winB s r.2.1)
    (h : fireB t now fg fb r = true) : fireB t (max now now) (addAt fg now 0) (addAt fb now m) r = true := by
  unfold fireB at h ⊢
  rw [Bool.and_eq_true] at h ⊢
  obtain ⟨m', rfl⟩ := Int.eq_ofNat_of_zero_le hm
  have each : ∀ x : Int, winB s x → geqB (burnC t (sumW fg now x.toNat) (sumW fb now x.toNat)) r.2.2 = true → geqB (burnC t (sumW (addAt fg now 0) (max now now) x.toNat) (sumW (addAt fb now m') (max now now) x.toNat)) r.2.2 = true := by
    intro x hx hq
    have h1 : 1 ≤ x.toNat := by have := hx.1; omega
    obtain ⟨G, e1, _, l1⟩ := hg.nat hK now x.toNat
    obtain ⟨B, e2, _, l2⟩ := hb.nat hK now x.toNat
    rw [sum_more hg hK now 0 _ h1 (by omega) (by omega), sum_more hb hK now m' _ h1 (by omega) hm2, e1, e2]
    rw [e1, e2] at hq
    have := geqB_mono (t := t) (g := G) (b := B) (m := m') (f := r.2.2) (by omega) t0 t1 hq
    rw [Int.add_zero]
    exact this
  exact ⟨each _ hw.1 h.1, each _ hw.2 h.2⟩

theorem bnew_plan (t s : Nat) (hs1 : 1 ≤ s) (hs : s ≤ 1024) (h : (FloatKind.f64.format.order t 0 == some .gt) = false ∨ (FloatKind.f64.format.order t 4607182418800017408 == some .lt) = false) (w : World) :
    Calls Try.prog 18 #[.float .f64 t, .int .i64 s] w fun e w' => e = .returned (.tuple #[.pointer none, .int .i64 260]) ∧ w' = w := by
  have i1 : ¬ ((s : Int) < 1) := by omega
  have i2 : (s : Int) ≤ 1024 := by omega
  clear hs1 hs
  cases h0 : (FloatKind.f64.format.order t 0 == some .gt)
  · clear h
    go_enter Try.func18, Try.ntmps18
    go_wp2
    go_ret2
    exact ⟨rfl, rfl⟩
  · have h1 : (FloatKind.f64.format.order t 4607182418800017408 == some .lt) = false := by rcases h with h | h; rw [h0] at h; cases h; exact h
    clear h
    go_enter Try.func18, Try.ntmps18
    go_wp2
    go_ret2
    exact ⟨rfl, rfl⟩

/-- A budget that has taken few notes. -/
def Few (K : Nat) (W : World) (b g t s : Nat) : Prop := ∃ now m fg fb, BG W b g t s now m fg fb ∧ Bd K fg ∧ Bd K fb
theorem few_note {K : Nat} {W : World} {b g t s : Nat} (h : Few K W b g t s) (x y z : Int) (hy : y < 1000) (hz : z < 1000) :
    Calls Try.prog 20 #[.pointer (some ⟨b, 0, none⟩), .int .i64 x, .int .i64 y, .int .i64 z] W fun e w' => ∃ c : Int, e = .returned (.int .i64 c) ∧ Few (K + 1) w' b g t s ∧ Fr b g W w' := by
  obtain ⟨now, m, fg, fb, hb, h1, h2⟩ := h
  by_cases hm : mayB x y z
  · refine (note_step hb x y z hm).mono ?_
    rintro e w' ⟨c, _, rfl, hb', hf⟩
    have hm' := hm
    unfold mayB at hm'
    exact ⟨c, rfl, ⟨_, _, _, _, hb', h1.add _ _ (by omega) (by omega), h2.add _ _ (by omega) (by omega)⟩, hf⟩
  · refine (note_arg W b x y z hm).mono ?_
    rintro e w' ⟨rfl, rfl⟩
    exact ⟨1, rfl, ⟨now, m, fg, fb, hb, h1.mono (by omega), h2.mono (by omega)⟩, Fr.refl _ _ _⟩

theorem fires_cells {W : World} {B n : Nat} {v : Value} {F : Nat → Bool} (hown : W.ownsRow B 4 1 v n (bl F n)) (hv : v ≠ .slice none 0 0) :
    ∃ g1 c1, v = .slice (some ⟨g1, 0, none⟩) n c1 ∧ B ≤ g1 ∧ g1 < W.heap.size ∧ ∀ i, i < n → W.cell? ⟨g1, i, none⟩ = some (.bool (F i)) := by
  rcases hown.2 with ⟨h, _⟩ | ⟨g1, c1, cur, rfl, _⟩
  · exact absurd h hv
  · have hl := hown.lt g1 rfl
    refine ⟨g1, c1, rfl, hl.1, hl.2, fun i hi => ?_⟩
    have := hown.cells (g := g1) rfl i _ (bl_get F n i hi)
    rwa [Addr.add_lit, Nat.zero_add] at this

end Go.Proofs.Ytmdfkljmgijdlaa
