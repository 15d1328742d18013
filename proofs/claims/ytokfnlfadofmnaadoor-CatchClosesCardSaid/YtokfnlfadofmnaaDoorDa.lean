/- Long runs, plainly: a row that tells, a jump to itself, a frame that defers itself. -/
import Derived.Test.YtokfnlfadofmnaaDoorCo
namespace Go.Proofs.YtokfnlfadofmnaaDoor
open Go.RowKit
set_option linter.unusedVariables false

def tellN (N : Nat) : List (List Stp) := [List.replicate N ⟨4, 0, 0⟩]
def jumpF : List (List Stp) := [[⟨16, 0, 0⟩]]
def callF : List (List Stp) := [[⟨5, 0, 0⟩]]
def defF : List (List Stp) := [[⟨6, 0, 0⟩]]

theorem tell_get (N k : Nat) (h : k < N) : ((tellN N).getD 0 []).getD k default = ⟨4, 0, 0⟩ := by
  show (List.replicate N (⟨4, 0, 0⟩ : Stp)).getD k default = _
  simp [List.getD, h]
theorem tell_len (N : Nat) : ((tellN N).getD 0 []).length = N := by
  show (List.replicate N (⟨4, 0, 0⟩ : Stp)).length = _
  simp
theorem tell_run (N : Nat) (wd : Int → ByteArray) (d : Nat) (r : Res) : ∀ (k at_ n : Nat) (m : Mst), at_ + k = N → k + 2 ≤ n → m.steps + k ≤ 10000 → m.spent = false → ∃ o, runL (tellN N) wd n d 0 at_ r none [] m = some ⟨r, none, none, ⟨m.steps + k, false, o⟩⟩ ∧ o.length = m.out.length + k
  | 0, at_, n, m, h1, h2, h3, h4 => by
    obtain ⟨n, rfl⟩ : ∃ j, n = j + 2 := ⟨n - 2, by omega⟩
    refine ⟨m.out, ?_, rfl⟩
    simp only [runL, tell_len, leaveL]
    rw [if_neg (by omega)]
    obtain ⟨s, sp, o⟩ := m
    simp only at h4
    rw [h4]; rfl
  | k + 1, at_, n, m, h1, h2, h3, h4 => by
    obtain ⟨n, rfl⟩ : ∃ j, n = j + 1 := ⟨n - 1, by omega⟩
    have hs : spend m = m := by unfold spend; rw [if_neg (by omega)]
    obtain ⟨o, e1, e2⟩ := tell_run N wd d r k (at_ + 1) n (say ⟨(0 : Nat), at_, r.number, Pan.none⟩ (tick m)) (by omega) (by omega) (by show m.steps + 1 + k ≤ 10000; omega) h4
    refine ⟨o, ?_, by rw [e2]; simp [say, tick]; omega⟩
    simp only [runL, tell_len]
    rw [if_pos (by omega), hs, h4, if_neg (by simp), tell_get N at_ (by omega)]
    simp only []
    rw [if_neg (by decide), if_neg (by decide), if_neg (by decide), if_neg (by decide), if_pos trivial, e1]
    simp [say, tick]; omega
theorem jump_run (wd : Int → ByteArray) (d : Nat) (r : Res) : ∀ (k n : Nat) (m : Mst), k + 2 ≤ n → m.steps + k = 10000 → m.spent = false → runL jumpF wd n d 0 0 r none [] m = some ⟨r, none, none, ⟨10000, true, m.out⟩⟩
  | 0, n, m, h2, h3, h4 => by
    obtain ⟨n, rfl⟩ : ∃ j, n = j + 2 := ⟨n - 2, by omega⟩
    have hs : spend m = ⟨10000, true, m.out⟩ := by unfold spend; rw [if_pos (by omega)]; obtain ⟨s, sp, o⟩ := m; simp only at h3; congr 1
    simp only [runL, leaveL]
    rw [if_pos (by decide), hs, if_pos rfl]
  | k + 1, n, m, h2, h3, h4 => by
    obtain ⟨n, rfl⟩ : ∃ j, n = j + 1 := ⟨n - 1, by omega⟩
    have hs : spend m = m := by unfold spend; rw [if_neg (by omega)]
    have ih := jump_run wd d r k n (tick m) (by omega) (by show m.steps + 1 + k = 10000; omega) h4
    simp only [runL]
    rw [if_pos (by decide), hs, h4, if_neg (by simp)]
    exact ih
theorem def_run (wd : Int → ByteArray) : ∀ (k n d : Nat) (r : Res) (q : Option Pan) (m : Mst), 4 * k + 4 ≤ n → m.steps + k = 10000 → m.spent = false → runL defF wd n d 0 0 r q [] m = some ⟨r, q, none, ⟨10000, true, m.out⟩⟩
  | 0, n, d, r, q, m, h2, h3, h4 => by
    obtain ⟨n, rfl⟩ : ∃ j, n = j + 2 := ⟨n - 2, by omega⟩
    have hs : spend m = ⟨10000, true, m.out⟩ := by unfold spend; rw [if_pos (by omega)]; obtain ⟨s, sp, o⟩ := m; simp only at h3; congr 1
    simp only [runL, leaveL]
    rw [if_pos (by decide), hs, if_pos rfl]
  | k + 1, n, d, r, q, m, h2, h3, h4 => by
    obtain ⟨n, rfl⟩ : ∃ j, n = j + 4 := ⟨n - 4, by omega⟩
    have hs : spend m = m := by unfold spend; rw [if_neg (by omega)]
    have ih := def_run wd k (n + 1) (d + 1) Res.new none (tick m) (by omega) (by show m.steps + 1 + k = 10000; omega) h4
    have e1 : runL defF wd (n + 4) d 0 0 r q [] m = runL defF wd (n + 3) d 0 1 r q [⟨false, 0⟩] (tick m) := by
      rw [runL, if_pos (by decide), hs, h4, if_neg (by simp)]
      rfl
    have e2 : runL defF wd (n + 3) d 0 1 r q [⟨false, 0⟩] (tick m) = leaveL defF wd (n + 2) d r q [⟨false, 0⟩] none (tick m) := by
      rw [runL, if_neg (by decide)]
    rw [e1, e2, leaveL]
    simp only [Bool.false_eq_true, if_false]
    rw [ih]
    rfl
theorem call_run (wd : Int → ByteArray) : ∀ (k n d : Nat) (r : Res) (q : Option Pan) (m : Mst), d + k = 64 → 2 * k + 3 ≤ n → m.steps + k + 1 ≤ 10000 → m.spent = false → runL callF wd n d 0 0 r q [] m = some ⟨r, q, some Pan.rt, ⟨m.steps + k + 1, false, m.out⟩⟩
  | 0, n, d, r, q, m, h1, h2, h3, h4 => by
    obtain ⟨n, rfl⟩ : ∃ j, n = j + 2 := ⟨n - 2, by omega⟩
    have hs : spend m = m := by unfold spend; rw [if_neg (by omega)]
    have e1 : runL callF wd (n + 2) d 0 0 r q [] m = if 64 ≤ d then leaveL callF wd (n + 1) d r q [] (some Pan.rt) (tick m) else (match runL callF wd (n + 1) (d + 1) 0 0 Res.new none [] (tick m) with | none => none | some x => match x.p with | some p => leaveL callF wd (n + 1) d r q [] (some p) x.m | none => runL callF wd (n + 1) d 0 1 (givenR x.m.spent r x.r) q [] x.m) := by
      rw [runL, if_pos (by decide), hs, h4, if_neg (by simp)]
      rfl
    rw [e1, if_pos (by omega), leaveL]
    obtain ⟨s, sp, o⟩ := m
    simp only at h4
    rw [h4]; rfl
  | k + 1, n, d, r, q, m, h1, h2, h3, h4 => by
    obtain ⟨n, rfl⟩ : ∃ j, n = j + 2 := ⟨n - 2, by omega⟩
    have hs : spend m = m := by unfold spend; rw [if_neg (by omega)]
    have e1 : runL callF wd (n + 2) d 0 0 r q [] m = if 64 ≤ d then leaveL callF wd (n + 1) d r q [] (some Pan.rt) (tick m) else (match runL callF wd (n + 1) (d + 1) 0 0 Res.new none [] (tick m) with | none => none | some x => match x.p with | some p => leaveL callF wd (n + 1) d r q [] (some p) x.m | none => runL callF wd (n + 1) d 0 1 (givenR x.m.spent r x.r) q [] x.m) := by
      rw [runL, if_pos (by decide), hs, h4, if_neg (by simp)]
      rfl
    have ih := call_run wd k (n + 1) (d + 1) Res.new none (tick m) (by omega) (by omega) (by show m.steps + 1 + k + 1 ≤ 10000; omega) h4
    rw [e1, if_neg (by omega), ih]
    simp only [leaveL]
    have e : (tick m).steps + k + 1 = m.steps + (k + 1) + 1 := by show m.steps + 1 + k + 1 = _; omega
    rw [e]; rfl
theorem call_m0 : runL callF itoaB 400 1 0 0 Res.new none [] m0 = some ⟨Res.new, none, some Pan.rt, ⟨64, false, []⟩⟩ := call_run itoaB 63 400 1 Res.new none m0 (by decide) (by decide) (by decide) rfl
theorem tell_m0 : ∃ o, runL (tellN 10000) itoaB 10010 1 0 0 Res.new none [] m0 = some ⟨Res.new, none, none, ⟨10000, false, o⟩⟩ ∧ o.length = 10000 := by
  obtain ⟨o, h1, h2⟩ := tell_run 10000 itoaB 1 Res.new 10000 0 10010 m0 (by decide) (by decide) (by decide) rfl
  exact ⟨o, h1, h2⟩
theorem jump_m0 : runL jumpF itoaB 10010 1 0 0 Res.new none [] m0 = some ⟨Res.new, none, none, ⟨10000, true, []⟩⟩ := jump_run itoaB 1 Res.new 10000 10010 m0 (by decide) (by decide) rfl
theorem def_m0 : runL defF itoaB 50000 1 0 0 Res.new none [] m0 = some ⟨Res.new, none, none, ⟨10000, true, []⟩⟩ := def_run itoaB 10000 50000 1 Res.new none m0 (by decide) (by decide) rfl
theorem tell_ok (N : Nat) : progOk (tellN N) = true := by
  unfold tellN progOk
  rw [List.all_eq_true]
  intro f hf
  rw [List.mem_singleton] at hf
  subst hf
  rw [List.all_eq_true]
  intro s hs
  rw [List.eq_of_mem_replicate hs]
  simp [stepOk]
theorem tell_tot (N : Nat) : totL (tellN N) 1 = N := by
  simp only [totL]
  rw [tell_len]; omega
end Go.Proofs.YtokfnlfadofmnaaDoor
