/- slices.Backward over functions: its contract. -/
import Derived.Test.YtokfnlfadofmnaaDoorEc
namespace Go.Proofs.YtokfnlfadofmnaaDoor
open Go.RowKit Go.Shelf
set_option linter.unusedVariables false
attribute [local go_sem] Oper.semAt_some

/-- A place in a list. -/
abbrev Pl (len : Nat) : Type := _root_.Fin len
/-- The places from the last one down to k. -/
def dn (len k : Nat) : List (Pl len) := ((List.finRange len).drop k).reverse
theorem dn_len (len : Nat) : dn len len = [] := by unfold dn; rw [List.drop_eq_nil_of_le (by simp)]; rfl
theorem dn_pred {len k : Nat} (h : k < len) : dn len k = dn len (k + 1) ++ [⟨k, h⟩] := by
  unfold dn
  rw [List.drop_eq_getElem_cons (by simpa using h), List.reverse_cons]
  simp
theorem dn_length {len k : Nat} : (dn len k).length = len - k := by unfold dn; simp
def KpF (ib LB : Nat) (W W' : World) : Prop := W'.heap[ib]? = W.heap[ib]? ∧ W'.heap[LB]? = W.heap[LB]?
def encF {len : Nat} (fs : List Value) (x : Pl len) : Array Value := #[.int .i64 (x.1 : Int), fs.getD x.1 undef]
set_option maxRecDepth 100000 in
set_option maxHeartbeats 4000000 in
theorem iter_any (n len cap ib LB l : Nat) (sa : Option Addr) (hn : 1 ≤ n) (hl20 : len ≤ 100) (fs : List Value) (cur : Array Value) (J Jx : List (Pl len) → World → Prop)
    (hY : ∀ pre x W, J pre W → pre.length < len → YieldAt Fence.wide (n - 1) Tryd.prog l (encF fs x) W fun e W' => (e = .returned (.bool true) ∧ J (pre ++ [x]) W' ∧ KpF ib LB W W') ∨ (e = .returned (.bool false) ∧ Jx (pre ++ [x]) W'))
    (W : World) (hib : W.heap[ib]? = some (.cells #[.slice sa len cap] 45 (0, 0))) (hLB : 0 < len → sa = some ⟨LB, 0, none⟩ ∧ W.heap[LB]? = some (.cells cur 46 (0, 0))) (hcur : ∀ i, i < len → cur[i]? = some (fs.getD i undef)) (h0 : J [] W) :
    CallsIn Fence.wide n Tryd.prog 25 #[.func (.yield l) #[] #[], .pointer (some ⟨ib, 0, none⟩)] W fun e W' => (∃ v, e = .returned v) ∧ ((∃ xs, xs = dn len 0 ∧ J xs W') ∨ (∃ pre, True ∧ Jx pre W')) := by
  have cib : W.cell? ⟨ib, 0, none⟩ = some (.slice sa len cap) := by rw [cell_of_block hib]; rfl
  refine callsIn_of_wp Tryd.func25 rfl trivial ?_ rfl
  simp only [Tryd.ntmps25, List.size_toArray, List.length_cons, List.length_nil, Nat.reduceAdd, Nat.reduceSub, Array.replicate_succ, Array.replicate_zero, List.push_toArray, List.append_toArray, List.nil_append, List.cons_append]
  gi_wp2
  gi_loopw [3] (fun p wr => ∃ k : Nat, k ≤ len ∧ p = .int .i64 ((k : Int) - 1) ∧ J (dn len k) wr ∧ wr.heap[ib]? = some (.cells #[.slice sa len cap] 45 (0, 0)) ∧ (0 < len → sa = some ⟨LB, 0, none⟩ ∧ wr.heap[LB]? = some (.cells cur 46 (0, 0))))
    (fun p wr => (intOf p + 1).toNat)
  case atStart =>
    exact ⟨len, Nat.le_refl _, rfl, by rw [dn_len]; exact h0, hib, hLB⟩
  case round =>
    obtain ⟨k, hk, rfl, hJs, hib2, hLB2⟩ := hrel
    cases k with
    | zero =>
      gi_wp2
      go_end0
      exact ⟨⟨_, rfl⟩, .inl ⟨_, rfl, hJs⟩⟩
    | succ k =>
      obtain ⟨esa, hLB2'⟩ := hLB2 (by omega)
      subst esa
      replace hLB2 := hLB2'
      clear hLB2'
      obtain ⟨fn, tmps, assign, body, hy, hR⟩ := hY _ ⟨k, by omega⟩ wr hJs (by rw [dn_length]; omega)
      dsimp only [encF] at hy
      have cib2 : wr.cell? ⟨ib, 0, none⟩ = some (.slice (some ⟨LB, 0, none⟩) len cap) := by rw [cell_of_block hib2]; rfl
      have cLB2 : wr.cell? ⟨LB, k, none⟩ = some (fs.getD k undef) := by rw [cell_of_block hLB2]; exact hcur k (by omega)
      obtain ⟨f, hf⟩ : ∃ f, fs.getD k undef = f := ⟨_, rfl⟩
      rw [hf] at hy cLB2
      have e1 : ((k + 1 : Nat) : Int) - 1 = (k : Int) := by omega
      rw [e1]
      gi_wp2
      refine hR.mono ?_
      rintro e W3 (⟨rfl, hJ3, hk3⟩ | ⟨rfl, hJx3⟩)
      · rw [← dn_pred] at hJ3
        have hib3 := hk3.1.trans hib2
        have hLB3 := hk3.2.trans hLB2
        have HH := Lib.hid (And.intro hJ3 (And.intro hib3 hLB3))
        clear hJ3 hib3 hLB3 hk3 hJs hib2 hLB2
        gi_wp2
        go_roundw
        case rel => exact ⟨k, by omega, rfl, HH.out.1, HH.out.2.1, fun _ => ⟨by trivial, HH.out.2.2⟩⟩
        case measure => simp [intOf]
      · gi_wp2
        refine bodyPost_ret (results_none rfl _ _ _) rfl ?_
        exact ⟨⟨_, rfl⟩, .inr ⟨_, trivial, hJx3⟩⟩
end Go.Proofs.YtokfnlfadofmnaaDoor
