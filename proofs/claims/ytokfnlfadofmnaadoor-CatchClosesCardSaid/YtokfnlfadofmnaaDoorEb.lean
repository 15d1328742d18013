/- catch.Guard: what it tells of what it does. -/
import Derived.Test.YtokfnlfadofmnaaDoorEa
namespace Go.Proofs.YtokfnlfadofmnaaDoor
open Go.RowKit
set_option linter.unusedVariables false

structure KB (pb : Nat) (w w' : World) : Prop where
  os : w'.os = w.os
  tape : w'.tape = w.tape
  output : w'.output = w.output
  size : w.heap.size ≤ w'.heap.size
  block : ∀ b, b < w.heap.size → b ≠ pb → w'.heap[b]? = w.heap[b]?
theorem KB.trans {pb : Nat} {w w1 w2 : World} (h : KB pb w w1) (k : KB pb w1 w2) : KB pb w w2 :=
  ⟨k.os.trans h.os, k.tape.trans h.tape, k.output.trans h.output, Nat.le_trans h.size k.size, fun b h1 h2 => (k.block b (Nat.lt_of_lt_of_le h1 h.size) h2).trans (h.block b h1 h2)⟩
theorem KB.of_below {pb : Nat} {w w' : World} (h : Below w.heap.size w w') : KB pb w w' := ⟨h.os, h.tape, h.output, h.size, fun b h1 _ => h.block b h1⟩
theorem KB.setP {pb : Nat} {p : Pan} {w : World} : KB pb w (setP pb p w) := ⟨rfl, rfl, rfl, by simp [YtokfnlfadofmnaaDoor.setP], fun b _ h2 => setP_other h2⟩
set_option maxRecDepth 100000 in
set_option maxHeartbeats 2000000 in
theorem guard1_run {w : World} {pb : Nat} {u : FrameMode} {q : Option Pan} {cp : Array Value} (hu : ModeIn u q) (hp : w.heap[pb]? = some (.cells cp 29 (0, 0))) (hc : cp.size = 3) :
    CallsD Tryd.prog 24 #[.pointer (some ⟨pb, 0, none⟩)] u w fun e u' w' => ModeIn u' none ∧ e = .returned (.tuple #[]) ∧ ∃ w2, Below w.heap.size w w2 ∧ w' = setP pb (q.getD Pan.none) w2 := by
  refine callsD_of_wpK Tryd.func24 rfl fun c0 cs hc0 => ?_
  have hB : Bn .deferred (c0 :: cs) (c0 :: cs) q := .inr ⟨rfl, c0, cs, u, rfl, by rw [← hc0], hu⟩
  obtain ⟨v, cs', hrec, hB'⟩ : ∃ v cs', Recs .deferred (c0 :: cs) cs' v (q.getD Pan.none) ∧ Bn .deferred (c0 :: cs) cs' none := by
    cases q with
    | none => exact ⟨.nilIface, c0 :: cs, .inr ⟨hB.rec_none, rfl, rfl, rfl⟩, hB⟩
    | some p => obtain ⟨v, cs', e, hv, hb⟩ := hB.rec_some; exact ⟨v, cs', .inl ⟨e, hv⟩, hb⟩
  obtain ⟨p, hpq⟩ : ∃ p, q.getD Pan.none = p := ⟨_, rfl⟩
  rw [hpq] at hrec ⊢
  refine wpK_seq ?_
  refine wpK_region (.inr rfl) ?_
  change wpOpsK _ _ _ _ [0, 1, 2] _ _ _
  rw [Tryd.ntmps24]
  simp only [Array.size, List.length]
  refine hrec.op (d := some 1) rfl rfl (by rfl) (by rfl) ?_
  refine wpOpsK_op rfl (by rfl) (fun K hK => ?_)
  go_simp
  go_at_call 22
  refine (told_any hrec.val _).mono ?_
  rintro e w2 ⟨rfl, hb⟩
  have hp2 : w2.heap[pb]? = some (.cells cp 29 (0, 0)) := by rw [hb.block _ (Array.getElem?_eq_some_iff.1 hp).1]; exact hp
  refine hK.out _ _ ?_
  clear hK K
  obtain ⟨x0, hx0⟩ : ∃ x, cp[0]? = some x := ⟨cp[0]'(by omega), by simp [hc]⟩
  obtain ⟨x1, hx1⟩ : ∃ x, cp[1]? = some x := ⟨cp[1]'(by omega), by simp [hc]⟩
  obtain ⟨x2, hx2⟩ : ∃ x, cp[2]? = some x := ⟨cp[2]'(by omega), by simp [hc]⟩
  have k0 : w2.cell? ⟨pb, 0, none⟩ = some x0 := by rw [cell_of_block hp2]; exact hx0
  have k1 : w2.cell? ⟨pb, 1, none⟩ = some x1 := by rw [cell_of_block hp2]; exact hx1
  have k2 : w2.cell? ⟨pb, 2, none⟩ = some x2 := by rw [cell_of_block hp2]; exact hx2
  have kf : ∀ i, w2.frozen? ⟨pb, i, none⟩ = false := fun i => frozen_of_block hp2 i
  refine wpOpsK_op rfl (by rfl) (fun K hK => ?_)
  unfold pc
  go_simp
  refine hK.out _ _ ?_
  clear hK K
  refine wpK_of_wp ?_
  go_wp2
  rcases hB' with ⟨h, _⟩ | ⟨_, c1, rest, u', h1, h2, h3⟩
  · cases h
  · cases h1
    exact ⟨.tuple #[], results_none rfl _ _ _, u', h2, h3, rfl, w2, hb, rfl⟩

theorem guard_end {pb : Nat} {W : World} {u : FrameMode} {q : Option Pan} {t : Array Value} {cp : Array Value} {Q : Ending → World → Prop} (hu : ModeOut u q) (ht : t.getD 2 undef = .pointer (some ⟨pb, 0, none⟩)) (hp : W.heap[pb]? = some (.cells cp 29 (0, 0))) (hcp : cp.size = 3)
    (hQ : ∀ w', KB pb W w' → Q (.returned (.agg (pc (q.getD Pan.none)))) w') : Leaves Tryd.prog Tryd.f16 t Q [{ target := .fn (.func 24) #[.pointer (some ⟨pb, 0, none⟩)], args := #[] }] u W := by
  refine leaves_cons (f := 24) (args := #[.pointer (some ⟨pb, 0, none⟩)]) hu.ne (by rfl) ((guard1_run hu.inn hp hcp).mono ?_)
  rintro e u' w' ⟨hm, rfl, w3, hb, rfl⟩
  have h2 : settle u' = .returning := settle_out hm
  show Leaves _ _ _ _ [] (settle u') _
  rw [h2]
  have hp3 : w3.heap[pb]? = some (.cells cp 29 (0, 0)) := by rw [hb.block _ (Array.getElem?_eq_some_iff.1 hp).1]; exact hp
  exact ⟨_, results_cell_row rfl t _ pb 29 (pc (q.getD Pan.none)) (0, 0) _ ht (setP_at hp3 hcp) Tryd.underlying29 rfl (by kernel_rfl), hQ _ ((KB.of_below hb).trans .setP)⟩
set_option maxRecDepth 100000 in
set_option maxHeartbeats 2000000 in
theorem guard_nil (w : World) : Calls Tryd.prog 16 #[.nilFunc] w fun e w' => e = .returned (.agg (pc Pan.none)) ∧ Below w.heap.size w w' := by
  have hnil : ∀ w, (binOp .eql 1 .nilFunc .nilFunc).run Tryd.prog w = .ok (.bool true) w := fun w => by rfl
  go_enter Tryd.func16, Tryd.ntmps16
  go_wp2
  exact bodyPost_ret (results_cell_row rfl _ _ w.heap.size 29 (pc Pan.none) (0, 0) _ rfl (alloc_at _ _) Tryd.underlying29 rfl (by kernel_rfl)) rfl ⟨rfl, (Below.refl _ _).alloc (Nat.le_refl _) _⟩

def GPost17 (pb : Nat) (R : Option Pan → World → Prop) (e : Ending) (w' : World) : Prop := ∃ q w2, e = .returned (.agg (pc (q.getD Pan.none))) ∧ R q w2 ∧ KB pb w2 w'
set_option maxRecDepth 100000 in
set_option maxHeartbeats 2000000 in
theorem guard_17 {w : World} {fb eb : Nat} {R : Option Pan → World → Prop} (hdo : Calls Tryd.prog 17 #[.pointer (some ⟨fb, 0, none⟩), .pointer (some ⟨eb, 0, none⟩)] (w.alloc (.cells #[.int .i64 0, .string ⟨#[]⟩, .int .i64 0] 29)) fun e w' => ∃ q, EndOk q e ∧ R q w' ∧ w'.heap[w.heap.size]? = some (.cells (pc Pan.none) 29 (0, 0))) :
    Calls Tryd.prog 16 #[.func (.func 17) #[] #[.pointer (some ⟨fb, 0, none⟩), .pointer (some ⟨eb, 0, none⟩)]] w (GPost17 w.heap.size R) := by
  have hmf : ∀ (fn : Fn) (first cap : Array Value) (w : World), (Instr.makeFunc fn first cap).run Tryd.prog w = .ok (.func fn first cap) w := fun _ _ _ _ => rfl
  have hnil : ∀ w, (binOp .eql 1 (.func (.func 17) #[] #[.pointer (some ⟨fb, 0, none⟩), .pointer (some ⟨eb, 0, none⟩)]) .nilFunc).run Tryd.prog w = .ok (.bool false) w := fun w => by rfl
  go_enter_defers Tryd.func16, Tryd.ntmps16
  go_wp2_with fail
  refine hdo.mono ?_
  rintro e w2 ⟨q, he, hR, hp⟩
  rcases q with _ | p
  · have he' : e = .returned (.tuple #[]) := he
    subst he'
    have k0 : w2.cell? ⟨w.heap.size, 0, none⟩ = some (.int .i64 0) := by rw [cell_of_block hp]; rfl
    have k1 : w2.cell? ⟨w.heap.size, 1, none⟩ = some (.string ⟨#[]⟩) := by rw [cell_of_block hp]; rfl
    have k2 : w2.cell? ⟨w.heap.size, 2, none⟩ = some (.int .i64 0) := by rw [cell_of_block hp]; rfl
    have kf : ∀ i, w2.frozen? ⟨w.heap.size, i, none⟩ = false := fun i => frozen_of_block hp i
    have HR := Lib.hid (And.intro hR hp)
    clear hR hp
    go_wp2_with fail
    exact guard_end (W := setP w.heap.size Pan.none w2) (q := none) (u := .returning) rfl rfl (setP_at HR.out.2 rfl) rfl (fun w' hk => ⟨none, w2, rfl, HR.out.1, KB.trans .setP hk⟩)
  · obtain ⟨v, o, rfl, hv, ho⟩ := he
    go_wp2_with fail
    exact guard_end (q := some p) ⟨v, o, rfl, hv, ho⟩ rfl hp rfl (fun w' hk => ⟨some p, w2, rfl, hR, hk⟩)

def GPost19 (pb : Nat) (R : Option Pan → World → Prop) (e : Ending) (w' : World) : Prop := ∃ q w2, e = .returned (.agg (pc (q.getD Pan.none))) ∧ R q w2 ∧ KB pb w2 w'
set_option maxRecDepth 100000 in
set_option maxHeartbeats 2000000 in
theorem guard_19 {w : World} {fb : Nat} {R : Option Pan → World → Prop} (hdo : Calls Tryd.prog 19 #[.pointer (some ⟨fb, 0, none⟩)] (w.alloc (.cells #[.int .i64 0, .string ⟨#[]⟩, .int .i64 0] 29)) fun e w' => ∃ q, EndOk q e ∧ R q w' ∧ w'.heap[w.heap.size]? = some (.cells (pc Pan.none) 29 (0, 0))) :
    Calls Tryd.prog 16 #[.func (.func 19) #[] #[.pointer (some ⟨fb, 0, none⟩)]] w (GPost19 w.heap.size R) := by
  have hmf : ∀ (fn : Fn) (first cap : Array Value) (w : World), (Instr.makeFunc fn first cap).run Tryd.prog w = .ok (.func fn first cap) w := fun _ _ _ _ => rfl
  have hnil : ∀ w, (binOp .eql 1 (.func (.func 19) #[] #[.pointer (some ⟨fb, 0, none⟩)]) .nilFunc).run Tryd.prog w = .ok (.bool false) w := fun w => by rfl
  go_enter_defers Tryd.func16, Tryd.ntmps16
  go_wp2_with fail
  refine hdo.mono ?_
  rintro e w2 ⟨q, he, hR, hp⟩
  rcases q with _ | p
  · have he' : e = .returned (.tuple #[]) := he
    subst he'
    have k0 : w2.cell? ⟨w.heap.size, 0, none⟩ = some (.int .i64 0) := by rw [cell_of_block hp]; rfl
    have k1 : w2.cell? ⟨w.heap.size, 1, none⟩ = some (.string ⟨#[]⟩) := by rw [cell_of_block hp]; rfl
    have k2 : w2.cell? ⟨w.heap.size, 2, none⟩ = some (.int .i64 0) := by rw [cell_of_block hp]; rfl
    have kf : ∀ i, w2.frozen? ⟨w.heap.size, i, none⟩ = false := fun i => frozen_of_block hp i
    have HR := Lib.hid (And.intro hR hp)
    clear hR hp
    go_wp2_with fail
    exact guard_end (W := setP w.heap.size Pan.none w2) (q := none) (u := .returning) rfl rfl (setP_at HR.out.2 rfl) rfl (fun w' hk => ⟨none, w2, rfl, HR.out.1, KB.trans .setP hk⟩)
  · obtain ⟨v, o, rfl, hv, ho⟩ := he
    go_wp2_with fail
    exact guard_end (q := some p) ⟨v, o, rfl, hv, ho⟩ rfl hp rfl (fun w' hk => ⟨some p, w2, rfl, hR, hk⟩)
end Go.Proofs.YtokfnlfadofmnaaDoor
