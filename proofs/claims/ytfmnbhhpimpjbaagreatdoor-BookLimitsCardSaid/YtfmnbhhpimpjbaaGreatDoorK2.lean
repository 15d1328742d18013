/- More small laws of the walk: a cell stored. -/
import Derived.Test.YtfmnbhhpimpjbaaGreatDoorK
namespace Go.Proofs.YtfmnbhhpimpjbaaGreatDoor
open Go.RowKit

theorem run_storeVar_cell {P : Program} (w : World) (ty : TypeId) (p : Addr) (u v : Value) (hi : (P.info? ty).map (·.size) = some 1) (hv : v.cells = #[v]) (h1 : v.oneCell' = true)
    (hc : w.cell? p = some u) (hf : w.frozen? p = false) : (storeVar ty p v).run P w = .ok () (w.setCell p v) := by
  cases hq : P.info? ty with
  | none => simp [hq] at hi
  | some i =>
    have hs : i.size = 1 := by simpa [hq] using hi
    have hst : (store p v).run P w = .ok () (w.setCell p v) := by rw [run_store P w _ v _ h1, hc]; simp [hf]
    have hadd : p.add 0 = p := by unfold Addr.add; rfl
    simp [storeVar, Sem.run_bind, sizeOf, typeInfo, hq, hs, hv, storeCells, hadd, hst]

theorem wpList_store_cell {P : Program} {ops : Array Oper} {rest : List Oper} {o : Oper} {a : Act} {w : World} {Q : Exit → Act → World → Prop} (hgd : o.guard = none) (ty : TypeId) (x y : Operand) (ho : o.op = .store ty x y)
    (p : Addr) (u v : Value) (hx : a.eval x = .pointer (some p)) (hy : a.eval y = v) (hi : (P.info? ty).map (·.size) = some 1) (hv : v.cells = #[v]) (h1 : v.oneCell' = true)
    (hc : w.cell? p = some u) (hf : w.frozen? p = false)
    (h : wpList P ops Q rest (a.put o.dst undef) (w.setCell p v)) : wpList P ops Q (o :: rest) a w :=
  wpList_plain hgd fun _ hK => by
    unfold Oper.wp execOp
    simp only [ho, hx, hy, Instr.storeAt, Instr.sureAddr, Sem.run_bind, Sem.run_pure, Result.andThen_ok, run_storeVar_cell w ty p u v hi hv h1 hc hf]
    exact hK _ _ h

/-- A guard: the next operation is this one. -/
theorem at_op {P : Program} {ops : Array Oper} {rest : List Oper} {dst : Option Tmp} {op : Op} {t : TypeId} {pos : String} {after : Array Edge} {gd : Option (Nat × Bool)} {a : Act} {w : World} {Q : Exit → Act → World → Prop} (op' : Op) (_ : op = op')
    (h : wpList P ops Q (⟨dst, op, t, pos, after, gd⟩ :: rest) a w) : wpList P ops Q (⟨dst, op, t, pos, after, gd⟩ :: rest) a w := h

theorem ownsRow_setCell_other {w : World} {base : Nat} {e : TypeId} {size : Nat} {v : Value} {n : Nat} {xs : List Value} (h : w.ownsRow base e size v n xs) {a : Addr} (ha : a.block < base) (u : Value) :
    (w.setCell a u).ownsRow base e size v n xs := ownsRow_setCell_below h ha u

/-- An owned row stays, whatever is done above a bound that it lies below. -/
theorem ownsRow_below {w w' : World} {base B : Nat} {e : TypeId} {size : Nat} {v : Value} {n : Nat} {xs : List Value} (h : w.ownsRow base e size v n xs) (hb : Below B w w') (hB : w.heap.size ≤ B) :
    w'.ownsRow base e size v n xs := by
  obtain ⟨h1, h2⟩ := h
  refine ⟨h1, ?_⟩
  rcases h2 with h2 | ⟨g, cap, cur, hv, hg, hh, r⟩
  · exact Or.inl h2
  · exact Or.inr ⟨g, cap, cur, hv, hg, by rw [hb.block _ (by have := (Array.getElem?_eq_some_iff.1 hh).1; omega)]; exact hh, r⟩
theorem ownsRow_mono {w : World} {base B : Nat} {e : TypeId} {size : Nat} {v : Value} {n : Nat} {xs : List Value} (h : w.ownsRow base e size v n xs) (hB : B ≤ base) : w.ownsRow B e size v n xs := by
  obtain ⟨h1, h2⟩ := h
  refine ⟨h1, ?_⟩
  rcases h2 with h2 | ⟨g, cap, cur, hv, hg, r⟩
  · exact Or.inl h2
  · exact Or.inr ⟨g, cap, cur, hv, Nat.le_trans hB hg, r⟩

/-- The same world, some draws later. -/
def Drewn (w w' : World) : Prop := ∃ m, w' = w.drewN m
theorem Drewn.refl (w : World) : Drewn w w := ⟨0, rfl⟩
theorem Drewn.drewN {w w' : World} (h : Drewn w w') (n : Nat) : Drewn w (w'.drewN n) := by
  obtain ⟨m, rfl⟩ := h
  exact ⟨m + n, by rw [World.drewN_drewN]⟩
theorem Drewn.cell {w w' : World} (h : Drewn w w') (a : Addr) : w'.cell? a = w.cell? a := by obtain ⟨m, rfl⟩ := h; rfl
theorem Drewn.heap {w w' : World} (h : Drewn w w') : w'.heap = w.heap := by obtain ⟨m, rfl⟩ := h; rfl
theorem Drewn.below {w w' : World} (h : Drewn w w') {B : Nat} {w0 : World} (hb : Below B w0 w) : Below B w0 w' := by obtain ⟨m, rfl⟩ := h; exact below_dN hb
theorem Drewn.trans {w w' w'' : World} (h : Drewn w w') (k : Drewn w' w'') : Drewn w w'' := by
  obtain ⟨m, rfl⟩ := h
  obtain ⟨n, rfl⟩ := k
  exact ⟨m + n, by rw [World.drewN_drewN]⟩
theorem quiet_drewn {P : Program} {f : FuncId} {args : Array Value} {w : World} {n : Nat} {v : Value}
    (h : Calls P f args (w.drewN n) fun e w' => e = .returned v ∧ Drewn (w.drewN n) w') : Calls P f args (w.drewN n) fun e w'' => e = .returned v ∧ ∃ m, w'' = w.drewN m :=
  h.mono fun _ _ ⟨he, m, hm⟩ => ⟨he, n + m, by rw [hm, World.drewN_drewN]⟩

end Go.Proofs.YtfmnbhhpimpjbaaGreatDoor
