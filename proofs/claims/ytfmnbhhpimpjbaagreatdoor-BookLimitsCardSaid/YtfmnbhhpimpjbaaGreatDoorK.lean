/- Small laws of the walk, over any program: blocks, rows, draws, a struct stored whole. -/
import Derived.WalkKit
import Derived.WalkLawsBesides
import Derived.WalkSpells
import Derived.Laws.Externs
import Derived.Laws.AppendOwnNone
import Derived.Laws.ResultCell
import Derived.BigQuiet
import Derived.Deep.QuietTactic
import Derived.StillTailTactics
import Derived.OwnWalk
import Derived.LoopTactic
import Derived.Lib.Hide
import Derived.Maps.AppendAt
import Derived.Laws.CopyOwn
namespace Go.Proofs.YtfmnbhhpimpjbaaGreatDoor
open Go.RowKit

theorem below_dN {B : Nat} {a w : World} {n : Nat} (h : Below B a w) : Below B a (w.drewN n) := ⟨h.os, h.tape, h.output, h.size, h.block⟩

theorem quiet_eq {P : Program} {f : FuncId} {args : Array Value} {w : World} {n : Nat} {v : Value}
    (h : Calls P f args (w.drewN n) fun e w' => e = .returned v ∧ w.drewN n = w') : Calls P f args (w.drewN n) fun e w'' => e = .returned v ∧ ∃ m, w'' = w.drewN m :=
  h.mono fun _ _ ⟨he, hm⟩ => ⟨he, n, hm.symm⟩

theorem cell_of_block {w : World} {b : Nat} {vals : Array Value} {ty : TypeId} {fr : Nat × Nat} (h : w.heap[b]? = some (.cells vals ty fr)) (i : Nat) : w.cell? ⟨b, i, none⟩ = vals[i]? := by
  simp [World.cell?, h]
theorem frozen_of_block {w : World} {b : Nat} {vals : Array Value} {ty : TypeId} (h : w.heap[b]? = some (.cells vals ty (0, 0))) (i : Nat) : w.frozen? ⟨b, i, none⟩ = false := by
  simp [World.frozen?, h]

theorem alloc_at (w : World) (o : Obj) : (w.alloc o).heap[w.heap.size]? = some o := by show (w.heap.push o)[w.heap.size]? = some o; simp
theorem alloc_at' (W : World) (o : Obj) (b : Nat) (h : b = W.heap.size) : (W.alloc o).heap[b]? = some o := by subst h; exact alloc_at _ _
theorem alloc_old (W : World) (o : Obj) (b : Nat) (h : b < W.heap.size) : (W.alloc o).heap[b]? = W.heap[b]? := Below.heap_alloc _ _ _ h

theorem cell_one_new' (W : World) (x : Value) (t : TypeId) (b : Nat) (hb : b = W.heap.size) : ∀ j u, [x][j]? = some u → (W.alloc (.cells #[x] t)).cell? ((⟨b, 0, none⟩ : Addr).add j) = some u := by
  subst hb; exact cell_one_new W x t

theorem addr_add_block (x : Addr) (i : Nat) : (x.add i).block = x.block := by unfold Addr.add; split <;> rfl

theorem own_empty (W : World) (b base : Nat) (e : TypeId) (size : Nat) (hb : b = W.heap.size) (hB : base ≤ W.heap.size) : (W.alloc (.cells #[] e)).ownsRow base e size (.slice (some ⟨b, 0, none⟩) 0 0) 0 [] := by
  subst hb; exact World.ownsRow_lit W #[] 0 hB (Nat.zero_le _) (by simp)

/-- A slice that came in, of elements of one cell each: it is nil, or its first 'len' cells are vs. -/
def RowIn (w : World) (a : Option Addr) (len cap : Nat) (vs : List Value) : Prop :=
  (a = none ∧ len = 0 ∧ cap = 0 ∧ vs = []) ∨
  ∃ x, a = some x ∧ len ≤ cap ∧ cap ≤ maxLen ∧ vs.length = len ∧ ∀ i u, vs[i]? = some u → w.cell? (x.add i) = some u

theorem block_lt {w : World} {x : Addr} {u : Value} (h : w.cell? x = some u) : x.block < w.heap.size := block_lt_of_cell h
theorem RowIn.below {w w' : World} {a : Option Addr} {len cap : Nat} {vs : List Value} (h : RowIn w a len cap vs) (hb : Below w.heap.size w w') : RowIn w' a len cap vs := by
  rcases h with h | ⟨x, h1, h3, h4, h5, h6⟩
  · exact .inl h
  · exact .inr ⟨x, h1, h3, h4, h5, fun i u hu => by rw [hb.cell (block_lt (h6 i u hu))]; exact h6 i u hu⟩

section
variable {P : Program}
/-- A whole struct, stored. -/
theorem run_storeVar_row (w : World) (g : Nat) (t ty : TypeId) (cur cs : Array Value) (hg : w.heap[g]? = some (.cells cur t (0, 0)))
    (hi : (P.info? ty).map (·.size) = some cs.size) (hl : cs.size = cur.size) (h1 : ∀ v ∈ cs.toList, v.oneCell' = true) :
    (storeVar ty ⟨g, 0, none⟩ (.agg cs)).run P w = .ok () (w.setRow g cs) := by
  cases hq : P.info? ty with
  | none => simp [hq] at hi
  | some i =>
    have hs : i.size = cs.size := by simpa [hq] using hi
    have hr := run_storeCells_from (P := P) g t cs.toList 0 cur w hg (by simpa using hl) h1
    simp only [List.take_zero, List.nil_append, Array.toArray_toList] at hr
    simp [storeVar, Sem.run_bind, sizeOf, typeInfo, hq, hs, Value.cells, hr]

theorem wpList_store_row {ops : Array Oper} {rest : List Oper} {o : Oper} {a : Act} {w : World} {Q : Exit → Act → World → Prop} (hgd : o.guard = none) (ty : TypeId) (x y : Operand) (ho : o.op = .store ty x y)
    (g : Nat) (hx : a.eval x = .pointer (some ⟨g, 0, none⟩)) (cs : Array Value) (hy : a.eval y = .agg cs) (t : TypeId) (cur : Array Value) (hg : w.heap[g]? = some (.cells cur t (0, 0)))
    (hi : (P.info? ty).map (·.size) = some cs.size) (hl : cs.size = cur.size) (h1 : ∀ v ∈ cs.toList, v.oneCell' = true)
    (h : wpList P ops Q rest (a.put o.dst undef) (w.setRow g cs)) : wpList P ops Q (o :: rest) a w :=
  wpList_plain hgd fun _ hK => by
    unfold Oper.wp execOp
    simp only [ho, hx, hy, Instr.storeAt, Instr.sureAddr, Sem.run_bind, Sem.run_pure, Result.andThen_ok, run_storeVar_row w g t ty cur cs hg hi hl h1]
    exact hK _ _ h
end

theorem setRow_alloc (w : World) (o cs : Array Value) (t : TypeId) (b : Nat) (hb : b = w.heap.size) : (w.alloc (.cells o t)).setRow b cs = w.alloc (.cells cs t) := by
  subst hb
  unfold World.setRow World.alloc
  congr 1
  apply Array.ext
  · simp
  · intro k h1 h2
    simp only [Array.getElem_modify, Array.getElem_push]
    simp at h1
    by_cases hk : w.heap.size = k
    · subst hk; simp
    · rw [if_neg hk]
      have : k < w.heap.size := by omega
      simp [this]

theorem wpList_store_new {P : Program} {ops : Array Oper} {rest : List Oper} {o : Oper} {a : Act} {w : World} {Q : Exit → Act → World → Prop} (hgd : o.guard = none) (ty : TypeId) (x y : Operand) (ho : o.op = .store ty x y)
    (g : Nat) (hb : g = w.heap.size) (t : TypeId) (cur : Array Value) (hx : a.eval x = .pointer (some ⟨g, 0, none⟩)) (cs : Array Value) (hy : a.eval y = .agg cs)
    (hi : (P.info? ty).map (·.size) = some cs.size) (hl : cs.size = cur.size) (h1 : ∀ v ∈ cs.toList, v.oneCell' = true)
    (h : wpList P ops Q rest (a.put o.dst undef) (w.alloc (.cells cs t))) : wpList P ops Q (o :: rest) a (w.alloc (.cells cur t)) := by
  refine wpList_store_row hgd ty x y ho g hx cs hy t cur (alloc_at' _ _ _ hb) hi hl h1 ?_
  rw [setRow_alloc _ _ _ _ _ hb]; exact h

theorem ownsRow_setRow_below {w : World} {base : Nat} {e : TypeId} {size : Nat} {v : Value} {n : Nat} {xs : List Value} (h : w.ownsRow base e size v n xs) {g : Nat} (hg : g < base) (cs : Array Value) :
    (w.setRow g cs).ownsRow base e size v n xs := by
  obtain ⟨h1, h2⟩ := h
  refine ⟨h1, ?_⟩
  rcases h2 with h2 | ⟨b, cap, cur, hv, hb, hh, r⟩
  · exact Or.inl h2
  · exact Or.inr ⟨b, cap, cur, hv, hb, by rw [setRow_other _ _ _ _ (by omega)]; exact hh, r⟩
theorem ownsRow_drew {w : World} {base : Nat} {e : TypeId} {size : Nat} {v : Value} {n : Nat} {xs : List Value} (h : w.ownsRow base e size v n xs) : w.drew.ownsRow base e size v n xs := h

end Go.Proofs.YtfmnbhhpimpjbaaGreatDoor
