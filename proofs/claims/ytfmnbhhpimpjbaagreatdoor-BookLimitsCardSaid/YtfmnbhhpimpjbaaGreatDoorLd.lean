/- book: told and Text, where the text is told without a panic; the text of a Join of Notes. -/
import Derived.Test.YtfmnbhhpimpjbaaGreatDoorLc
import Derived.Test.YtfmnbhhpimpjbaaGreatDoorXd
import Derived.Test.YtfmnbhhpimpjbaaGreatDoorShelf
import Derived.RegionTactic
namespace Go.Proofs.YtfmnbhhpimpjbaaGreatDoor
open Go.RowKit
set_option linter.unusedVariables false

def panZ' : Array Value := #[.int .i64 0, .string ⟨#[]⟩, .int .i64 0]
theorem results_none'' {P : Program} {w : World} {fn : Func} (h : fn.results = #[]) (t : Array Value) : (results fn t).run P w = .ok (.tuple #[]) w := by simp [results, h, go_sem]
theorem results_cc {P : Program} {fn : Func} {p q : Tmp} {ty ty2 : TypeId} (h : fn.results = #[.cell p ty, .cell q ty2]) (tmps : Array Value) (w : World) (a : Addr) (v : Value) (d : TypeDesc) (g : Nat) (t : TypeId) (cs : Array Value) (fr : Nat × Nat) (d2 : TypeDesc)
    (hp : tmps.getD p undef = .pointer (some a)) (hu : P.underlying ty = some d) (hd : (match d with | .struct _ | .array _ _ => true | _ => false) = false) (hc : w.cell? a = some v)
    (hq : tmps.getD q undef = .pointer (some ⟨g, 0, none⟩)) (hg : w.heap[g]? = some (.cells cs t fr)) (hu2 : P.underlying ty2 = some d2) (hd2 : (match d2 with | .struct _ | .array _ _ => true | _ => false) = true) (hi2 : (P.info? ty2).map (·.size) = some cs.size) :
    (results fn tmps).run P w = .ok (.tuple #[v, .agg cs]) w := by
  have hp' : tmps[p]?.getD undef = .pointer (some a) := by simpa using hp
  have hq' : tmps[q]?.getD undef = .pointer (some ⟨g, 0, none⟩) := by simpa using hq
  have hagg : (isAgg ty).run P w = .ok false w := by
    unfold isAgg
    rw [Sem.run_bind, run_underlying hu w]
    cases d <;> simp_all
  simp only [results, h]
  have h1 : (loadVar ty a).run P w = .ok v w := by simp [loadVar, Sem.run_bind, hagg, run_load, hc]
  simp [Result.andThen, hp', hq', asAddr, run_loadVar_row w g t ty2 cs fr d2 hg hu2 hd2 hi2, h1]
set_option maxRecDepth 100000 in
set_option maxHeartbeats 2000000 in
/-- The deferred call, where nothing panicked. -/
theorem told1_none {w : World} {sb pb : Nat} {u : FrameMode} (hu : MdIn u none) :
    CallsD Tryz.prog 78 #[.pointer (some ⟨sb, 0, none⟩), .pointer (some ⟨pb, 0, none⟩)] u w fun e u' w' => MdIn u' none ∧ e = .returned (.tuple #[]) ∧ w' = w := by
  refine callsD_of_wpK Tryz.func78 rfl fun c0 cs hc0 => ?_
  have hneq0 : ∀ w, (binOp .neq 20 .nilIface .nilIface).run Tryz.prog w = .ok (.bool false) w := fun w => rfl
  refine wpK_seq ?_
  refine wpK_region (.inr rfl) ?_
  rw [Tryz.ntmps78]
  simp only [Array.size, List.length]
  rcases md_rec hu c0 cs hc0 with ⟨_, hr, hcs⟩ | ⟨v, u', hv, _, _⟩
  · change wpOpsK _ _ _ _ [0, 1] _ _ _
    refine wpOpsK_none rfl (by rfl) (by rfl) hr ?_
    refine wpOpsK_op rfl (by rfl) (fun K hK => ?_)
    go_simp
    refine hK.out _ _ ?_
    clear hK K
    refine wpK_of_wp ?_
    go_wp2
    exact ⟨.tuple #[], results_none'' rfl _, u, by first | exact hcs | rfl, hu, rfl, rfl⟩
  · cases hv
set_option maxRecDepth 100000 in
theorem told_leave {sb pb : Nat} {W : World} {t : Array Value} {Q : Ending → World → Prop} {s : ByteArray} (h2 : t.getD 2 undef = .pointer (some ⟨sb, 0, none⟩)) (h3 : t.getD 3 undef = .pointer (some ⟨pb, 0, none⟩)) (hs : W.cell? ⟨sb, 0, none⟩ = some (.string s)) (hp : W.heap[pb]? = some (.cells panZ' 44 (0, 0)))
    (hQ : Q (.returned (.tuple #[.string s, .agg panZ'])) W) : Leaves Tryz.prog Tryz.f61 t Q [{ target := .fn (.func 78) #[.pointer (some ⟨sb, 0, none⟩), .pointer (some ⟨pb, 0, none⟩)], args := #[] }] .returning W := by
  refine leaves_cons (f := 78) (args := #[.pointer (some ⟨sb, 0, none⟩), .pointer (some ⟨pb, 0, none⟩)]) (by intro e; cases e) (by rfl) ((told1_none (sb := sb) (pb := pb) (.inl rfl)).mono ?_)
  rintro e u' w' ⟨hm, rfl, rfl⟩
  have h2' : settle u' = .returning := settle_md hm
  show Leaves _ _ _ _ [] (settle u') _
  rw [h2']
  exact ⟨_, results_cc rfl t _ ⟨sb, 0, none⟩ (.string s) _ pb 44 panZ' (0, 0) _ h2 Tryz.underlying9 rfl hs h3 hp Tryz.underlying44 rfl (by kernel_rfl), hQ⟩
set_option maxRecDepth 100000 in
set_option maxHeartbeats 2000000 in
/-- What an error tells, where its Error does not panic. -/
theorem told_join (jb : Nat) (w : World) (s : ByteArray)
    (hdo : ∀ y, Below w.heap.size w y → Calls Tryz.prog 203 #[.pointer (some ⟨jb, 0, none⟩)] y fun e z => e = .returned (.string s) ∧ Below y.heap.size y z) :
    Calls Tryz.prog 61 #[.iface 129 (.pointer (some ⟨jb, 0, none⟩))] w fun e y => e = .returned (.tuple #[.string s, .agg panZ']) ∧ Below w.heap.size w y := by
  have hm : ∀ (n : Nat) (w : World), (method (n + 1) 129 (.pointer (some ⟨jb, 0, none⟩)) "Error").run Tryz.prog w = .ok (203, .pointer (some ⟨jb, 0, none⟩)) w := fun _ _ => by kernel_rfl
  have hmf : ∀ (fn : Fn) (first cap : Array Value) (w : World), (Instr.makeFunc fn first cap).run Tryz.prog w = .ok (.func fn first cap) w := fun _ _ _ _ => rfl
  have hb1 : Below w.heap.size w ((w.alloc (.cells #[.string ⟨#[]⟩] 9)).alloc (.cells panZ' 44)) := ((Below.refl _ _).alloc (Nat.le_refl _) _).alloc (by simp) _
  have HC := Lib.hid (hdo _ hb1)
  have HB1 := Lib.hid hb1
  have HS := Lib.hid (show ((w.alloc (.cells #[.string ⟨#[]⟩] 9)).alloc (.cells panZ' 44)).heap[w.heap.size]? = some (.cells #[.string ⟨#[]⟩] 9 (0, 0)) by rw [alloc_old _ _ _ (by simp)]; exact alloc_at _ _)
  have HP := Lib.hid (show ((w.alloc (.cells #[.string ⟨#[]⟩] 9)).alloc (.cells panZ' 44)).heap[w.heap.size + 1]? = some (.cells panZ' 44 (0, 0)) from alloc_at' _ _ _ (by simp))
  clear hb1 hdo
  unfold panZ' at HC HB1 HS HP
  go_enter_defers Tryz.func61, Tryz.ntmps61
  go_wp2_with fail
  go_at_call 203
  refine HC.out.mono ?_
  rintro e y ⟨rfl, hb⟩
  have HSy := Lib.hid ((hb.block _ (lt_of_at HS.out)).trans HS.out)
  have HPy := Lib.hid ((hb.block _ (lt_of_at HP.out)).trans HP.out)
  have HBy := Lib.hid (HB1.out.trans (hb.mono HB1.out.size))
  have k0 : y.cell? ⟨w.heap.size, 0, none⟩ = some (.string ⟨#[]⟩) := cell_of_block HSy.out 0
  have kf : ∀ i, y.frozen? ⟨w.heap.size, i, none⟩ = false := fun i => frozen_of_block HSy.out i
  have p0 : y.cell? ⟨w.heap.size + 1, 0, none⟩ = some (.int .i64 0) := cell_of_block HPy.out 0
  have p1 : y.cell? ⟨w.heap.size + 1, 1, none⟩ = some (.string ⟨#[]⟩) := cell_of_block HPy.out 1
  have p2 : y.cell? ⟨w.heap.size + 1, 2, none⟩ = some (.int .i64 0) := cell_of_block HPy.out 2
  have pf : ∀ i, y.frozen? ⟨w.heap.size + 1, i, none⟩ = false := fun i => frozen_of_block HPy.out i
  clear hb HC HS HP
  go_wp2
  have hne : w.heap.size ≠ w.heap.size + 1 := by omega
  refine told_leave rfl rfl ?_ ?_ ⟨rfl, ?_⟩
  · rw [World.cell?_setCell_far _ _ _ _ (show w.heap.size + 1 ≠ w.heap.size by omega), World.cell?_setCell_far _ _ _ _ (show w.heap.size + 1 ≠ w.heap.size by omega), World.cell?_setCell_far _ _ _ _ (show w.heap.size + 1 ≠ w.heap.size by omega)]
    exact cell_of_block (heap_setCell_same _ w.heap.size 0 _ _ _ HSy.out) 0
  · rw [heap_setCell_same _ (w.heap.size + 1) 2 _ _ _ (heap_setCell_same _ (w.heap.size + 1) 1 _ _ _ (heap_setCell_same _ (w.heap.size + 1) 0 _ _ _ ((Below.heap_setCell _ _ _ _ (show w.heap.size + 1 ≠ w.heap.size by omega)).trans HPy.out)))]; rfl
  · refine Below.setCell (Below.setCell (Below.setCell (Below.setCell HBy.out ?_ _) ?_ _) ?_ _) ?_ _
    · exact Nat.le_refl w.heap.size
    · exact Nat.le_succ w.heap.size
    · exact Nat.le_succ w.heap.size
    · exact Nat.le_succ w.heap.size
end Go.Proofs.YtfmnbhhpimpjbaaGreatDoor
