/- catch.Closing: which functions it calls, and what went wrong first. -/
import Derived.RangeFuncFrom
import Derived.RangeFuncNested
import Derived.RangeFuncBound
import Derived.RangeFuncCalls
import Derived.RangeFuncLeaves
import Derived.Shelf.Abstract
import Derived.Shelf.RegionOpen
import Derived.OwnWalkIn
import Derived.TacticsInMore
import Derived.LoopNIn
import Derived.LoopIn
import Derived.Laws.EntriesVeiled
import Derived.Test.YtokfnlfadofmnaaDoorEd
namespace Go.Proofs.YtokfnlfadofmnaaDoor
open Go.RowKit Go.Shelf
set_option linter.unusedVariables false
attribute [local go_sem] Oper.semAt_some

instance : Inhabited Ded := ⟨⟨0, 0, ⟨#[]⟩⟩⟩
/-- A function, or none. -/
def FVc (cb : Nat) (w : World) (v : Value) (D : Ded) (n : Int) (f : Value) : Prop := (D.kind = 4 ∧ f = .nilFunc) ∨ (D.kind ≠ 4 ∧ ∃ b3 b4 b5, f = cloV b3 b4 b5 ∧ Clo cb w v D n b3 b4 b5)
theorem FVc.keep {B cb : Nat} {w w' : World} {v v' f : Value} {xs : List Int} {D : Ded} {n : Int} {T : Nat → TypeId → Prop} (h : FVc cb w v D n f) (hc : CS B cb w v xs) (hf : Ft B T w v w' v') (h3 : ∀ b, ¬ T b 3) (h42 : ∀ b, ¬ T b 42) (h48 : ∀ b, ¬ T b 48) : FVc cb w' v' D n f := by
  rcases h with h | ⟨h1, b3, b4, b5, h2, h⟩
  · exact .inl h
  · exact .inr ⟨h1, b3, b4, b5, h2, h.keep hc hf h3 h42 h48⟩
def cN (D : Ded) (n : Int) : List Int := if D.kind = 4 then [] else [n]
def sT (D : Ded) (s : Int × Pan) : Int × Pan := if D.kind = 4 then s else stT D s
theorem try_opt {B cb f1 b1 : Nat} {w : World} {v f : Value} {xs : List Int} {D : Ded} {n : Int} {s : Int × Pan} (hc : CS B cb w v xs) (h : FVc cb w v D n f) (hB : B ≤ w.heap.size) (hl : xs.length ≤ 100)
    (hf : w.heap[f1]? = some (.cells #[.int .i64 s.1] 33 (0, 0))) (hb : w.heap[b1]? = some (.cells (pc s.2) 29 (0, 0))) (hf1 : B ≤ f1) (hb1 : B ≤ b1) :
    Calls Tryd.prog 15 #[f, .pointer (some ⟨f1, 0, none⟩), .pointer (some ⟨b1, 0, none⟩)] w fun e w' => e = .returned (.tuple #[]) ∧ TS B cb f1 b1 v (xs ++ cN D n) (sT D s) w w' := by
  rcases h with ⟨h4, rfl⟩ | ⟨h4, b3, b4, b5, rfl, h⟩
  · refine (try_nil _ _ w).mono ?_
    rintro e w' ⟨rfl, rfl⟩
    unfold cN sT
    rw [if_pos h4, if_pos h4, List.append_nil]
    exact ⟨rfl, TS.below ⟨v, hc, .refl _ _ _ _, hf, hb⟩ ((Below.refl _ _).alloc (Nat.le_refl _) _) hB⟩
  · refine (try_any hc h hB hl hf hb hf1 hb1).mono ?_
    rintro e w' ⟨rfl, h⟩
    unfold cN sT
    rw [if_neg h4, if_neg h4]
    exact ⟨rfl, h⟩
theorem backward_any (sv : Value) (hs : ∃ a n c, sv = .slice a n c) (w : World) : Calls Tryd.prog 18 #[sv] w fun e w' => e = .returned (.func (.func 25) #[] #[.pointer (some ⟨w.heap.size, 0, none⟩)]) ∧ w' = w.alloc (.cells #[sv] 45) := by
  have hmf : ∀ (fn : Fn) (first cap : Array Value) (w : World), (Instr.makeFunc fn first cap).run Tryd.prog w = .ok (.func fn first cap) w := fun _ _ _ _ => rfl
  obtain ⟨a, n, c, rfl⟩ := hs
  go_enter Tryd.func18, Tryd.ntmps18
  go_wp2
  go_ret
  exact ⟨rfl, rfl⟩
/-- What is between two rounds. -/
def accL (L : List Ded) (a : (Int × Pan) × List Int) (pre : List (Pl L.length)) : (Int × Pan) × List Int := pre.foldl (fun a x => (sT (L.getD x.1 default) a.1, a.2 ++ cN (L.getD x.1 default) x.1)) a
theorem accL_snoc (L : List Ded) (a : (Int × Pan) × List Int) (pre : List (Pl L.length)) (x : Pl L.length) : accL L a (pre ++ [x]) = (sT (L.getD x.1 default) (accL L a pre).1, (accL L a pre).2 ++ cN (L.getD x.1 default) x.1) := by
  unfold accL; rw [List.foldl_append]; rfl
theorem cN_len (D : Ded) (n : Int) : (cN D n).length ≤ 1 := by unfold cN; split <;> simp
theorem accL_len (L : List Ded) (a : (Int × Pan) × List Int) (pre : List (Pl L.length)) : (accL L a pre).2.length ≤ a.2.length + pre.length := by
  induction pre generalizing a with
  | nil => exact Nat.le_refl _
  | cons x pre ih =>
    have := ih (sT (L.getD x.1 default) a.1, a.2 ++ cN (L.getD x.1 default) x.1)
    have := cN_len (L.getD x.1 default) x.1
    show (accL L _ pre).2.length ≤ _
    simp only [List.length_append, List.length_cons] at *; omega
/-- The loop's own: what was called and what went wrong, and that the functions are there. -/
def LS (B cb f1 b1 : Nat) (v : Value) (L : List Ded) (fs : List Value) (a : (Int × Pan) × List Int) (w W : World) : Prop :=
  ∃ v', CS B cb W v' a.2 ∧ Ft B (TT f1 b1) w v W v' ∧ W.heap[f1]? = some (.cells #[.int .i64 a.1.1] 33 (0, 0)) ∧ W.heap[b1]? = some (.cells (pc a.1.2) 29 (0, 0)) ∧ ∀ i, i < L.length → FVc cb W v' (L.getD i default) i (fs.getD i undef)
theorem LS.kept {B cb f1 b1 B' : Nat} {v : Value} {L : List Ded} {fs : List Value} {a : (Int × Pan) × List Int} {w W W' : World} {row : Option Nat} (h : LS B cb f1 b1 v L fs a w W) (hg : W.grownBy W' row) (hr : ∀ r, row = some r → B' ≤ r ∧ ∃ o : Obj, W.heap[r]? = some o ∧ o.isCells = false) (hB : B ≤ w.heap.size) (hB' : w.heap.size ≤ B') : LS B cb f1 b1 v L fs a w W' := by
  obtain ⟨v', h1, h2, h3, h4, h5⟩ := h
  have hk : ∀ (b : Nat) (cur : Array Value) (t : TypeId) (fr : Nat × Nat), W.heap[b]? = some (.cells cur t fr) → W'.heap[b]? = some (.cells cur t fr) := fun b cur t fr e => by
    rw [hg.block b (Array.getElem?_eq_some_iff.1 e).1 (fun e2 => by obtain ⟨_, o, h1, h2⟩ := hr b e2.symm; rw [e] at h1; cases h1; cases h2)]; exact e
  have hbel : Below B W W' := (Below.refl _ W).grown hg (Nat.le_trans hB h2.below.size) (fun i hi => by have := (hr i hi).1; omega)
  refine ⟨v', ⟨hk _ _ _ _ h1.1, owns_keep h1.2.1 fun b cur e => by rw [hk _ _ _ _ e, e], h1.2.2⟩, ⟨h2.below.trans hbel, fun b o e1 e2 e3 => ?_, h2.own⟩, hk _ _ _ _ h3, hk _ _ _ _ h4, fun i hi => ?_⟩
  · have hl := (Array.getElem?_eq_some_iff.1 e1).1
    rw [hg.block b (Nat.lt_of_lt_of_le hl h2.below.size) (fun e => by have := (hr b e.symm).1; omega)]
    exact h2.block b o e1 e2 e3
  · rcases h5 i hi with h | ⟨e1, b3, b4, b5, e2, h⟩
    · exact .inl h
    · exact .inr ⟨e1, b3, b4, b5, e2, hk _ _ _ _ h.c3, hk _ _ _ _ h.c4, hk _ _ _ _ h.c5, h.ne⟩
theorem LS.round {B cb f1 b1 : Nat} {v v1 : Value} {L : List Ded} {fs : List Value} {a : (Int × Pan) × List Int} {s : Int × Pan} {ys : List Int} {w W W' : World} (h1 : CS B cb W v1 a.2) (h2 : Ft B (TT f1 b1) w v W v1) (h5 : ∀ i, i < L.length → FVc cb W v1 (L.getD i default) i (fs.getD i undef))
    (h : TS B cb f1 b1 v1 ys s W W') : LS B cb f1 b1 v L fs (s, ys) w W' := by
  obtain ⟨v', k1, k2, k3, k4⟩ := h
  exact ⟨v', k1, h2.trans k2, k3, k4, fun i hi => (h5 i hi).keep h1 k2 (by simp [TT]) (by simp [TT]) (by simp [TT])⟩
theorem Ft.after {B : Nat} {T : Nat → TypeId → Prop} {w W W' : World} {v v' : Value} (h : Ft B T w v W v') (hb : Below w.heap.size W W') (hB : B ≤ w.heap.size) : Ft B T w v W' v' :=
  ⟨h.below.trans (hb.mono hB), fun b o h1 h2 h3 => (hb.block b (Array.getElem?_eq_some_iff.1 h1).1).trans (h.block b o h1 h2 h3), h.own⟩
theorem Ft.others {B cb : Nat} {T : Nat → TypeId → Prop} {w w' : World} {v v' : Value} {xs : List Int} (h : Ft B T w v w' v') (hc : CS B cb w v xs) : KeepsOthers w w' :=
  ⟨h.below.size, fun k o hk ho => (h.block k o hk (by rintro _ _ _ rfl; cases ho) (fun e => by obtain ⟨cur, h1⟩ := hc.own3 e; rw [hk] at h1; cases h1; cases ho)).trans hk⟩

def CPost (B cb : Nat) (v : Value) (xs : List Int) (D0 : Ded) (L : List Ded) (w : World) (e : Ending) (w' : World) : Prop :=
  ∃ (a : (Int × Pan) × List Int) (v' : Value), a = accL L (sT D0 (0, Pan.none), xs ++ cN D0 (-1)) (dn L.length 0) ∧ e = .returned (.tuple #[.int .i64 a.1.1, .agg (pc a.1.2)]) ∧ CS B cb w' v' a.2 ∧ Ft B (TT (w.heap.size + 1) (w.heap.size + 1 + 1)) w v w' v'
/-- The loop's own cells. -/
def OC (s : Nat) (W : World) : Prop := W.heap[s]? = some (.cells (pc Pan.none) 29 (0, 0)) ∧ W.heap[s + 1 + 1 + 1]? = some (.cells #[.func (.func 15) #[] #[.pointer (some ⟨s + 1, 0, none⟩), .pointer (some ⟨s + 1 + 1, 0, none⟩)]] 68 (0, 0))
set_option maxRecDepth 100000 in
set_option maxHeartbeats 2000000 in
theorem closing_ai (n : Nat) (hn : 4 ≤ n) {B cb cap LB : Nat} {w : World} {v f0 : Value} {xs : List Int} {D0 : Ded} {L : List Ded} {fs : List Value} {sa : Option Addr} {cur : Array Value} (hc : CS B cb w v xs) (hB : B ≤ w.heap.size) (hl : xs.length + L.length + 1 ≤ 100)
    (hf0 : FVc cb w v D0 (-1) f0) (hfs : ∀ i, i < L.length → FVc cb w v (L.getD i default) i (fs.getD i undef)) (hsa : 0 < L.length → sa = some ⟨LB, 0, none⟩ ∧ w.heap[LB]? = some (.cells cur 46 (0, 0))) (hLBl : LB < w.heap.size) (hcur : ∀ i, i < L.length → cur[i]? = some (fs.getD i undef)) :
    CallsIn Fence.wide n Tryd.prog 10 #[f0, .slice sa L.length cap] w (CPost B cb v xs D0 L w) := by
  have h1 : 1 ≤ n := by omega
  have hmf : ∀ (fn : Fn) (first cap : Array Value) (w : World), (Instr.makeFunc fn first cap).run Tryd.prog w = .ok (.func fn first cap) w := fun _ _ _ _ => rfl
  obtain ⟨WA, hWA⟩ : ∃ WA, WA = (((w.alloc (.cells #[.int .i64 0, .string ⟨#[]⟩, .int .i64 0] 29)).alloc (.cells #[.int .i64 0] 33)).alloc (.cells #[.int .i64 0, .string ⟨#[]⟩, .int .i64 0] 29)).alloc (.cells #[.func (.func 15) #[] #[.pointer (some ⟨w.heap.size + 1, 0, none⟩), .pointer (some ⟨w.heap.size + 1 + 1, 0, none⟩)]] 68) := ⟨_, rfl⟩
  have hBA : Below w.heap.size w WA := by rw [hWA]; exact ((((Below.refl _ _).alloc (Nat.le_refl _) _).alloc (by simp) _).alloc (by simp <;> omega) _).alloc (by simp <;> omega) _
  have a0 : WA.heap[w.heap.size]? = some (.cells (pc Pan.none) 29 (0, 0)) := by rw [hWA]; repeat (first | exact alloc_at _ _ | refine (alloc_old _ _ _ (by simp <;> omega)).trans ?_)
  have a1 : WA.heap[w.heap.size + 1]? = some (.cells #[.int .i64 0] 33 (0, 0)) := by rw [hWA]; repeat (first | exact alloc_at' _ _ _ (by simp) | refine (alloc_old _ _ _ (by simp <;> omega)).trans ?_)
  have a2 : WA.heap[w.heap.size + 1 + 1]? = some (.cells (pc Pan.none) 29 (0, 0)) := by rw [hWA]; repeat (first | exact alloc_at' _ _ _ (by simp) | refine (alloc_old _ _ _ (by simp <;> omega)).trans ?_)
  have a3 : WA.heap[w.heap.size + 1 + 1 + 1]? = some (.cells #[.func (.func 15) #[] #[.pointer (some ⟨w.heap.size + 1, 0, none⟩), .pointer (some ⟨w.heap.size + 1 + 1, 0, none⟩)]] 68 (0, 0)) := by rw [hWA]; exact alloc_at' _ _ _ (by simp)
  have fA : Ft B (TT (w.heap.size + 1) (w.heap.size + 1 + 1)) w v WA v := .of_below hBA hB
  have hcA := hc.below hBA
  have hcall := try_opt (n := -1) (s := (0, Pan.none)) hcA (hf0.keep hc fA (by simp [TT]) (by simp [TT]) (by simp [TT])) (Nat.le_trans hB hBA.size) (by omega) a1 a2 (by omega) (by omega)
  have hfA : ∀ i, i < L.length → FVc cb WA v (L.getD i default) i (fs.getD i undef) := fun i hi => (hfs i hi).keep hc fA (by simp [TT]) (by simp [TT]) (by simp [TT])
  rw [hWA] at hcall
  have H := Lib.hid (And.intro hc (And.intro hBA (And.intro a0 (And.intro a3 (And.intro fA (And.intro hcA (And.intro hfA (And.intro hfs (And.intro hsa (And.intro hcur hWA))))))))))
  clear hc hBA a0 a1 a2 a3 fA hcA hf0 hfs hsa hcur hfA hWA
  refine callsIn_of_wp_marks Tryd.func10 rfl trivial ?_ rfl
  simp only [Tryd.ntmps10, List.size_toArray, List.length_cons, List.length_nil, Nat.reduceAdd, Nat.reduceSub, Array.replicate_succ, Array.replicate_zero, List.push_toArray, List.append_toArray, List.nil_append, List.cons_append]
  gi_wp2_with (first | (refine ⟨trivial, ?_⟩; gi_at_call 15; refine (callsIn_wide.2 hcall).mono ?_; clear hcall; rintro e w1 ⟨rfl, hTS⟩; have HT := Lib.hid hTS; clear hTS) | (refine ⟨trivial, ?_⟩; gi_at_call 18; refine (callsIn_wide.2 (backward_any _ ⟨_, _, _, rfl⟩ _)).mono ?_; rintro e w' ⟨rfl, rfl⟩))
  obtain ⟨hc, hBA, a0, a3, fA, hcA, hfA, hfs, hsa, hcur, hWA⟩ := H.out
  have hTS := HT.out
  rw [← hWA] at hTS
  have hTS' := hTS
  obtain ⟨v1, t1, t2, t3, t4⟩ := hTS'
  have hl1 := t2.below.size
  have hlA := hBA.size
  have hLS1 : LS B cb (w.heap.size + 1) (w.heap.size + 1 + 1) v L fs (sT D0 (0, Pan.none), xs ++ cN D0 (-1)) w w1 := LS.round (a := ((0, Pan.none), xs)) hcA fA hfA hTS
  obtain ⟨W0, hW0⟩ : ∃ W0, W0 = w1.alloc (.cells #[.slice sa L.length cap] 45) := ⟨_, rfl⟩
  have hsz0 : W0.heap.size = w1.heap.size + 1 := by rw [hW0]; simp
  have hLS0 : LS B cb (w.heap.size + 1) (w.heap.size + 1 + 1) v L fs (sT D0 (0, Pan.none), xs ++ cN D0 (-1)) w W0 := by rw [hW0]; exact hLS1.kept (World.grownBy_alloc _ _ none) (fun r e => by cases e) hB (Nat.le_refl _)
  have n1 : ∀ {b : Nat} {cur : Array Value} {t : TypeId} {fr : Nat × Nat}, WA.heap[b]? = some (.cells cur t fr) → t ≠ 44 → t ≠ 33 → (t = 29 → b ≠ w.heap.size + 1 + 1) → t ≠ 3 → W0.heap[b]? = some (.cells cur t fr) := fun {b cur t fr} e h44 h33 h29 h3 => by
    rw [hW0, alloc_old _ _ _ (Nat.lt_of_lt_of_le (Array.getElem?_eq_some_iff.1 e).1 hl1)]
    exact t2.cells hcA e (by unfold TT; rintro (h | ⟨h, _⟩ | ⟨h, h'⟩); exact h44 h; exact h33 h; exact h29 h h') h3
  have hO0 : OC w.heap.size W0 := ⟨n1 a0 (by decide) (by decide) (fun _ => by omega) (by decide), n1 a3 (by decide) (by decide) (fun h => absurd h (by decide)) (by decide)⟩
  have hib : W0.heap[w1.heap.size]? = some (.cells #[.slice sa L.length cap] 45 (0, 0)) := by rw [hW0]; exact alloc_at _ _
  have hLB0 : 0 < L.length → sa = some ⟨LB, 0, none⟩ ∧ W0.heap[LB]? = some (.cells cur 46 (0, 0)) := fun h => ⟨(hsa h).1, n1 (by rw [hBA.block _ hLBl]; exact (hsa h).2) (by decide) (by decide) (fun h => absurd h (by decide)) (by decide)⟩
  rw [← hW0]
  refine wpIn_rangeFunc_ownF rfl h1 (gf := 25) (lb := #[.pointer (some ⟨w1.heap.size, 0, none⟩)]) rfl trivial (enters_of Tryd.func25 (by kernel_rfl) rfl)
    (encs := encF (len := L.length) fs) (Kp := KpF w1.heap.size LB) (S := fun xs => xs = dn L.length 0) (Sp := fun _ => True) (N := L.length) (w0 := W0)
    (fun l J Jx W hW hJ hJx hY h0 => iter_any (n - 1) L.length cap w1.heap.size LB l sa (by omega) (by omega) fs cur J Jx hY W (by rw [hW.block _ (Array.getElem?_eq_some_iff.1 hib).1]; exact hib) (fun h => ⟨(hLB0 h).1, by rw [hW.block _ (Array.getElem?_eq_some_iff.1 (hLB0 h).2).1]; exact (hLB0 h).2⟩) hcur h0)
    (fun h k => ⟨k.1.trans h.1, k.2.trans h.2⟩) (fun W l o o' hl h ho hw => ⟨World.putObj_heap_other (by omega), World.putObj_heap_other (by omega)⟩) (Below.refl _ _) (fun _ => rfl)
    (fun pre W => LS B cb (w.heap.size + 1) (w.heap.size + 1 + 1) v L fs (accL L (sT D0 (0, Pan.none), xs ++ cN D0 (-1)) pre) w W ∧ OC w.heap.size W ∧ KpF w1.heap.size LB W0 W)
    (fun _ _ _ => False)
    ?hI (fun _ _ _ _ _ hs _ _ => hs) ⟨hLS0, hO0, rfl, rfl⟩
    (fun x => { tmps := #[f0, .slice sa L.length cap, undef, undef, .int .i64 0, .pointer (some ⟨w.heap.size, 0, none⟩), .pointer (some ⟨w.heap.size + 1, 0, none⟩), .pointer (some ⟨w.heap.size + 1 + 1, 0, none⟩), .pointer (some ⟨w.heap.size + 1 + 1 + 1, 0, none⟩), undef, fs.getD x.1 undef, .agg #[.int .i64 0, .string ⟨#[]⟩, .int .i64 0], .func (.func 15) #[] #[.pointer (some ⟨w.heap.size + 1, 0, none⟩), .pointer (some ⟨w.heap.size + 1 + 1, 0, none⟩)], .func (.func 15) #[] #[.pointer (some ⟨w.heap.size + 1, 0, none⟩), .pointer (some ⟨w.heap.size + 1 + 1, 0, none⟩)], f0, .tuple #[], .slice sa L.length cap, .func (.func 25) #[] #[.pointer (some ⟨w1.heap.size, 0, none⟩)], .int .i64 (x.1 : Int), fs.getD x.1 undef, undef, undef, undef, undef, undef], defers := [] }) ?assign ?body ?done ?stop
  case hI =>
    rintro s A A' row ⟨k1, k2, k3⟩ hg hr
    refine ⟨k1.kept hg hr hB (by omega), ⟨own_cells _ _ _ _ s A A' row k2.1 hg (fun r e => (hr r e).2), own_cells _ _ _ _ s A A' row k2.2 hg (fun r e => (hr r e).2)⟩, ?_, ?_⟩
    · rw [hg.block _ (Array.getElem?_eq_some_iff.1 (k3.1.trans hib)).1 (fun e => by have := (hr _ e.symm).1; omega)]; exact k3.1
    · have hlb : W0.heap[LB]? = some (W0.heap[LB]'(by omega)) := Array.getElem?_eq_getElem (by omega)
      rw [hg.block _ (Array.getElem?_eq_some_iff.1 (k3.2.trans hlb)).1 (fun e => by have := (hr _ e.symm).1; omega)]; exact k3.2
  case assign =>
    intro l x W K hK
    dsimp only [encF]
    gi_wp2
    exact hK
  case body =>
    rintro l pre x W ⟨hLS, hO, hK⟩ hlen
    obtain ⟨v2, c1, c2, c3, c4, c5⟩ := hLS
    have hal := accL_len L (sT D0 (0, Pan.none), xs ++ cN D0 (-1)) pre
    have hcn := cN_len D0 (-1)
    obtain ⟨a, ha⟩ : ∃ a, a = accL L (sT D0 (0, Pan.none), xs ++ cN D0 (-1)) pre := ⟨_, rfl⟩
    rw [← ha] at c1 c3 c4 hal
    have hbody := try_opt (n := x.1) c1 (c5 x.1 x.2) (Nat.le_trans hB c2.below.size) (by simp only [List.length_append] at hal; omega) c3 c4 (by omega) (by omega)
    have k8 : W.cell? ⟨w.heap.size + 1 + 1 + 1, 0, none⟩ = some (.func (.func 15) #[] #[.pointer (some ⟨w.heap.size + 1, 0, none⟩), .pointer (some ⟨w.heap.size + 1 + 1, 0, none⟩)]) := by rw [cell_of_block hO.2]; rfl
    obtain ⟨f, hf⟩ : ∃ f, fs.getD x.1 undef = f := ⟨_, rfl⟩
    rw [hf] at hbody ⊢
    have hib2 := hK.1.trans hib
    have hLB2 := hK.2.trans (hLB0 (by have := x.2; omega)).2
    have HB := Lib.hid (And.intro c1 (And.intro c2 (And.intro c5 (And.intro hO (And.intro hK (And.intro hib2 (And.intro hLB2 ha)))))))
    clear c1 c2 c3 c4 c5 hO hK hib2 hLB2 ha hal hcn hf
    gi_wp2_with fail
    refine ⟨trivial, fun _ => by omega, ?_⟩
    refine (CallsIn.inRound l (callsIn_wide.2 hbody)).mono ?_
    clear hbody
    rintro e w3 ⟨rfl, hT3⟩
    have HT3 := Lib.hid hT3
    clear hT3
    gi_wp2_with fail
    obtain ⟨c1, c2, c5, hO, hK, hib2, hLB2, ha⟩ := HB.out
    obtain ⟨v3, q1, q2, q3, q4⟩ := HT3.out
    refine ⟨q2.others c1, ⟨(q2.cells c1 hib2 (by simp [TT]) (by decide)).trans hib2.symm, (q2.cells c1 hLB2 (by simp [TT]) (by decide)).trans hLB2.symm⟩, ?_, ⟨q2.cells c1 hO.1 (by simp [TT] <;> omega) (by decide), q2.cells c1 hO.2 (by simp [TT]) (by decide)⟩,
      ⟨(q2.cells c1 hib2 (by simp [TT]) (by decide)).trans hib.symm, (q2.cells c1 hLB2 (by simp [TT]) (by decide)).trans (hLB0 (by have := x.2; omega)).2.symm⟩⟩
    rw [accL_snoc, ← ha]
    exact LS.round (a := a) c1 c2 c5 HT3.out
  case stop =>
    rintro D c pre W _ _ h _
    exact h.elim
  case done =>
    rintro D ys W hD rfl ⟨hLS, hO, hK⟩ hKD
    obtain ⟨v2, c1, c2, c3, c4, c5⟩ := hLS
    obtain ⟨a, ha⟩ : ∃ a, a = accL L (sT D0 (0, Pan.none), xs ++ cN D0 (-1)) (dn L.length 0) := ⟨_, rfl⟩
    rw [← ha] at c1 c3 c4
    have k5 : W.cell? ⟨w.heap.size, 0, none⟩ = some (.int .i64 0) := by rw [cell_of_block hO.1]; rfl
    have k51 : W.cell? ⟨w.heap.size, 1, none⟩ = some (.string ⟨#[]⟩) := by rw [cell_of_block hO.1]; rfl
    have k52 : W.cell? ⟨w.heap.size, 2, none⟩ = some (.int .i64 0) := by rw [cell_of_block hO.1]; rfl
    have k6 : W.cell? ⟨w.heap.size + 1, 0, none⟩ = some (.int .i64 a.1.1) := by rw [cell_of_block c3]; rfl
    have k7 : W.cell? ⟨w.heap.size + 1 + 1, 0, none⟩ = some (.int .i64 a.1.2.sort) := by rw [cell_of_block c4]; rfl
    have k71 : W.cell? ⟨w.heap.size + 1 + 1, 1, none⟩ = some (.string a.1.2.word) := by rw [cell_of_block c4]; rfl
    have k72 : W.cell? ⟨w.heap.size + 1 + 1, 2, none⟩ = some (.int .i64 0) := by rw [cell_of_block c4]; rfl
    have kf : ∀ i, W.frozen? ⟨w.heap.size, i, none⟩ = false := fun i => frozen_of_block hO.1 i
    have HD := Lib.hid (And.intro c1 (And.intro c2 (And.intro hO (And.intro hKD ha))))
    clear c1 c2 c3 c4 c5 hO hKD ha hK
    gi_wp2
    gi_region
    all_goals gi_wp2
    obtain ⟨c1, c2, hO, hKD, ha⟩ := HD.out
    have hK3 : (setP w.heap.size a.1.2 W).drew.heap[D]? = some (.deferred (some [])) := (setP_other (by omega)).trans hKD
    refine ⟨by simp, .inl ⟨_, _, rfl, run_takeDeferred hK3, ?_⟩⟩
    have h3 : (setP w.heap.size a.1.2 W).drew.heap[w.heap.size]? = some (.cells (pc a.1.2) 29 (0, 0)) := setP_at hO.1 rfl
    have h6 : ((setP w.heap.size a.1.2 W).drew.putObj D (.deferred none)).heap[w.heap.size]? = some (.cells (pc a.1.2) 29 (0, 0)) := (World.putObj_heap_other (by omega)).trans h3
    refine ⟨_, results_tmp_row rfl _ _ w.heap.size 29 (pc a.1.2) (0, 0) _ rfl h6 Tryd.underlying29 rfl (by kernel_rfl), a, v2, ha, rfl, ?_, ?_⟩
    · have g1 := heap_setCell_same W w.heap.size 0 _ _ (.int .i64 a.1.2.sort) hO.1
      have g2 := heap_setCell_same _ w.heap.size 1 _ _ (.string a.1.2.word) g1
      have c6 : CS B cb (setP w.heap.size a.1.2 W) v2 a.2 := ((c1.set hO.1 (by decide) (by decide)).set g1 (by decide) (by decide)).set g2 (by decide) (by decide)
      have hcbD : cb ≠ D := by rintro rfl; have := c6.1; rw [show (setP w.heap.size a.1.2 W).heap[cb]? = some (.deferred (some [])) from hK3] at this; cases this
      exact ⟨(World.putObj_heap_other (w := (setP w.heap.size a.1.2 W).drew) hcbD).trans c6.1, owns_keep (w := (setP w.heap.size a.1.2 W)) c6.2.1 fun b cur e => (World.putObj_heap_other (w := (setP w.heap.size a.1.2 W).drew) (by rintro rfl; rw [show (setP w.heap.size a.1.2 W).heap[b]? = some (.deferred (some [])) from hK3] at e; cases e)), c6.2.2⟩
    · exact c2.after ((below_dN (n := 1) (setP_below (Below.refl w.heap.size W) (Nat.le_refl _))).trans (belowK_b (w := W0) (by omega : w.heap.size ≤ W0.heap.size) _ D _ _ hD hK3 rfl rfl)) hB
end Go.Proofs.YtokfnlfadofmnaaDoor
