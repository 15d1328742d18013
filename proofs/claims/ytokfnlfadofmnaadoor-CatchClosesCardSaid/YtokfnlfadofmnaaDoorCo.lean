/- book.New; the statements' own example awake. -/
import Derived.Test.YtokfnlfadofmnaaDoorCn
namespace Go.Proofs.YtokfnlfadofmnaaDoor
open Go.RowKit
set_option linter.unusedVariables false

theorem new_any (w : World) : Calls Tryd.prog 6 #[] w fun e w' => e = .returned (.pointer (some ⟨w.heap.size, 0, none⟩)) ∧ w' = w.alloc (.cells #[.slice none 0 0] 57) := by
  go_enter Tryd.func6, Tryd.ntmps6
  go_wp2
  go_ret
  exact ⟨rfl, rfl⟩

theorem row_lit {W : World} {b : Nat} {cur : Array Value} {l : List Stp} (h : W.heap[b]? = some (.cells cur 27 (0, 0))) (hc : cur.toList = sc l) (hl : l.length ≤ 1000000) : W.ownsRow 0 27 4 (.slice (some ⟨b, 0, none⟩) l.length l.length) l.length (sc l) := by
  have hs : cur.size = l.length * 4 := by rw [← Array.length_toList, hc, sc_len]
  exact ⟨sc_len l, .inr ⟨b, l.length, cur, rfl, Nat.zero_le _, h, Nat.le_refl _, by simp only [maxLen]; omega, hs, by rw [← hc, ← hs, ← Array.length_toList, List.take_length]⟩⟩

def awF : List (List Stp) := [[⟨1, 5, 0⟩, ⟨7, 0, 1⟩, ⟨9, 7, 0⟩], [⟨11, 0, 0⟩, ⟨2, 1, 0⟩]]
def awX : Fin := ⟨⟨6, Pan.own (itoaB 7)⟩, none, none, ⟨5, false, [⟨1, 0, 0, Pan.own (itoaB 7)⟩]⟩⟩
theorem aw_run : runL awF itoaB 60 1 0 0 Res.new none [] m0 = some awX := by kernel_rfl
theorem itoa7 : itoaB 7 = ⟨#[55]⟩ := by decide +kernel

theorem fv_two {W : World} {FB b1 b2 : Nat} {c1 c2 : Array Value} {l1 l2 : List Stp} (hF : W.heap[FB]? = some (.cells #[.slice (some ⟨b1, 0, none⟩) l1.length l1.length, .slice (some ⟨b2, 0, none⟩) l2.length l2.length] 24 (0, 0))) (h1 : W.heap[b1]? = some (.cells c1 27 (0, 0))) (h2 : W.heap[b2]? = some (.cells c2 27 (0, 0)))
    (e1 : c1.toList = sc l1) (e2 : c2.toList = sc l2) (n1 : l1.length ≤ 1000000) (n2 : l2.length ≤ 1000000) : FV W FB 2 [l1, l2] := by
  refine ⟨_, hF, Nat.le_refl _, by decide, fun i hi => ?_⟩
  match i, hi with
  | 0, _ => exact ⟨_, rfl, row_lit h1 e1 n1⟩
  | 1, _ => exact ⟨_, rfl, row_lit h2 e2 n2⟩

/-- One thing that was told, read. -/
theorem told_one {w : World} {base n : Nat} {ov : Value} {l : List OutE} (h : w.ownsRow base 38 7 ov l.length (oc l)) (h0 : 0 < l.length) : ∃ g cp, ov = .slice (some ⟨g, 0, none⟩) l.length cp ∧ base ≤ g ∧ ∀ k j, k < l.length → j < 7 → w.cell? ⟨g, k * 7 + j, none⟩ = (oc l)[k * 7 + j]? := by
  rcases h.2 with ⟨_, h1⟩ | ⟨g, cap, cur, rfl, hg, hb, hn, hm, hc, ht⟩
  · omega
  · refine ⟨g, cap, rfl, hg, fun k j hk hj => ?_⟩
    rw [cell_of_block hb, ← ht, List.getElem?_take, if_pos (by omega)]
    simp

def awA : Obj := .cells #[.slice none 0 0] 57
def awB : Obj := .cells #[.int .u8 1, .int .i16 5, .int .i64 0, .int .i64 0, .int .u8 7, .int .i16 0, .int .i64 1, .int .i64 0, .int .u8 9, .int .i16 7, .int .i64 0, .int .i64 0] 27
def awC : Obj := .cells #[.int .u8 11, .int .i16 0, .int .i64 0, .int .i64 0, .int .u8 2, .int .i16 1, .int .i64 0, .int .i64 0] 27
def AwPost (w : World) (e : Ending) (w' : World) : Prop :=
  ∃ g cp, e = .returned (.tuple #[.agg #[.int .u8 1, .int .i16 6, .int .i64 0, .int .i64 0, .string ⟨#[]⟩, .int .i64 0, .slice (some ⟨g, 0, none⟩) 1 cp, .int .i64 5], .int .i64 0]) ∧
    w'.cell? ⟨g, 4, none⟩ = some (.int .i64 1) ∧ w'.cell? ⟨g, 5, none⟩ = some (.string ⟨#[55]⟩) ∧ w'.cell? ⟨g, 6, none⟩ = some (.int .i64 0) ∧ Below w.heap.size w w'
theorem aw_call (w : World) (htab : Lib.TabIs Tryd.prog w "internal/strconv.uint64pow10" .u64 Lib.pow10Tab) (hw0 : 0 < w.heap.size) : Calls Tryd.prog 7 #[.pointer (some ⟨w.heap.size, 0, none⟩), .slice (some ⟨w.heap.size + 1 + 1 + 1, 0, none⟩) 2 2]
    ((((w.alloc awA).alloc awB).alloc awC).alloc (.cells #[.slice (some ⟨w.heap.size + 1, 0, none⟩) 3 3, .slice (some ⟨w.heap.size + 1 + 1, 0, none⟩) 2 2] 24)) (AwPost w) := by
  obtain ⟨W, hW⟩ : ∃ W, W = ((((w.alloc awA).alloc awB).alloc awC).alloc (.cells #[.slice (some ⟨w.heap.size + 1, 0, none⟩) 3 3, .slice (some ⟨w.heap.size + 1 + 1, 0, none⟩) 2 2] 24)) := ⟨_, rfl⟩
  have hb : Below w.heap.size w W := by rw [hW]; exact ((((Below.refl _ _).alloc (Nat.le_refl _) _).alloc (by simp) _).alloc (by simp <;> omega) _).alloc (by simp <;> omega) _
  have h4 : W.heap[w.heap.size + 1 + 1 + 1]? = some (.cells #[.slice (some ⟨w.heap.size + 1, 0, none⟩) 3 3, .slice (some ⟨w.heap.size + 1 + 1, 0, none⟩) 2 2] 24 (0, 0)) := by rw [hW]; exact alloc_at' _ _ _ (by simp)
  have h3 : W.heap[w.heap.size + 1 + 1]? = some awC := by rw [hW, alloc_old _ _ _ (by simp)]; exact alloc_at' _ _ _ (by simp)
  have h2 : W.heap[w.heap.size + 1]? = some awB := by rw [hW, alloc_old _ _ _ (by simp <;> omega), alloc_old _ _ _ (by simp)]; exact alloc_at' _ _ _ (by simp)
  rw [← hW]
  refine (run_ok (x := awX) (F := awF) (n := 60) (fv_two (l1 := awF.getD 0 []) (l2 := awF.getD 1 []) h4 h2 h3 rfl rfl (by decide) (by decide)) (by decide) (by decide) (by decide) (by decide) aw_run (by decide) (tab_keep htab (hb.block 0 hw0)) (by have := hb.size; omega)).mono ?_
  rintro e w' ⟨ov, rfl, ho, hb2⟩
  have ho2 : w'.ownsRow W.heap.size 38 7 ov [(⟨1, 0, 0, Pan.own (itoaB 7)⟩ : OutE)].length (oc [⟨1, 0, 0, Pan.own (itoaB 7)⟩]) := ho
  obtain ⟨g, cp, rfl, hg, hc⟩ := told_one (n := 0) ho2 (by decide)
  refine ⟨g, cp, rfl, hc 0 4 (by decide) (by decide), ?_, hc 0 6 (by decide) (by decide), hb.trans (hb2.mono hb.size)⟩
  rw [← itoa7]
  exact hc 0 5 (by decide) (by decide)

set_option maxRecDepth 100000 in
theorem awake_any (w : World) (htab : Lib.TabIs Tryd.prog w "internal/strconv.uint64pow10" .u64 Lib.pow10Tab) (hw0 : 0 < w.heap.size) : Calls Tryd.prog 8 #[] w fun e w' => e = .returned (.bool true) ∧ Below w.heap.size w w' := by
  have hcall := aw_call w htab hw0
  unfold awA awB awC at hcall
  have heq : ∀ w, (binOp .eql 29 (.agg #[.int .i64 1, .string ⟨#[55]⟩, .int .i64 0]) (.agg #[.int .i64 1, .string ⟨#[55]⟩, .int .i64 0])).run Tryd.prog w = .ok (.bool true) w := fun w => by kernel_rfl
  go_enter Tryd.func8, Tryd.ntmps8
  go_wp2_with (first | (go_at_call 6; refine (new_any _).mono ?_; rintro e w1 ⟨rfl, rfl⟩) | (go_at_call 7; refine hcall.mono ?_; rintro e w2 ⟨g, cp, rfl, k4, k5, k6, hb⟩; have hgl := block_lt k4; have hgn : ¬ g = w2.heap.size := Nat.ne_of_lt hgl))
  go_ret
  exact ⟨rfl, hb.alloc hb.size _⟩
end Go.Proofs.YtokfnlfadofmnaaDoor
