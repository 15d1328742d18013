/- Ticks, the program's and the document's; the statement's own 'floats' and 'kept'. -/
import Derived.Test.YtmdfkljmgijdlaaHb
import Derived.Test.YtmdfkljmgijdlaaFg
namespace Go.Proofs.Ytmdfkljmgijdlaa
open Go.RowKit
set_option linter.unusedVariables false

def gt0 (x : Nat) : Bool := FloatKind.f64.format.order x 0 == some .gt
def geMax (x : Nat) : Bool := FloatKind.f64.format.order x 4746794007244308480 == some .gt || FloatKind.f64.format.order x 4746794007244308480 == some .eq
def ceilF (x : Nat) : Nat := FloatKind.f64.encode ((FloatKind.f64.decode x).integral .up)

theorem ceil_run (x : Nat) (hx : ¬ Fl.NaN x) (w : World) : (callFunc 133 #[.float .f64 x]).run Try.prog w = .ok (.value (.float .f64 (ceilF x))) w := by
  rw [run_callFunc_extern Try.func133 (by kernel_rfl) (by kernel_rfl) (by kernel_rfl) (e := Extern.MathFloor.toIntegral "math.archCeil" .up) (by kernel_rfl)]
  have : ∀ s t, Ieee.double.read x ≠ .nan s t := by
    intro s t h
    by_cases hf : Fl.Fnt x
    · obtain ⟨m, p, e, _⟩ := Fl.read_fin hf
      rw [e] at h; cases h
    · rw [Fl.read_notfin hf hx] at h; cases h
  have ex : ∃ G : Bool → Nat → Sem Value, Extern.MathFloor.toIntegral "math.archCeil" .up #[.float .f64 x] =
      (match FloatKind.f64.decode x with | .nan s t => G s t | d => pure (.float .f64 (FloatKind.f64.encode (d.integral .up)))) := ⟨_, rfl⟩
  have key : (Extern.MathFloor.toIntegral "math.archCeil" .up #[.float .f64 x]) = pure (.float .f64 (ceilF x)) := by
    obtain ⟨G, hG⟩ := ex
    rw [hG]
    unfold ceilF
    have hd : FloatKind.f64.decode x = Ieee.double.read x := rfl
    rw [hd]
    cases h : Ieee.double.read x with
    | nan s t => exact absurd h (this s t)
    | number s m p => rfl
    | infinity s => rfl
  rw [key]
  rfl

theorem order_pos_cases {x : Nat} (hw : x < 18446744073709551616) (h0 : gt0 x = true) (h1 : geMax x = false) : ¬ Fl.NaN x ∧ 0 < x ∧ x < 4746794007244308480 := by
  unfold gt0 at h0
  unfold geMax at h1
  rw [fmt_eq] at h0 h1
  by_cases hn : Fl.NaN x
  · rw [Fl.order_nan_left hn] at h0; exact absurd h0 (by decide)
  · have hm : (4746794007244308480 : Nat) ≤ Fl.infR := by decide
    rw [Fl.order_any hn (Fl.nn_pos (Nat.zero_le _)), Fl.key_pos (Nat.zero_le _), Fl.compare_int] at h0
    rw [Fl.order_any hn (Fl.nn_pos hm), Fl.key_pos hm, Fl.compare_int] at h1
    have k0 : 0 < Fl.key x := by
      by_cases g1 : Fl.key x < (0 : Nat)
      · rw [if_pos g1] at h0; exact absurd h0 (by decide)
      · rw [if_neg g1] at h0
        by_cases g2 : Fl.key x = (0 : Nat)
        · rw [if_pos g2] at h0; exact absurd h0 (by decide)
        · omega
    have k1 : Fl.key x < (4746794007244308480 : Nat) := by
      by_cases g1 : Fl.key x < (4746794007244308480 : Nat)
      · exact g1
      · rw [if_neg g1] at h1
        by_cases g2 : Fl.key x = (4746794007244308480 : Nat)
        · rw [if_pos g2] at h1; exact absurd h1 (by decide)
        · rw [if_neg g2] at h1; exact absurd h1 (by decide)
    have hneg : Fl.neg x = false := by
      cases h : Fl.neg x
      · rfl
      · unfold Fl.key at k0; rw [h] at k0; simp only [if_true] at k0; omega
    have hx : x = Fl.rg x := by
      unfold Fl.neg at hneg; unfold Fl.rg
      have : x / 9223372036854775808 < 2 := by omega
      have h4 : ¬ x / 9223372036854775808 = 1 := by intro g; rw [g] at hneg; exact absurd hneg (by decide)
      omega
    have hi := Fl.infR_val
    have hk : Fl.key x = x := by unfold Fl.key; rw [hneg]; simp only [if_false, Bool.false_eq_true]; omega
    exact ⟨hn, by omega, by omega⟩

theorem ticks_any (x : Nat) (hw : x < 18446744073709551616) : ∃ n : Int, (∀ w, Calls Try.prog 44 #[.float .f64 x] w fun e w' => e = .returned (.int .i32 n) ∧ w = w') ∧ (∀ w, Calls Try.prog 45 #[.float .f64 x] w fun e w' => e = .returned (.int .i32 n) ∧ w = w') := by
  cases h0 : gt0 x
  · refine ⟨0, fun w => ?_, fun w => ?_⟩
    · unfold gt0 at h0
      go_enter Try.func44, Try.ntmps44
      go_wp2
      go_ret
      exact ⟨rfl, rfl⟩
    · unfold gt0 at h0
      go_enter Try.func45, Try.ntmps45
      go_wp2
      go_ret
      exact ⟨rfl, rfl⟩
  · cases h1 : geMax x
    · obtain ⟨hn, p0, p1⟩ := order_pos_cases hw h0 h1
      obtain ⟨k, hk⟩ := Fl.ceil_int p0 p1
      have hc := ceil_run x hn
      have hcv : ∀ w, (convert 22 21 (.float .f64 (ceilF x))).run Try.prog w = .ok (.int .i32 k) w := fun w => run_convert_float_int w 22 21 .f64 .i32 _ _ (by rw [Try.underlying22]; rfl) Try.underlying21 hk
      clear p0 p1 hk hn hw
      refine ⟨k, fun w => ?_, fun w => ?_⟩
      · unfold gt0 at h0
        unfold geMax at h1
        go_enter Try.func44, Try.ntmps44
        go_wp2
        go_ret
        exact ⟨rfl, rfl⟩
      · unfold gt0 at h0
        unfold geMax at h1
        go_enter Try.func45, Try.ntmps45
        go_wp2
        go_ret
        exact ⟨rfl, rfl⟩
    · refine ⟨2147483647, fun w => ?_, fun w => ?_⟩
      · unfold gt0 at h0
        unfold geMax at h1
        go_enter Try.func44, Try.ntmps44
        go_wp2
        go_ret
        exact ⟨rfl, rfl⟩
      · unfold gt0 at h0
        unfold geMax at h1
        go_enter Try.func45, Try.ntmps45
        go_wp2
        go_ret
        exact ⟨rfl, rfl⟩
theorem same_eq (x : Nat) (w : World) : Calls Try.prog 31 #[.float .f64 x, .float .f64 x] w fun e w' => e = .returned (.bool true) ∧ w = w' := by
  have h1 := bits_run x
  have h2 : ((x : Int) == (x : Int)) = true := by simp
  go_enter Try.func31, Try.ntmps31
  go_wp2
  go_ret
  exact ⟨rfl, rfl⟩

/-- What is known of a slice of floats: its cells. -/
def Floats (w : World) (a : Option Addr) (n : Nat) (L : Nat → Nat) : Prop := 0 < n → ∃ g, a = some ⟨g, 0, none⟩ ∧ ∀ i, i < n → w.cell? ⟨g, i, none⟩ = some (.float .f64 (L i))

set_option maxRecDepth 100000 in
set_option maxHeartbeats 4000000 in
theorem floats_any (a1 a2 : Option Addr) (n c1 c2 : Nat) (L : Nat → Nat) (w : World) (hn : n ≤ 1000) (h1 : Floats w a1 n L) (h2 : Floats w a2 n L) :
    Calls Try.prog 42 #[.slice a1 n c1, .slice a2 n c2] w fun e w' => e = .returned (.bool true) ∧ Drewn w w' := by
  have e0 : ((n : Int) != (n : Int)) = false := by simp
  have hnn : (n : Int) ≤ 1000 := by omega
  have H1 := Lib.hid h1
  have H2 := Lib.hid h2
  clear h1 h2
  go_enter Try.func42, Try.ntmps42
  go_wp2_with fail
  go_loopw [5] (fun i wr => ∃ k : Nat, i = .int .i64 k ∧ k ≤ n ∧ Drewn w wr) (fun i _ => n - (intOf i).toNat)
  case atStart => exact ⟨0, rfl, Nat.zero_le _, Drewn.refl _⟩
  case round =>
    obtain ⟨k, rfl, hk, hD⟩ := hrel
    by_cases hlt : k < n
    · obtain ⟨g1, rfl, d1⟩ := H1.out (by omega)
      obtain ⟨g2, rfl, d2⟩ := H2.out (by omega)
      have d1 := (hD.cell _).trans (d1 k hlt)
      have d2 := (hD.cell _).trans (d2 k hlt)
      have i1 : (k : Int) < (n : Int) := by omega
      clear hlt H1 H2
      go_wp2_with fail
      go_quiet ((go_at_call 31; exact quiet_eq (same_eq _ _)))
      go_wp2
      go_roundw
      case rel => exact ⟨k + 1, by go_num, by omega, hD.drewN _⟩
      case measure => simp [intOf]; omega
    · have i1 : ¬ ((k : Int) < (n : Int)) := by omega
      go_wp2
      go_ret
      exact ⟨rfl, hD⟩

set_option maxRecDepth 100000 in
set_option maxHeartbeats 4000000 in
theorem kept_any (t : Int) (f g c j d : Nat) (s : Int) (a : Option Addr) (n cp : Nat) (b cap : Nat) (w : World) (L : List Int) (hr : RowIn w a n cp (L.map (.int .i16)))
    (hown : w.ownsRow 0 129 1 (.slice (some ⟨b, 0, none⟩) (n + 1) cap) (n + 1) (L.map (.int .i16) ++ [.int .i16 4711])) :
    Calls Try.prog 43 #[.agg #[.int .i64 t, .float .f64 f, .float .f64 g, .float .f64 c, .float .f64 j, .float .f64 d, .int .u64 s, .slice (some ⟨b, 0, none⟩) n cap],
      .agg #[.int .i64 t, .float .f64 f, .float .f64 g, .float .f64 c, .float .f64 j, .float .f64 d, .int .u64 s, .slice a n cp]] w fun e w' => e = .returned (.bool true) ∧ Below w.heap.size w w' := by
  obtain ⟨g0, cap0, hv, _, hg0, hnc, hcm, hcells⟩ := own_open hown (by omega)
  simp only [Value.slice.injEq, Option.some.injEq, Addr.mk.injEq, and_true, true_and] at hv
  obtain ⟨rfl, rfl⟩ := hv
  have hLn : L.length = n := by have := hown.1; simp at this; omega
  obtain ⟨W, hW⟩ : ∃ W, W = (w.alloc (.cells #[.int .i64 t, .float .f64 f, .float .f64 g, .float .f64 c, .float .f64 j, .float .f64 d, .int .u64 s, .slice (some ⟨b, 0, none⟩) n cap] 27)).alloc (.cells #[.int .i64 t, .float .f64 f, .float .f64 g, .float .f64 c, .float .f64 j, .float .f64 d, .int .u64 s, .slice a n cp] 26) := ⟨_, rfl⟩
  have hbel : Below w.heap.size w W := by rw [hW]; exact ((Below.refl _ _).alloc (Nat.le_refl _) _).alloc (by simp) _
  have hrW := hr.below hbel
  have cA : ∀ i, W.cell? ⟨w.heap.size, i, none⟩ = #[Value.int .i64 t, .float .f64 f, .float .f64 g, .float .f64 c, .float .f64 j, .float .f64 d, .int .u64 s, .slice (some ⟨b, 0, none⟩) n cap][i]? := fun i => by
    rw [hW]; exact cell_of_block (by rw [alloc_old _ _ _ (by simp)]; exact alloc_at _ _) i
  have cB : ∀ i, W.cell? ⟨w.heap.size + 1, i, none⟩ = #[Value.int .i64 t, .float .f64 f, .float .f64 g, .float .f64 c, .float .f64 j, .float .f64 d, .int .u64 s, .slice a n cp][i]? := fun i => by
    rw [hW]; exact cell_of_block (alloc_at' _ _ _ (by simp)) i
  have cR : ∀ i, i < n + 1 → W.cell? ⟨b, i, none⟩ = (L.map (Value.int .i16) ++ [.int .i16 4711])[i]? := fun i hi => by rw [hbel.cell (p := ⟨b, i, none⟩) hg0]; exact hcells i hi
  have hnm : (n : Int) ≤ 9223372036854775806 := by unfold maxLen at hcm; omega
  clear hcells hown hg0
  have HW := Lib.hid hW
  have HB := Lib.hid hbel
  have HA := Lib.hid cA
  have HBB := Lib.hid cB
  have HR := Lib.hid cR
  have HRW := Lib.hid hrW
  have HLn := Lib.hid hLn
  clear hW hbel cA cB cR hrW hLn hr
  go_enter Try.func43, Try.ntmps43
  go_wp2_with fail
  rw [← HW.out]
  clear HW
  go_loopw [5] (fun i wr => ∃ k : Nat, i = .int .i64 k ∧ k ≤ n ∧ Drewn W wr) (fun i _ => n - (intOf i).toNat)
  case atStart => exact ⟨0, rfl, Nat.zero_le _, Drewn.refl _⟩
  case round =>
    obtain ⟨k, rfl, hk, hD⟩ := hrel
    have c1 := fun i => (hD.cell _).trans (HA.out i)
    have c2 := fun i => (hD.cell _).trans (HBB.out i)
    by_cases hlt : k < n
    · have hLn := HLn.out
      have d1 := (hD.cell _).trans (HR.out k (by omega))
      rcases HRW.out with ⟨_, h0, _⟩ | ⟨x, rfl, _, _, hl, hx⟩
      · omega
      have hLk : (L.map (Value.int .i16))[k]? = some (.int .i16 (L.getD k 0)) := by simp [List.getElem?_eq_getElem (show k < L.length by omega)]
      rw [List.getElem?_append_left (by simp; omega), hLk] at d1
      have d2 := (hD.cell _).trans (hx k _ hLk)
      generalize L.getD k 0 = z at *
      have i1 : (k : Int) < (n : Int) := by omega
      have i2 : (k : Int) < (n : Int) + 1 := by omega
      have i3 : (z != z) = false := by simp
      clear hlt hx hl hLn hLk HR HRW HA HBB HLn
      obtain ⟨bx, ox, sx⟩ := x
      go_wp2_with fail
      go_quiet (fail)
      go_wp2
      go_roundw
      case rel => exact ⟨k + 1, by go_num, by omega, hD.drewN _⟩
      case measure => simp [intOf]; omega
    · obtain rfl : k = n := by omega
      have i1 : ¬ ((k : Int) < (k : Int)) := by omega
      have hLn := HLn.out
      have d1 := (hD.cell _).trans (HR.out k (by omega))
      rw [List.getElem?_append_right (by simp; omega)] at d1
      rw [show k - (L.map (Value.int .i16)).length = 0 from by simp; omega, List.getElem?_cons_zero] at d1
      have i2 : (k : Int) + 1 ≤ (cap : Int) := by omega
      have i3 : (k : Int) < (k : Int) + 1 := by omega
      clear hLn HR HRW HA HBB HLn hlt
      go_wp2_with fail
      go_quiet (fail)
      go_wp2
      go_ret
      exact ⟨rfl, below_dN (hD.below HB.out)⟩

end Go.Proofs.Ytmdfkljmgijdlaa
