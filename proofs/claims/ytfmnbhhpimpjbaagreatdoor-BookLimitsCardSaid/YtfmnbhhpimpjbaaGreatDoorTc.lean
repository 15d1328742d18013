/- kinds: what a spec may not bear; Check. -/
import Derived.Test.YtfmnbhhpimpjbaaGreatDoorTb
namespace Go.Proofs.YtfmnbhhpimpjbaaGreatDoor
open Go.RowKit
set_option linter.unusedVariables false

theorem has_any (c : UInt8) (z : Bool) (b : Nat) (cnt : ByteArray) (hl : cnt.size ≤ 9223372036854775807) (w : World) (hc : w.cell? ⟨b, 0, none⟩ = some (.string cnt)) :
    Calls Tryz.prog 68 #[.string ⟨#[c]⟩, .bool z, .pointer (some ⟨b, 0, none⟩)] w fun e w' => e = .returned (.bool (z || hasL cnt.data.toList c)) ∧ w = w' := by
  have K := Lib.hid (contains_any cnt c w hl)
  cases z
  · go_enter Tryz.func68, Tryz.ntmps68
    go_wp2_with (go_at_call 69; refine K.out.mono ?_; rintro e w' ⟨rfl, rfl⟩)
    go_ret
    exact ⟨rfl, rfl⟩
  · go_enter Tryz.func68, Tryz.ntmps68
    go_wp2
    go_ret
    exact ⟨rfl, rfl⟩

/-- Are the fields zero that don't count? -/
def bareF (s : Sp) (l : List UInt8) : Bool :=
  (s.text.toList.isEmpty || hasL l 84) && (s.number == 0 || hasL l 78) && (s.small == 0 || hasL l 83) && ((s.re : Int) == 0 || hasL l 82) && ((s.im : Int) == 0 || hasL l 77) &&
    (!s.flag || hasL l 70) && (s.mask == 0 || hasL l 75) && ((s.items.length : Int) == 0 || hasL l 73) && (!s.nil || hasL l 48)

set_option maxRecDepth 100000 in
set_option maxHeartbeats 16000000 in
theorem bare_any (s : Sp) (hs : s.Ok) (ia : Option Addr) (ic : Nat) (pa : Option Addr) (pc : Nat) (cnt : ByteArray) (hl : cnt.size ≤ 9223372036854775807) (w : World) :
    Calls Tryz.prog 45 #[.agg (spC s ia ic pa pc), .string cnt] w fun e w' => e = .returned (.bool (bareF s cnt.data.toList)) ∧ Below w.heap.size w w' := by
  have hb : Below w.heap.size w ((w.alloc (.cells (spC s ia ic pa pc) 34)).alloc (.cells #[.string cnt] 9)) := ((Below.refl _ _).alloc (Nat.le_refl _) _).alloc (by simp) _
  have hq : ((w.alloc (.cells (spC s ia ic pa pc) 34)).alloc (.cells #[.string cnt] 9)).cell? ⟨w.heap.size + 1, 0, none⟩ = some (.string cnt) := cell_of_block (alloc_at' _ _ _ (by simp)) 0
  have K := Lib.hid (fun (c : UInt8) (z : Bool) => has_any c z (w.heap.size + 1) cnt hl _ hq)
  have h1 := bits_run
  have hi := hs.items
  have HB := Lib.hid hb
  obtain ⟨kind, nil, text, number, small, re, im, flag, mask, items, parts⟩ := s
  unfold spC at *
  clear hs hl hb hq
  go_enter Tryz.func45, Tryz.ntmps45
  go_wp2_with (go_at_call 68; refine (K.out _ _).mono ?_; rintro e w' ⟨rfl, rfl⟩)
  all_goals
    go_ret
    refine ⟨?_, HB.out⟩
    clear K HB h1 hi
    unfold bareF
    simp_all
end Go.Proofs.YtfmnbhhpimpjbaaGreatDoor
