/- grasp: within, Nodes: all errors within one. -/
import Derived.Test.YtfmnbhhpimpjbaaGreatDoorGe
namespace Go.Proofs.YtfmnbhhpimpjbaaGreatDoor
open Go.RowKit
set_option linter.unusedVariables false

/-- All within an error, by their handles. -/
def withinF (rows : List BRow) : Nat → Int → List Int
  | 0, h => [h]
  | n + 1, h => h :: (walkedF rows (n + 1) h).flatMap (withinF rows n)
theorem withinF_cons (rows : List BRow) (n : Nat) (h : Int) : ∃ l, withinF rows n h = h :: l := by cases n <;> exact ⟨_, rfl⟩
/-- The book lies below B. -/
structure LowBook (D : Nat → Prop) (bb : Nat) (v : Value) (B : Nat) : Prop where
  d : ∀ b, D b → b < B
  b : bb < B
  r : ∀ g, v.ownBlock = some g → g < B
theorem BookIn.low' {D : Nat → Prop} {w w' : World} {base bb B : Nat} {v : Value} {rows : List BRow} {S : Nat → Prop} (h : BookIn D w base bb v rows) (hl : LowBook D bb v B) (k : Ex S w w') (hS : ∀ b, S b → B ≤ b) : BookIn D w' base bb v rows :=
  h.apart k fun b _ hs => ⟨fun hD => by have := hl.d b hD; have := hS b hs; omega, by have := hl.b; have := hS b hs; omega, fun e => by have := hl.r b e; have := hS b hs; omega⟩
theorem LowBook.of {D : Nat → Prop} {w : World} {base bb : Nat} {v : Value} {rows : List BRow} (h : BookIn D w base bb v rows) (hD : ∀ b, D b → b < w.heap.size) : LowBook D bb v w.heap.size :=
  ⟨hD, lt_of_at h.box, fun g hg => (own_at h.own hg).2.1⟩
theorem LowBook.mono {D : Nat → Prop} {bb : Nat} {v : Value} {B B' : Nat} (h : LowBook D bb v B) (k : B ≤ B') : LowBook D bb v B' :=
  ⟨fun b hb => Nat.lt_of_lt_of_le (h.d b hb) k, Nat.lt_of_lt_of_le h.b k, fun g hg => Nat.lt_of_lt_of_le (h.r g hg) k⟩
/-- A row of numbers of the call's own. -/
def OwnI (B : Nat) (w : World) (v : Value) (xs : List Int) : Prop := w.ownsRow B 3 1 v xs.length (xs.map (.int .i64))
theorem OwnI.ex {B : Nat} {S : Nat → Prop} {w w' : World} {v : Value} {xs : List Int} (h : OwnI B w v xs) (k : Ex S w w') (hS : ∀ g, v.ownBlock = some g → ¬ S g) : OwnI B w' v xs := by
  refine ⟨h.1, ?_⟩
  rcases h.2 with q | ⟨g, cap, cur, hv, hg, hh, r⟩
  · exact .inl q
  · exact .inr ⟨g, cap, cur, hv, hg, k.at hh (hS g (by rw [hv]; rfl)), r⟩
/-- Behind within: what was there, and behind it what it put there. -/
def WPost (B : Nat) (l : Value) (zs : List Int) (w : World) (e : Ending) (w' : World) : Prop :=
  ∃ l', e = .returned l' ∧ OwnI B w' l' zs ∧ Ex (fun b => l.ownBlock = some b) w w' ∧ (∀ g, l'.ownBlock = some g → l.ownBlock = some g ∨ w.heap.size ≤ g)
theorem own_slice_form {w : World} {B : Nat} {e : TypeId} {size n : Nat} {v : Value} {xs : List Value} (h : w.ownsRow B e size v n xs) : ∃ a c, v = .slice a n c := by
  rcases h.2 with ⟨rfl, q⟩ | ⟨g, cap, cur, hv, _⟩
  · subst q; exact ⟨_, _, rfl⟩
  · exact ⟨_, _, hv⟩
set_option maxRecDepth 100000 in
set_option maxHeartbeats 8000000 in
theorem within_step {D : Nat → Prop} {base bb : Nat} {v : Value} {rows : List BRow} {B : Nat} (hlow : LowBook D bb v B) (h : Int) (P : List Int) (F : Int → List Int)
    (hP : P.length ≤ 1000)
    (HW : ∀ w, BookIn D w base bb v rows → Calls Tryz.prog 63 #[.pointer (some ⟨bb, 0, none⟩), .int .i64 h] w (HandsPost P w))
    (HR : ∀ p ∈ P, ∀ (l : Value) (xs : List Int) (w : World), BookIn D w base bb v rows → B ≤ w.heap.size → OwnI B w l xs → xs.length + (F p).length ≤ 1000000 →
      Calls Tryz.prog 36 #[.pointer (some ⟨bb, 0, none⟩), .int .i64 p, l] w (WPost B l (xs ++ F p) w))
    (l : Value) (xs : List Int) (w : World) (hB : BookIn D w base bb v rows) (hBw : B ≤ w.heap.size) (hown : OwnI B w l xs) (hlen : xs.length + (h :: P.flatMap F).length ≤ 1000000) :
    Calls Tryz.prog 36 #[.pointer (some ⟨bb, 0, none⟩), .int .i64 h, l] w (WPost B l (xs ++ h :: P.flatMap F) w) := by
  obtain ⟨ii, hi0, hi1, hi2, hi3⟩ := info_parts info_int'
  obtain ⟨la, lc, rfl⟩ := own_slice_form hown
  have HP1 := Lib.hid hP
  have hlen2 : xs.length + 1 ≤ 1000000 := by simp at hlen; omega
  have HLEN := Lib.hid hlen
  have HBK := Lib.hid hB
  have hown' := hown
  unfold OwnI at hown'
  have HOWN := Lib.hid hown
  have HLB := Lib.hid (show ∀ g, (Value.slice la xs.length lc).ownBlock = some g → B ≤ g from fun g hg => (own_at hown hg).1)
  clear hB hown hlen hP
  go_enter Tryz.func36, Tryz.ntmps36
  go_wp2_with (at_builtin; refine wpList_append_place _ rfl (.tmp 9) (.tmp 11) 27 rfl B 3 ii (.int .i64 0) 1 8 Tryz.underlying27 hi0 hi1 hi2 hi3 rfl (by decide) _ _ _ rfl (hown'.alloc _) ⟨w.heap.size, 0, none⟩ 1 1 [.int .i64 h] rfl rfl (by intro m u hu; rcases m with _ | m <;> simp at hu; subst hu; exact cell_of_block (alloc_at _ _) 0) (by intro u hu; simp at hu; subst hu; rfl) (by simp only [maxLen]; omega) (by omega) (by simp; omega) (by decide) ?_)
  intro v1 w1 hown1 hg1 hpl1
  obtain ⟨la1, lc1, rfl⟩ := own_slice_form hown1
  have hex1 : Ex (fun b => (Value.slice la xs.length lc).ownBlock = some b) w w1 := ((Ex.refl _ _).alloc _).grown (hown'.alloc _) hg1 (fun b hb => .inl hb)
  have hB1 := HBK.out.low' hlow hex1 (fun b hb => HLB.out b hb)
  have HS1 := Lib.hid hex1
  have HPL := Lib.hid hpl1
  have HO1 := Lib.hid (show OwnI B w1 (.slice la1 (xs.length + 1) lc1) (xs ++ [h]) by unfold OwnI; rw [List.length_append, List.map_append]; exact hown1)
  have HW1 := Lib.hid (HW w1 hB1)
  have HB1 := Lib.hid hB1
  have hs1 := hex1.size
  clear hown1 hg1 hpl1 hex1 hB1 hown' HOWN
  go_wp2_with fail
  refine HW1.out.mono ?_
  rintro e w2 ⟨pa, pc, rfl, hnp, hpd, hb2⟩
  have HO2 := Lib.hid (HO1.out.ex (Ex.of_below hb2 (S := fun _ => False)) (fun _ _ h => h))
  have HPD := Lib.hid hpd
  have HB2 := Lib.hid hb2
  have hs2 := hb2.size
  have HE2 := Lib.hid ((HS1.out).trans (Ex.of_below hb2 (S := fun _ => False)) (fun _ _ q => q.elim))
  have HLT := Lib.hid (show ∀ g, (Value.slice la1 (xs.length + 1) lc1).ownBlock = some g → (Value.slice la xs.length lc).ownBlock = some g ∨ w.heap.size ≤ g from fun g hg => by
    rcases HPL.out with q | q
    · rw [q] at hg; exact .inl hg
    · rw [q] at hg; cases hg; right; simp)
  have HLW := Lib.hid (show ∀ g, (Value.slice la1 (xs.length + 1) lc1).ownBlock = some g → g < w1.heap.size from fun g hg => (own_at HO1.out hg).2.1)
  clear hpd hb2 hnp HW1 HPL
  go_wp2_with fail
  go_loopw [2, 17] (fun u i x => ∃ k : Nat, i = .int .i64 k ∧ k ≤ P.length ∧ OwnI B x u (xs ++ [h] ++ (P.take k).flatMap F) ∧ Ex (fun b => (Value.slice la1 (xs.length + 1) lc1).ownBlock = some b) w2 x ∧ (∀ g, u.ownBlock = some g → (Value.slice la1 (xs.length + 1) lc1).ownBlock = some g ∨ w2.heap.size ≤ g)) (fun _ i _ => P.length - (intOf i).toNat)
  case atStart => exact ⟨0, rfl, by omega, by simpa using HO2.out, Ex.refl _ _, fun g hg => .inl hg⟩
  case round =>
    obtain ⟨k, rfl, hk, hown, hex, hpl⟩ := hrel
    have HO := Lib.hid hown
    have HEX := Lib.hid hex
    have HPLR := Lib.hid hpl
    have hsr := hex.size
    have hp1000 := HP1.out
    clear hown hex hpl
    by_cases hlt : k < P.length
    · obtain ⟨b, i, cs, t, fr, rfl, hDb, ht, hbb, hcs⟩ := HPD.out (by omega)
      have hbr : wr.heap[b]? = some (.cells cs t fr) := by
        rw [HEX.out.block b (lt_of_at hbb) (fun q => by have := HLW.out b q; have := hDb.1; omega)]; exact hbb
      have ck := (cell_of_block hbr (i + k)).trans (hcs k hlt)
      obtain ⟨y, hy⟩ : ∃ y, y = P.getD k 0 := ⟨_, rfl⟩
      rw [← hy] at ck
      have hym : y ∈ P := by rw [hy, List.getD_eq_getElem?_getD, List.getElem?_eq_getElem hlt]; exact List.getElem_mem hlt
      have hs2w := HE2.out.size
      have HBr := Lib.hid ((HBK.out.low' hlow HE2.out (fun b hb => HLB.out b hb)).low' hlow HEX.out (fun b hb => (own_at HO1.out hb).1))
      have HTK := Lib.hid (show (P.take (k + 1)).flatMap F = (P.take k).flatMap F ++ F y by
        rw [List.take_add_one, List.flatMap_append, List.getElem?_eq_getElem hlt, hy, List.getD_eq_getElem?_getD, List.getElem?_eq_getElem hlt]; simp)
      have hle : (xs ++ [h] ++ (P.take k).flatMap F).length + (F y).length ≤ 1000000 := by
        have h1 := HLEN.out
        have h2 : (P.take (k + 1)).flatMap F = (P.take k).flatMap F ++ F y := HTK.out
        have h3 : ((P.take (k + 1)).flatMap F).length ≤ (P.flatMap F).length := by
          conv => rhs; rw [← List.take_append_drop (k + 1) P, List.flatMap_append, List.length_append]
          omega
        rw [h2, List.length_append] at h3
        simp only [List.length_append, List.length_cons, List.length_nil] at h1 ⊢
        omega
      have HC := Lib.hid (HR y hym _ _ wr HBr.out (by omega) HO.out hle)
      have i1 : (k : Int) < (P.length : Int) := by omega
      clear hcs hbb hbr hy hym HR
      go_wp2_with fail
      refine HC.out.mono ?_
      rintro e w3 ⟨l3, rfl, ho3, hex3, hpl3⟩
      have HO3 := Lib.hid ho3
      have HEX3 := Lib.hid hex3
      have HPL3 := Lib.hid hpl3
      clear ho3 hex3 hpl3 HC
      go_wp2
      go_roundw
      case rel =>
        refine ⟨k + 1, by go_num, by omega, ?_, ?_, ?_⟩
        · rw [HTK.out, ← List.append_assoc]; exact HO3.out
        · exact HEX.out.trans HEX3.out (fun b hb q => by
            rcases HPLR.out b q with q | q
            · exact q
            · omega)
        · intro g hg
          rcases HPL3.out g hg with q | q
          · exact HPLR.out g q
          · right; omega
      case measure => simp [intOf]; omega
    · obtain rfl : k = P.length := by omega
      have q4 := HO.out
      rw [List.take_length, List.append_assoc] at q4
      have HO4 := Lib.hid q4
      clear q4
      clear HR HO
      go_wp2
      go_ret
      refine ⟨_, rfl, HO4.out, ?_, ?_⟩
      · exact HE2.out.trans HEX.out (fun b hb q => by
          rcases HLT.out b q with q | q
          · exact q
          · omega)
      · intro g hg
        rcases HPLR.out g hg with q | q
        · exact HLT.out g q
        · right; have := HE2.out.size; omega
theorem walkedF_len (rows : List BRow) (hr : ∀ h : Int, (rowAt rows h).sp.parts.length ≤ 64) : ∀ (n : Nat) (h : Int), (walkedF rows n h).length ≤ 64
  | 0, h => by simp [walkedF]
  | n + 1, h => by
    unfold walkedF
    split
    · simp
    · split
      · split
        · exact walkedF_len rows hr n _
        · simp
      · split
        · exact Nat.le_trans (keepF_len _) (hr h)
        · simp
theorem walkedF_lt (rows : List BRow) (hr : ∀ h : Int, 1 ≤ h ∧ h ≤ rows.length → ∀ x ∈ (rowAt rows h).sp.parts, 0 ≤ x ∧ x ≤ h - 1) : ∀ (n : Nat) (h : Int), h ≤ n → ∀ p ∈ walkedF rows n h, 1 ≤ p ∧ p ≤ h - 1
  | 0, h, hn, p, hp => by simp [walkedF] at hp
  | n + 1, h, hn, p, hp => by
    unfold walkedF at hp
    split at hp
    · simp at hp
    · rename_i h1
      have hin : 1 ≤ h ∧ h ≤ rows.length := Decidable.byContradiction fun q => h1 (.inl q)
      split at hp
      · split at hp
        · rename_i h2
          have hy := hr h hin ((rowAt rows h).sp.parts.getD 0 0) (by
            rw [List.getD_eq_getElem?_getD, List.getElem?_eq_getElem (by omega)]; exact List.getElem_mem _)
          have := walkedF_lt rows hr n _ (by omega) p hp
          omega
        · simp at hp
      · split at hp
        · unfold keepF at hp
          simp at hp
          have := hr h hin p hp.1
          omega
        · simp at hp
theorem rows_hands {D : Nat → Prop} {w : World} {base bb : Nat} {v : Value} {rows : List BRow} (hB : BookIn D w base bb v rows) : ∀ h : Int, 1 ≤ h ∧ h ≤ rows.length → ∀ x ∈ (rowAt rows h).sp.parts, 0 ≤ x ∧ x ≤ h - 1 := fun h hh x hx => by
  have := (hB.ok _ _ (rowAt_in rows h hh.1 hh.2)).hand x hx
  omega
theorem within_any {D : Nat → Prop} {base bb : Nat} {v : Value} {rows : List BRow} {B : Nat} (hlow : LowBook D bb v B) : ∀ (n : Nat) (h : Int), h ≤ n → ∀ (l : Value) (xs : List Int) (w : World), BookIn D w base bb v rows → B ≤ w.heap.size → OwnI B w l xs → xs.length + (withinF rows n h).length ≤ 1000000 →
    Calls Tryz.prog 36 #[.pointer (some ⟨bb, 0, none⟩), .int .i64 h, l] w (WPost B l (xs ++ withinF rows n h) w)
  | 0, h, hn, l, xs, w, hB, hBw, ho, hl => by
    have h1 := within_step hlow h [] (fun _ => []) (by simp) (fun w hB => walked_any 0 h w hB hn) (fun p hp => by simp at hp) l xs w hB hBw ho (by simpa [withinF] using hl)
    simpa [withinF] using h1
  | n + 1, h, hn, l, xs, w, hB, hBw, ho, hl => by
    exact within_step hlow h (walkedF rows (n + 1) h) (withinF rows n) (Nat.le_trans (walkedF_len rows (fun h => (row_facts hB h).2.1) _ _) (by omega)) (fun w hB => walked_any (n + 1) h w hB hn)
      (fun p hp l xs w hB hBw ho hl => within_any hlow n p (by have := walkedF_lt rows (rows_hands hB) (n + 1) h hn p hp; omega) l xs w hB hBw ho hl) l xs w hB hBw ho hl
end Go.Proofs.YtfmnbhhpimpjbaaGreatDoor
