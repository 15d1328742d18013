/- CatchOnce's walk. -/
import Derived.Test.YtokfnlfadofmnaaDoorCp
namespace Go.Proofs.YtokfnlfadofmnaaDoor
open Go.RowKit
set_option linter.unusedVariables false

theorem info27 : ∃ i : TypeInfo, Tryd.prog.info? 27 = some i ∧ i.zero = some (.agg #[.int .u8 0, .int .i16 0, .int .i64 0, .int .i64 0]) ∧ i.size = 4 ∧ i.bytes = 24 := info_parts (by kernel_rfl)

theorem cells_new (W : World) (cs : Array Value) (t : TypeId) (b : Nat) (hb : b = W.heap.size) (j : Nat) (u : Value) (h : cs.toList[j]? = some u) : (W.alloc (.cells cs t)).cell? ((⟨b, 0, none⟩ : Addr).add j) = some u := by
  subst hb
  rw [show (⟨W.heap.size, 0, none⟩ : Addr).add j = ⟨W.heap.size, 0 + j, none⟩ from Go.WideShapes.add_plain _ _ _, Nat.zero_add, cell_of_block (alloc_at W _)]
  simpa using h
/-- A step appended to a row of the call's own. -/
theorem app27 {ops : Array Oper} {rest : List Oper} {o : Oper} {a : Act} {Q : Exit → Act → World → Prop} (hgd : o.guard = none) (s x : Operand) (ho : o.op = .call { callee := .builtin .append, args := #[s, x], argTypes := #[24, 24] })
    {w w0 : World} {k : Nat} {v a1 a2 a3 a4 : Value} {xs : List Value} (hown : w.ownsRow w0.heap.size 27 4 v k xs) (hs : a.eval s = v) {g : Nat} (hx : a.eval x = .slice (some ⟨g, 0, none⟩) 1 1) (hgw : g = w.heap.size) (h1 : ∀ u ∈ [a1, a2, a3, a4], u.oneCell' = true) (hk : k ≤ 20000) (hb : Below w0.heap.size w0 w)
    (h : ∀ v' w', w'.ownsRow w0.heap.size 27 4 v' (k + 1) (xs ++ [a1, a2, a3, a4]) → Below w0.heap.size w0 w' → wpList Tryd.prog ops Q rest (a.put o.dst v') w') : wpList Tryd.prog ops Q (o :: rest) a (w.alloc (.cells #[a1, a2, a3, a4] 27)) := by
  subst hgw
  obtain ⟨i0, hi, hz0, hz1, hz2⟩ := info27
  refine wpList_append_own (P := Tryd.prog) _ hgd s x 24 ho w0.heap.size 27 i0 _ 4 24 Tryd.underlying24 hi hz0 hz1 hz2 rfl (by decide) v k xs hs (hown.alloc _) ⟨w.heap.size, 0, none⟩ 1 1 [a1, a2, a3, a4] hx rfl (fun j u hj => cells_new _ _ _ _ rfl j u (by simpa using hj)) h1 (by simp only [maxLen]; omega) (by omega) (by have := hb.size; simp; omega) ?_
  intro v' w' h2 h3 _
  refine h v' w' h2 ((hb.alloc hb.size _).grown h3 (by have := hb.size; simp; omega) fun i hi => ?_)
  rcases hown.2 with ⟨rfl, _⟩ | ⟨g, cap, cur, rfl, hg, _⟩
  · cases hi
  · simp only [Value.ownBlock, Option.some.injEq] at hi; omega

theorem sc_snoc (l : List Stp) (x : Stp) : sc (l ++ [x]) = sc l ++ sc1 x := by simp [sc]
def laterL (P : List Stp) (k : Nat) : List Stp := P ++ List.replicate k ⟨7, 0, 2⟩
theorem laterL_succ (P : List Stp) (k : Nat) : laterL P (k + 1) = laterL P k ++ [⟨7, 0, 2⟩] := by simp [laterL, List.replicate_succ']
theorem laterL_len (P : List Stp) (k : Nat) : (laterL P k).length = P.length + k := by simp [laterL]
theorem many_n (many : Int) : ∃ n : Nat, n < 50 ∧ (wrap64 (many.tmod 50 + 50)).tmod 50 = (n : Int) := by
  have h1 : -50 < many.tmod 50 ∧ many.tmod 50 < 50 := ⟨Int.neg_lt_of_neg_lt (by have := Int.tmod_lt_of_pos (-many) (b := 50) (by decide); rw [Int.neg_tmod] at this; omega), Int.tmod_lt_of_pos _ (by decide)⟩
  rw [IntWalk.wrap64_in _ (by omega)]
  have h2 : 0 ≤ (many.tmod 50 + 50).tmod 50 := Int.tmod_nonneg _ (by omega)
  have h3 : (many.tmod 50 + 50).tmod 50 < 50 := Int.tmod_lt_of_pos _ (by decide)
  exact ⟨((many.tmod 50 + 50).tmod 50).toNat, by omega, by omega⟩
theorem own_nil (w : World) (base : Nat) : w.ownsRow base 27 4 (.slice none 0 0) 0 [] := ⟨rfl, .inl ⟨rfl, rfl⟩⟩

theorem owns_mono0 {w : World} {base : Nat} {e : TypeId} {size : Nat} {v : Value} {n : Nat} {xs : List Value} (h : w.ownsRow base e size v n xs) : w.ownsRow 0 e size v n xs := by
  obtain ⟨h1, h2⟩ := h
  refine ⟨h1, ?_⟩
  rcases h2 with h2 | ⟨g, cap, cur, hv, hg, r⟩
  · exact Or.inl h2
  · exact Or.inr ⟨g, cap, cur, hv, Nat.zero_le _, r⟩
/-- What Run answers to CatchOnce. -/
def OncePost (n h : Nat) (r : Bool) (w : World) (e : Ending) (w' : World) : Prop :=
  ∃ (en : Nat) (num : Int) (p : Pan) (oa : Option Addr) (len oc steps : Nat), e = .returned (.tuple #[.agg #[.int .u8 en, .int .i16 num, .int .i64 0, .int .i64 p.sort, .string p.word, .int .i64 0, .slice oa len oc, .int .i64 steps], .int .i64 0]) ∧ Below w.heap.size w w' ∧ n ≤ len ∧
    (∀ i, i < n → ∃ g, oa = some ⟨g, 0, none⟩ ∧ w'.cell? ⟨g, i * 7, none⟩ = some (.int .i64 2) ∧ w'.cell? ⟨g, i * 7 + 2, none⟩ = some (.int .i16 ((i : Int) + 1))) ∧
    ((r = false ∧ h < 2) → en = 2 ∧ len = n) ∧ (¬ (r = false ∧ h < 2) → en = 1 ∧ num = n)
theorem oc_get (l : List OutE) (k j : Nat) (hk : k < l.length) (hj : j < 7) : (oc l)[k * 7 + j]? = (oc1 l[k])[j]? := by
  induction l generalizing k with
  | nil => simp at hk
  | cons s l ih =>
    simp only [oc, List.flatMap_cons]
    cases k with
    | zero => rw [List.getElem?_append_left (by simp [oc1]; omega)]; simp
    | succ k =>
      rw [List.getElem?_append_right (by simp [oc1]; omega)]
      have e : (k + 1) * 7 + j - (oc1 s).length = k * 7 + j := by simp [oc1]; omega
      rw [e]
      have := ih k (by simpa using hk)
      simpa [oc] using this

def onA : Obj := .cells #[.int .u8 11, .int .i16 0, .int .i64 0, .int .i64 0, .int .u8 4, .int .i16 0, .int .i64 0, .int .i64 0] 27
def onB : Obj := .cells #[.int .u8 2, .int .i16 1, .int .i64 0, .int .i64 0, .int .u8 4, .int .i16 0, .int .i64 0, .int .i64 0] 27
theorem once_call {w wr : World} {n how h : Nat} {r : Bool} {v : Value} {bb : Addr} (hn : n < 50) (hh : h < 3) (hown : wr.ownsRow w.heap.size 27 4 v (onceL n h r).length (sc (onceL n h r))) (hbw : Below w.heap.size w wr) (htab : Lib.TabIs Tryd.prog w "internal/strconv.uint64pow10" .u64 Lib.pow10Tab) (hw0 : 0 < w.heap.size) :
    Calls Tryd.prog 7 #[.pointer (some bb), .slice (some ⟨wr.heap.size + 1 + 1, 0, none⟩) 3 3] (((wr.alloc onA).alloc onB).alloc (.cells #[v, .slice (some ⟨wr.heap.size, 0, none⟩) 2 2, .slice (some ⟨wr.heap.size + 1, 0, none⟩) 2 2] 24)) (OncePost n h r w) := by
  have hall := once_all n hn h hh r
  unfold onceOk at hall
  simp only [Bool.and_eq_true, decide_eq_true_eq] at hall
  obtain ⟨⟨⟨hP, htot⟩, hlen⟩, hrun⟩ := hall
  cases hx : runL (onceF n h r) itoaB 1000 1 0 0 Res.new none [] m0 with
  | none => rw [hx] at hrun; cases hrun
  | some x =>
  rw [hx] at hrun
  simp only [Bool.and_eq_true, List.all_eq_true, Bool.not_eq_true'] at hrun
  obtain ⟨⟨hout, hsp⟩, hend⟩ := hrun
  obtain ⟨W, hW⟩ : ∃ W, W = (((wr.alloc onA).alloc onB).alloc (.cells #[v, .slice (some ⟨wr.heap.size, 0, none⟩) 2 2, .slice (some ⟨wr.heap.size + 1, 0, none⟩) 2 2] 24)) := ⟨_, rfl⟩
  have hbr : Below wr.heap.size wr W := by rw [hW]; exact (((Below.refl _ _).alloc (Nat.le_refl _) _).alloc (by simp) _).alloc (by simp <;> omega) _
  have hb : Below w.heap.size w W := hbw.trans (hbr.mono hbw.size)
  have h4 : W.heap[wr.heap.size + 1 + 1]? = some (.cells #[v, .slice (some ⟨wr.heap.size, 0, none⟩) 2 2, .slice (some ⟨wr.heap.size + 1, 0, none⟩) 2 2] 24 (0, 0)) := by rw [hW]; exact alloc_at' _ _ _ (by simp)
  have h3 : W.heap[wr.heap.size + 1]? = some onB := by rw [hW, alloc_old _ _ _ (by simp)]; exact alloc_at' _ _ _ (by simp)
  have h2 : W.heap[wr.heap.size]? = some onA := by rw [hW, alloc_old _ _ _ (by simp <;> omega), alloc_old _ _ _ (by simp)]; exact alloc_at _ _
  rw [← hW]
  have hFV : FV W (wr.heap.size + 1 + 1) 3 (onceF n h r) := by
    refine ⟨_, h4, Nat.le_refl _, by decide, fun i hi => ?_⟩
    match i, hi with
    | 0, _ => exact ⟨_, rfl, owns_mono0 (owns_keep hown fun b cur e => hbr.block b (Array.getElem?_eq_some_iff.1 e).1)⟩
    | 1, _ => exact ⟨_, rfl, row_lit h2 rfl (by show 2 ≤ 1000000; decide)⟩
    | 2, _ => exact ⟨_, rfl, row_lit h3 rfl (by show 2 ≤ 1000000; decide)⟩
  refine (run_ok (x := x) (F := onceF n h r) (n := 1000) hFV (by show 0 < 3; decide) (by show 3 ≤ 64; decide) htot hP hx (by decide) (tab_keep htab (hb.block 0 hw0)) (by have := hb.size; omega)).mono ?_
  rintro e w' ⟨ov, rfl, ho, hb2⟩
  obtain ⟨oa, occ, rfl⟩ := own_form ho
  have hon : ∀ i, i < n → ∃ o, x.m.out[i]? = some o ∧ o.fn = 2 ∧ o.number = (i : Int) + 1 := fun i hi => by
    have := hout i (List.mem_range.2 hi)
    cases ho : x.m.out[i]? with
    | none => rw [ho] at this; cases this
    | some o => rw [ho] at this; simp at this; exact ⟨o, rfl, this.1, this.2⟩
  have hnl : n ≤ x.m.out.length := by
    rcases Nat.eq_zero_or_pos n with rfl | h0
    · exact Nat.zero_le _
    · obtain ⟨o, h1, _⟩ := hon (n - 1) (by omega)
      have := (List.getElem?_eq_some_iff.1 h1).1
      omega
  have hcells : ∀ i, i < n → ∃ g, oa = some ⟨g, 0, none⟩ ∧ w'.cell? ⟨g, i * 7, none⟩ = some (.int .i64 2) ∧ w'.cell? ⟨g, i * 7 + 2, none⟩ = some (.int .i16 ((i : Int) + 1)) := by
    intro i hi
    obtain ⟨g, cp, hg, _, hc⟩ := told_one (n := 0) ho (by omega)
    cases hg
    obtain ⟨o, h1, h2, h3⟩ := hon i hi
    obtain ⟨hlt, h1'⟩ := List.getElem?_eq_some_iff.1 h1
    refine ⟨g, rfl, ?_, ?_⟩
    · have := hc i 0 hlt (by decide)
      rw [oc_get _ _ _ hlt (by decide), h1'] at this
      rw [Nat.add_zero] at this
      rw [this, ← h2]; rfl
    · have := hc i 2 hlt (by decide)
      rw [oc_get _ _ _ hlt (by decide), h1'] at this
      rw [this, ← h3]; rfl
  have hbb := hb.trans (hb2.mono hb.size)
  by_cases hc : r = false ∧ h < 2
  · rw [if_pos hc] at hend
    simp only [Bool.and_eq_true, Bool.not_eq_true', decide_eq_false_iff_not, decide_eq_true_eq] at hend
    refine ⟨2, 0, x.p.getD Pan.none, oa, x.m.out.length, occ, x.m.steps, ?_, hbb, hnl, hcells, fun _ => ⟨rfl, hend.2⟩, fun h => absurd hc h⟩
    unfold outC
    rw [hsp, if_neg (by simp), if_neg hend.1]; rfl
  · rw [if_neg hc] at hend
    simp only [Bool.and_eq_true, decide_eq_true_eq] at hend
    refine ⟨1, x.r.number, Pan.none, oa, x.m.out.length, occ, x.m.steps, ?_, hbb, hnl, hcells, fun h => absurd h hc, fun _ => ⟨rfl, hend.2⟩⟩
    unfold outC
    rw [hsp, if_neg (by simp), if_pos hend.1]; rfl

/-- WALK -/theorem walk_mark : True := trivial
set_option maxRecDepth 100000 in
set_option maxHeartbeats 4000000 in
theorem once_false (many : Int) (hm1 : -9223372036854775808 ≤ many) (hm2 : many ≤ 9223372036854775807) (how : Nat) (hh : how ≤ 255) (w : World) (htab : Lib.TabIs Tryd.prog w "internal/strconv.uint64pow10" .u64 Lib.pow10Tab) (hw0 : 0 < w.heap.size) :
    Calls Tryd.prog 3 #[.int .i64 many, .int .u8 how, .bool false] w fun e w' => e = .returned (.bool true) ∧ Below w.heap.size w w' := by
  obtain ⟨n, hn50, hN⟩ := many_n many
  obtain ⟨P, hP⟩ : ∃ P : List Stp, P = preL false := ⟨_, rfl⟩
  have hPl : P.length ≤ 1 := by rw [hP]; decide
  have hbB : Below w.heap.size w (w.alloc (.cells #[.slice none 0 0] 57)) := (Below.refl _ _).alloc (Nat.le_refl _) _
  have HT := Lib.hid htab
  have HP := Lib.hid hP
  clear htab hP
  go_enter Tryd.func3, Tryd.ntmps3
  go_wp2_with (first | (go_at_call 6; refine (new_any _).mono ?_; rintro e w1 ⟨rfl, rfl⟩))
  have HN := Lib.hid hN
  clear hN
  go_loopw [9, 10] (fun v i wr => ∃ k : Nat, k ≤ n ∧ i = .int .i64 k ∧ wr.ownsRow w.heap.size 27 4 v (laterL P k).length (sc (laterL P k)) ∧ Below w.heap.size w wr) (fun _ i _ => n - (intOf i).toNat)
  case atStart => exact ⟨0, Nat.zero_le _, rfl, by rw [HP.out]; first | exact hown | exact own_nil _ _, by first | exact hb1 | exact hbB⟩
  case round =>
    obtain ⟨k, hk, rfl, hown, hbw⟩ := hrel
    have HL := Lib.hid (laterL_len P k)
    by_cases hlt : k < n
    · go_wp2_with (at_builtin; refine app27 rfl (.tmp 29) (.tmp 31) rfl hown rfl rfl rfl (by simp [Value.oneCell']) (by rw [HL.out]; omega) hbw ?_; intro v' w1 hown1 hb1)
      go_roundw
      case rel => exact ⟨k + 1, by omega, by go_num, by rw [laterL_succ, sc_snoc, List.length_append]; exact hown1, hb1⟩
      case measure => simp [intOf]; omega
    · obtain rfl : k = n := by omega
      obtain ⟨va, vc, hv⟩ := own_form hown
      subst hv
      have hwr0 := hbw.size
      rcases (show how % 3 = 0 ∨ how % 3 = 1 ∨ how % 3 = 2 by omega) with hh3 | hh3 | hh3
      · have b0 : ((how : Int) % 3 == 0) = true := by simp; omega
        have b1 : ((how : Int) % 3 == 1) = false := by simp; omega
        have b2 : decide ((how : Int) % 3 < 2) = true := decide_eq_true (by omega)
        clear hh3
        go_wp2_with (at_builtin; refine app27 rfl (.tmp 37) (.tmp 41) rfl hown rfl rfl rfl (by simp [Value.oneCell']) (by rw [HL.out]; omega) hbw ?_; intro v' w1 hown1 hb1; obtain ⟨va2, vc2, hv2⟩ := own_form hown1; subst hv2)
        have hown2 : w1.ownsRow w.heap.size 27 4 (.slice va2 ((laterL P k).length + 1) vc2) (onceL k 0 false).length (sc (onceL k 0 false)) := by
          have e : onceL k 0 false = laterL P k ++ [⟨10, k, 0⟩] := by rw [HP.out]; rfl
          rw [e, sc_snoc, List.length_append]; exact hown1
        have hbz := hb1
        clear hown1 hb1
        clear hown hbw
        have hcall := once_call (bb := ⟨w.heap.size, 0, none⟩) (how := how) hn50 (show 0 < 3 by decide) hown2 hbz HT.out hw0
        unfold onA onB at hcall
        refine hcall.mono ?_
        clear hcall hown2
        rintro e w5 ⟨en, num, p, oa, len, ocp, steps, rfl, hb5, hnl, hce, hA, hB⟩
        obtain ⟨rfl, hE⟩ := (hA ⟨rfl, by decide⟩)
        have HC := Lib.hid (And.intro hce (And.intro hnl (And.intro hb5 HT.out)))
        have hw5 : 0 < w5.heap.size := by have := hb5.size; omega
        have htw : ∀ o, Lib.TabIs Tryd.prog (w5.alloc o) "internal/strconv.uint64pow10" .u64 Lib.pow10Tab := fun o => tab_keep HT.out ((hb5.alloc hb5.size o).block 0 hw0)
        have HTW := Lib.hid htw
        clear hce hA hB htw
        subst hE
        go_wp2_with fail
        go_loop [13] (fun i => ∃ j : Nat, j ≤ len ∧ i = .int .i64 j) (fun i => len - (intOf i).toNat)
        case atStart => exact ⟨0, Nat.zero_le _, rfl⟩
        case round =>
          obtain ⟨j, hj, rfl⟩ := hrel
          by_cases hjl : j < len
          · obtain ⟨g, rfl, k0, k2⟩ := HC.out.1 j hjl
            have hgl : g < w5.heap.size := block_lt k0
            have hgn : ¬ g = w5.heap.size := by omega
            have hjn : j < len := by omega
            have d1 : decide ((len : Int) ≤ (j : Int)) = false := decide_eq_false (by omega)
            go_wp2
            go_round
            case rel => exact ⟨j + 1, by omega, by go_num⟩
            case measure => simp [intOf]; omega
          · obtain rfl : j = len := by omega
            go_wp2_with (go_at_call 8; refine (awake_any _ (HTW.out _) (by simp)).mono ?_; rintro e w7 ⟨rfl, hb7⟩)
            go_ret
            exact ⟨rfl, (hb5.alloc hb5.size _).trans (hb7.mono (by have := hb5.size; simp; omega))⟩
      · have b0 : ((how : Int) % 3 == 0) = false := by simp; omega
        have b1 : ((how : Int) % 3 == 1) = true := by simp; omega
        have b2 : decide ((how : Int) % 3 < 2) = true := decide_eq_true (by omega)
        clear hh3
        go_wp2_with (at_builtin; refine app27 rfl (.tmp 45) (.tmp 47) rfl hown rfl rfl rfl (by simp [Value.oneCell']) (by rw [HL.out]; omega) hbw ?_; intro v' w1 hown1 hb1; obtain ⟨va2, vc2, hv2⟩ := own_form hown1; subst hv2)
        have hown2 : w1.ownsRow w.heap.size 27 4 (.slice va2 ((laterL P k).length + 1) vc2) (onceL k 1 false).length (sc (onceL k 1 false)) := by
          have e : onceL k 1 false = laterL P k ++ [⟨9, -5, 0⟩] := by rw [HP.out]; rfl
          rw [e, sc_snoc, List.length_append]; exact hown1
        have hbz := hb1
        clear hown1 hb1
        clear hown hbw
        have hcall := once_call (bb := ⟨w.heap.size, 0, none⟩) (how := how) hn50 (show 1 < 3 by decide) hown2 hbz HT.out hw0
        unfold onA onB at hcall
        refine hcall.mono ?_
        clear hcall hown2
        rintro e w5 ⟨en, num, p, oa, len, ocp, steps, rfl, hb5, hnl, hce, hA, hB⟩
        obtain ⟨rfl, hE⟩ := (hA ⟨rfl, by decide⟩)
        have HC := Lib.hid (And.intro hce (And.intro hnl (And.intro hb5 HT.out)))
        have hw5 : 0 < w5.heap.size := by have := hb5.size; omega
        have htw : ∀ o, Lib.TabIs Tryd.prog (w5.alloc o) "internal/strconv.uint64pow10" .u64 Lib.pow10Tab := fun o => tab_keep HT.out ((hb5.alloc hb5.size o).block 0 hw0)
        have HTW := Lib.hid htw
        clear hce hA hB htw
        subst hE
        go_wp2_with fail
        go_loop [13] (fun i => ∃ j : Nat, j ≤ len ∧ i = .int .i64 j) (fun i => len - (intOf i).toNat)
        case atStart => exact ⟨0, Nat.zero_le _, rfl⟩
        case round =>
          obtain ⟨j, hj, rfl⟩ := hrel
          by_cases hjl : j < len
          · obtain ⟨g, rfl, k0, k2⟩ := HC.out.1 j hjl
            have hgl : g < w5.heap.size := block_lt k0
            have hgn : ¬ g = w5.heap.size := by omega
            have hjn : j < len := by omega
            have d1 : decide ((len : Int) ≤ (j : Int)) = false := decide_eq_false (by omega)
            go_wp2
            go_round
            case rel => exact ⟨j + 1, by omega, by go_num⟩
            case measure => simp [intOf]; omega
          · obtain rfl : j = len := by omega
            go_wp2_with (go_at_call 8; refine (awake_any _ (HTW.out _) (by simp)).mono ?_; rintro e w7 ⟨rfl, hb7⟩)
            go_ret
            exact ⟨rfl, (hb5.alloc hb5.size _).trans (hb7.mono (by have := hb5.size; simp; omega))⟩
      · have b0 : ((how : Int) % 3 == 0) = false := by simp; omega
        have b1 : ((how : Int) % 3 == 1) = false := by simp; omega
        have b2 : decide ((how : Int) % 3 < 2) = false := decide_eq_false (by omega)
        clear hh3
        obtain ⟨w1, hw1⟩ : ∃ w1, w1 = wr := ⟨_, rfl⟩
        go_wp2_with fail
        have hown2 : wr.ownsRow w.heap.size 27 4 (.slice va (laterL P k).length vc) (onceL k 2 false).length (sc (onceL k 2 false)) := by
          have e : onceL k 2 false = laterL P k := by rw [HP.out]; unfold onceL laterL endL; simp
          rw [e]; exact hown
        have hbz := hbw
        clear hw1
        clear hown hbw
        have hcall := once_call (bb := ⟨w.heap.size, 0, none⟩) (how := how) hn50 (show 2 < 3 by decide) hown2 hbz HT.out hw0
        unfold onA onB at hcall
        refine hcall.mono ?_
        clear hcall hown2
        rintro e w5 ⟨en, num, p, oa, len, ocp, steps, rfl, hb5, hnl, hce, hA, hB⟩
        obtain ⟨rfl, hE⟩ := (hB (by decide))
        have HC := Lib.hid (And.intro hce (And.intro hnl (And.intro hb5 HT.out)))
        have hw5 : 0 < w5.heap.size := by have := hb5.size; omega
        have htw : ∀ o, Lib.TabIs Tryd.prog (w5.alloc o) "internal/strconv.uint64pow10" .u64 Lib.pow10Tab := fun o => tab_keep HT.out ((hb5.alloc hb5.size o).block 0 hw0)
        have HTW := Lib.hid htw
        clear hce hA hB htw
        subst hE
        go_wp2_with fail
        go_loop [13] (fun i => ∃ j : Nat, j ≤ k ∧ i = .int .i64 j) (fun i => k - (intOf i).toNat)
        case atStart => exact ⟨0, Nat.zero_le _, rfl⟩
        case round =>
          obtain ⟨j, hj, rfl⟩ := hrel
          by_cases hjl : j < k
          · obtain ⟨g, rfl, k0, k2⟩ := HC.out.1 j hjl
            have hgl : g < w5.heap.size := block_lt k0
            have hgn : ¬ g = w5.heap.size := by omega
            have hjn : j < len := by omega
            have d1 : decide ((len : Int) ≤ (j : Int)) = false := decide_eq_false (by omega)
            go_wp2
            go_round
            case rel => exact ⟨j + 1, by omega, by go_num⟩
            case measure => simp [intOf]; omega
          · obtain rfl : j = k := by omega
            go_wp2_with (go_at_call 8; refine (awake_any _ (HTW.out _) (by simp)).mono ?_; rintro e w7 ⟨rfl, hb7⟩)
            go_ret
            exact ⟨rfl, (hb5.alloc hb5.size _).trans (hb7.mono (by have := hb5.size; simp; omega))⟩
set_option maxRecDepth 100000 in
set_option maxHeartbeats 4000000 in
theorem once_true (many : Int) (hm1 : -9223372036854775808 ≤ many) (hm2 : many ≤ 9223372036854775807) (how : Nat) (hh : how ≤ 255) (w : World) (htab : Lib.TabIs Tryd.prog w "internal/strconv.uint64pow10" .u64 Lib.pow10Tab) (hw0 : 0 < w.heap.size) :
    Calls Tryd.prog 3 #[.int .i64 many, .int .u8 how, .bool true] w fun e w' => e = .returned (.bool true) ∧ Below w.heap.size w w' := by
  obtain ⟨n, hn50, hN⟩ := many_n many
  obtain ⟨P, hP⟩ : ∃ P : List Stp, P = preL true := ⟨_, rfl⟩
  have hPl : P.length ≤ 1 := by rw [hP]; decide
  have hbB : Below w.heap.size w (w.alloc (.cells #[.slice none 0 0] 57)) := (Below.refl _ _).alloc (Nat.le_refl _) _
  have HT := Lib.hid htab
  have HP := Lib.hid hP
  clear htab hP
  go_enter Tryd.func3, Tryd.ntmps3
  go_wp2_with (first | (go_at_call 6; refine (new_any _).mono ?_; rintro e w1 ⟨rfl, rfl⟩) | (at_builtin; refine app27 rfl (.tmp 20) (.tmp 22) rfl (own_nil _ _) rfl rfl (by simp) (by simp [Value.oneCell']) (by omega) hbB ?_; intro v' w1 hown hb1))
  have HN := Lib.hid hN
  clear hN
  go_loopw [9, 10] (fun v i wr => ∃ k : Nat, k ≤ n ∧ i = .int .i64 k ∧ wr.ownsRow w.heap.size 27 4 v (laterL P k).length (sc (laterL P k)) ∧ Below w.heap.size w wr) (fun _ i _ => n - (intOf i).toNat)
  case atStart => exact ⟨0, Nat.zero_le _, rfl, by rw [HP.out]; first | exact hown | exact own_nil _ _, by first | exact hb1 | exact hbB⟩
  case round =>
    obtain ⟨k, hk, rfl, hown, hbw⟩ := hrel
    have HL := Lib.hid (laterL_len P k)
    by_cases hlt : k < n
    · go_wp2_with (at_builtin; refine app27 rfl (.tmp 29) (.tmp 31) rfl hown rfl rfl rfl (by simp [Value.oneCell']) (by rw [HL.out]; omega) hbw ?_; intro v' w1 hown1 hb1)
      go_roundw
      case rel => exact ⟨k + 1, by omega, by go_num, by rw [laterL_succ, sc_snoc, List.length_append]; exact hown1, hb1⟩
      case measure => simp [intOf]; omega
    · obtain rfl : k = n := by omega
      obtain ⟨va, vc, hv⟩ := own_form hown
      subst hv
      have hwr0 := hbw.size
      rcases (show how % 3 = 0 ∨ how % 3 = 1 ∨ how % 3 = 2 by omega) with hh3 | hh3 | hh3
      · have b0 : ((how : Int) % 3 == 0) = true := by simp; omega
        have b1 : ((how : Int) % 3 == 1) = false := by simp; omega
        have b2 : decide ((how : Int) % 3 < 2) = true := decide_eq_true (by omega)
        clear hh3
        go_wp2_with (at_builtin; refine app27 rfl (.tmp 37) (.tmp 41) rfl hown rfl rfl rfl (by simp [Value.oneCell']) (by rw [HL.out]; omega) hbw ?_; intro v' w1 hown1 hb1; obtain ⟨va2, vc2, hv2⟩ := own_form hown1; subst hv2)
        have hown2 : w1.ownsRow w.heap.size 27 4 (.slice va2 ((laterL P k).length + 1) vc2) (onceL k 0 true).length (sc (onceL k 0 true)) := by
          have e : onceL k 0 true = laterL P k ++ [⟨10, k, 0⟩] := by rw [HP.out]; rfl
          rw [e, sc_snoc, List.length_append]; exact hown1
        have hbz := hb1
        clear hown1 hb1
        clear hown hbw
        have hcall := once_call (bb := ⟨w.heap.size, 0, none⟩) (how := how) hn50 (show 0 < 3 by decide) hown2 hbz HT.out hw0
        unfold onA onB at hcall
        refine hcall.mono ?_
        clear hcall hown2
        rintro e w5 ⟨en, num, p, oa, len, ocp, steps, rfl, hb5, hnl, hce, hA, hB⟩
        obtain ⟨rfl, hE⟩ := (hB (by decide))
        have HC := Lib.hid (And.intro hce (And.intro hnl (And.intro hb5 HT.out)))
        have hw5 : 0 < w5.heap.size := by have := hb5.size; omega
        have htw : ∀ o, Lib.TabIs Tryd.prog (w5.alloc o) "internal/strconv.uint64pow10" .u64 Lib.pow10Tab := fun o => tab_keep HT.out ((hb5.alloc hb5.size o).block 0 hw0)
        have HTW := Lib.hid htw
        clear hce hA hB htw
        subst hE
        go_wp2_with fail
        go_loop [13] (fun i => ∃ j : Nat, j ≤ k ∧ i = .int .i64 j) (fun i => k - (intOf i).toNat)
        case atStart => exact ⟨0, Nat.zero_le _, rfl⟩
        case round =>
          obtain ⟨j, hj, rfl⟩ := hrel
          by_cases hjl : j < k
          · obtain ⟨g, rfl, k0, k2⟩ := HC.out.1 j hjl
            have hgl : g < w5.heap.size := block_lt k0
            have hgn : ¬ g = w5.heap.size := by omega
            have hjn : j < len := by omega
            have d1 : decide ((len : Int) ≤ (j : Int)) = false := decide_eq_false (by omega)
            go_wp2
            go_round
            case rel => exact ⟨j + 1, by omega, by go_num⟩
            case measure => simp [intOf]; omega
          · obtain rfl : j = k := by omega
            go_wp2_with (go_at_call 8; refine (awake_any _ (HTW.out _) (by simp)).mono ?_; rintro e w7 ⟨rfl, hb7⟩)
            go_ret
            exact ⟨rfl, (hb5.alloc hb5.size _).trans (hb7.mono (by have := hb5.size; simp; omega))⟩
      · have b0 : ((how : Int) % 3 == 0) = false := by simp; omega
        have b1 : ((how : Int) % 3 == 1) = true := by simp; omega
        have b2 : decide ((how : Int) % 3 < 2) = true := decide_eq_true (by omega)
        clear hh3
        go_wp2_with (at_builtin; refine app27 rfl (.tmp 45) (.tmp 47) rfl hown rfl rfl rfl (by simp [Value.oneCell']) (by rw [HL.out]; omega) hbw ?_; intro v' w1 hown1 hb1; obtain ⟨va2, vc2, hv2⟩ := own_form hown1; subst hv2)
        have hown2 : w1.ownsRow w.heap.size 27 4 (.slice va2 ((laterL P k).length + 1) vc2) (onceL k 1 true).length (sc (onceL k 1 true)) := by
          have e : onceL k 1 true = laterL P k ++ [⟨9, -5, 0⟩] := by rw [HP.out]; rfl
          rw [e, sc_snoc, List.length_append]; exact hown1
        have hbz := hb1
        clear hown1 hb1
        clear hown hbw
        have hcall := once_call (bb := ⟨w.heap.size, 0, none⟩) (how := how) hn50 (show 1 < 3 by decide) hown2 hbz HT.out hw0
        unfold onA onB at hcall
        refine hcall.mono ?_
        clear hcall hown2
        rintro e w5 ⟨en, num, p, oa, len, ocp, steps, rfl, hb5, hnl, hce, hA, hB⟩
        obtain ⟨rfl, hE⟩ := (hB (by decide))
        have HC := Lib.hid (And.intro hce (And.intro hnl (And.intro hb5 HT.out)))
        have hw5 : 0 < w5.heap.size := by have := hb5.size; omega
        have htw : ∀ o, Lib.TabIs Tryd.prog (w5.alloc o) "internal/strconv.uint64pow10" .u64 Lib.pow10Tab := fun o => tab_keep HT.out ((hb5.alloc hb5.size o).block 0 hw0)
        have HTW := Lib.hid htw
        clear hce hA hB htw
        subst hE
        go_wp2_with fail
        go_loop [13] (fun i => ∃ j : Nat, j ≤ k ∧ i = .int .i64 j) (fun i => k - (intOf i).toNat)
        case atStart => exact ⟨0, Nat.zero_le _, rfl⟩
        case round =>
          obtain ⟨j, hj, rfl⟩ := hrel
          by_cases hjl : j < k
          · obtain ⟨g, rfl, k0, k2⟩ := HC.out.1 j hjl
            have hgl : g < w5.heap.size := block_lt k0
            have hgn : ¬ g = w5.heap.size := by omega
            have hjn : j < len := by omega
            have d1 : decide ((len : Int) ≤ (j : Int)) = false := decide_eq_false (by omega)
            go_wp2
            go_round
            case rel => exact ⟨j + 1, by omega, by go_num⟩
            case measure => simp [intOf]; omega
          · obtain rfl : j = k := by omega
            go_wp2_with (go_at_call 8; refine (awake_any _ (HTW.out _) (by simp)).mono ?_; rintro e w7 ⟨rfl, hb7⟩)
            go_ret
            exact ⟨rfl, (hb5.alloc hb5.size _).trans (hb7.mono (by have := hb5.size; simp; omega))⟩
      · have b0 : ((how : Int) % 3 == 0) = false := by simp; omega
        have b1 : ((how : Int) % 3 == 1) = false := by simp; omega
        have b2 : decide ((how : Int) % 3 < 2) = false := decide_eq_false (by omega)
        clear hh3
        obtain ⟨w1, hw1⟩ : ∃ w1, w1 = wr := ⟨_, rfl⟩
        go_wp2_with fail
        have hown2 : wr.ownsRow w.heap.size 27 4 (.slice va (laterL P k).length vc) (onceL k 2 true).length (sc (onceL k 2 true)) := by
          have e : onceL k 2 true = laterL P k := by rw [HP.out]; unfold onceL laterL endL; simp
          rw [e]; exact hown
        have hbz := hbw
        clear hw1
        clear hown hbw
        have hcall := once_call (bb := ⟨w.heap.size, 0, none⟩) (how := how) hn50 (show 2 < 3 by decide) hown2 hbz HT.out hw0
        unfold onA onB at hcall
        refine hcall.mono ?_
        clear hcall hown2
        rintro e w5 ⟨en, num, p, oa, len, ocp, steps, rfl, hb5, hnl, hce, hA, hB⟩
        obtain ⟨rfl, hE⟩ := (hB (by decide))
        have HC := Lib.hid (And.intro hce (And.intro hnl (And.intro hb5 HT.out)))
        have hw5 : 0 < w5.heap.size := by have := hb5.size; omega
        have htw : ∀ o, Lib.TabIs Tryd.prog (w5.alloc o) "internal/strconv.uint64pow10" .u64 Lib.pow10Tab := fun o => tab_keep HT.out ((hb5.alloc hb5.size o).block 0 hw0)
        have HTW := Lib.hid htw
        clear hce hA hB htw
        subst hE
        go_wp2_with fail
        go_loop [13] (fun i => ∃ j : Nat, j ≤ k ∧ i = .int .i64 j) (fun i => k - (intOf i).toNat)
        case atStart => exact ⟨0, Nat.zero_le _, rfl⟩
        case round =>
          obtain ⟨j, hj, rfl⟩ := hrel
          by_cases hjl : j < k
          · obtain ⟨g, rfl, k0, k2⟩ := HC.out.1 j hjl
            have hgl : g < w5.heap.size := block_lt k0
            have hgn : ¬ g = w5.heap.size := by omega
            have hjn : j < len := by omega
            have d1 : decide ((len : Int) ≤ (j : Int)) = false := decide_eq_false (by omega)
            go_wp2
            go_round
            case rel => exact ⟨j + 1, by omega, by go_num⟩
            case measure => simp [intOf]; omega
          · obtain rfl : j = k := by omega
            go_wp2_with (go_at_call 8; refine (awake_any _ (HTW.out _) (by simp)).mono ?_; rintro e w7 ⟨rfl, hb7⟩)
            go_ret
            exact ⟨rfl, (hb5.alloc hb5.size _).trans (hb7.mono (by have := hb5.size; simp; omega))⟩
end Go.Proofs.YtokfnlfadofmnaaDoor
