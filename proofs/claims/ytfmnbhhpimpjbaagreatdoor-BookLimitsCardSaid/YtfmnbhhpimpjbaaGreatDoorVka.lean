/- What Book.Make, where all may be, is told by. -/
import Derived.Test.YtfmnbhhpimpjbaaGreatDoorVj
namespace Go.Proofs.YtfmnbhhpimpjbaaGreatDoor
open Go.RowKit
set_option linter.unusedVariables false
set_option linter.unusedSimpArgs false

theorem make_below {base : Nat} {w w' : World} (hb : base ≤ w.heap.size) (hg : w.grownBy w' none) : Below w.heap.size w w' := (Below.refl _ _).grown hg (Nat.le_refl _) (fun k hk => by cases hk)
theorem make_cells {w : World} {base : Nat} {e : TypeId} {b n : Nat} {xs : List Value} (h : w.ownsRow base e 1 (.slice (some ⟨b, 0, none⟩) n n) n xs) : ∃ cs, w.heap[b]? = some (.cells cs e (0, 0)) ∧ cs.size = n := by
  rcases h.2 with ⟨h, _⟩ | ⟨g, cap, cur, hv, _, hh, _, _, hcs, _⟩
  · cases h
  · simp only [Value.slice.injEq, Option.some.injEq, Addr.mk.injEq] at hv
    obtain ⟨⟨rfl, _⟩, _, rfl⟩ := hv
    exact ⟨cur, hh, by omega⟩
/-- A row under way. -/
def nrow (s : Sp) (ia : Option Addr) (ic : Nat) (pa : Option Addr) (pc : Nat) (err : Value) (size depth long words : Int) : Array Value :=
  #[err, .int .u8 s.kind, .bool s.nil, .string s.text, .int .i16 s.number, .int .i8 s.small, .float .f64 s.re, .float .f64 s.im, .bool s.flag, .int .u32 s.mask, .slice ia s.items.length ic, .slice pa s.parts.length pc, .int .i64 size, .int .i64 depth, .int .i64 long, .int .i64 words]
structure AtRow (s : Sp) (w3 w5 : World) (nb : Nat) (ia : Option Addr) (ic : Nat) (pa : Option Addr) (pc : Nat) : Prop where
  bel : Below w3.heap.size w3 w5
  lo : w3.heap.size ≤ nb
  row : w5.heap[nb]? = some (.cells (nrow s ia ic pa pc .nilIface 1 1 0 s.text.size) 68 (0, 0))
  n1 : NilOk ia ic
  n2 : NilOk pa pc
  items : ItemsD (fun b => Fresh w3 w5 b ∧ b ≠ nb) w5 ia s.items
  parts : PartsD (fun b => Fresh w3 w5 b ∧ b ≠ nb) w5 pa s.parts
theorem row_new {s : Sp} {w3 w4 : World} {ia : Option Addr} {ic : Nat} {pa : Option Addr} {pc : Nat} (n1 : NilOk ia ic) (n2 : NilOk pa pc) (d1 : ItemsD (Fresh w3.drew w4) w4 ia s.items) (d2 : PartsD (Fresh w3.drew w4) w4 pa s.parts)
    (b4 : Below w3.drew.heap.size w3.drew w4) : AtRow s w3 ((w4.alloc (.cells rowZ 68)).setRow w4.heap.size (nrow s ia ic pa pc .nilIface 1 1 0 s.text.size)) w4.heap.size ia ic pa pc := by
  have hs : w3.heap.size ≤ w4.heap.size := b4.size
  have hex : Ex (fun _ => False) w4 ((w4.alloc (.cells rowZ 68)).setRow w4.heap.size (nrow s ia ic pa pc .nilIface 1 1 0 s.text.size)) := ((Ex.refl _ _).alloc _).setRow _ _ (.inr (Nat.le_refl _))
  have hb : Below w3.heap.size w3 w4 := (Below.refl _ _).drew.trans b4
  refine ⟨below_setRow (hb.alloc hs _) hs _, hs, setRow_heap _ _ _ _ _ _ (alloc_at _ _), n1, n2, ?_, ?_⟩
  · refine (d1.ev (Ev.of_ex hex fun _ _ _ h => h)).mono fun b hb => ⟨⟨hb.1, by have := hb.2; simp; omega⟩, by have := hb.2; omega⟩
  · refine (d2.ev (Ev.of_ex hex fun _ _ _ h => h)).mono fun b hb => ⟨⟨hb.1, by have := hb.2; simp; omega⟩, by have := hb.2; omega⟩
theorem row_old {s : Sp} {w3 w4 : World} {ia : Option Addr} {ic : Nat} {pa : Option Addr} {pc : Nat} (n1 : NilOk ia ic) (n2 : NilOk pa pc) (d1 : ItemsD (Fresh (w3.alloc (.cells rowZ 68)).drew w4) w4 ia s.items) (d2 : PartsD (Fresh (w3.alloc (.cells rowZ 68)).drew w4) w4 pa s.parts)
    (b4 : Below (w3.alloc (.cells rowZ 68)).drew.heap.size (w3.alloc (.cells rowZ 68)).drew w4) : AtRow s w3 (w4.setRow w3.heap.size (nrow s ia ic pa pc .nilIface 1 1 0 s.text.size)) w3.heap.size ia ic pa pc := by
  have hs : w3.heap.size + 1 ≤ w4.heap.size := by have := b4.size; simp at this; exact this
  have hex : Ex (fun b => b = w3.heap.size) w4 (w4.setRow w3.heap.size (nrow s ia ic pa pc .nilIface 1 1 0 s.text.size)) := (Ex.refl _ _).setRow _ _ (.inl rfl)
  have hb : Below w3.heap.size w3 w4 := ((Below.refl _ _).alloc (Nat.le_refl _) _).drew.trans (b4.mono (by simp))
  refine ⟨below_setRow hb (Nat.le_refl _) _, Nat.le_refl _, setRow_heap _ _ _ _ _ _ ((b4.block _ (by simp)).trans (alloc_at _ _)), n1, n2, ?_, ?_⟩
  · refine (d1.ev (Ev.of_ex hex fun b _ hb h => by have := hb.1; simp at this; omega)).mono fun b hb => ⟨⟨by have := hb.1; simp at this; omega, by have := hb.2; simp; omega⟩, by have := hb.1; simp at this; omega⟩
  · refine (d2.ev (Ev.of_ex hex fun b _ hb h => by have := hb.1; simp at this; omega)).mono fun b hb => ⟨⟨by have := hb.1; simp at this; omega, by have := hb.2; simp; omega⟩, by have := hb.1; simp at this; omega⟩

theorem ite_iface {c : Prop} [Decidable c] {a b : Value} (ha : ∃ T u, a = .iface T u) (hb : ∃ T u, b = .iface T u) : ∃ T u, (if c then a else b) = .iface T u := by
  by_cases h : c
  · rw [if_pos h]; exact ha
  · rw [if_neg h]; exact hb
theorem noneV_iface (k : Int) : ∃ T u, noneV k = .iface T u := by
  unfold noneV
  iterate 11 (refine ite_iface ⟨_, _, rfl⟩ ?_)
  exact ⟨_, _, rfl⟩
theorem leafV_iface (s : Sp) : ∃ T u, leafV s = .iface T u := by
  unfold leafV
  iterate 7 (refine ite_iface ⟨_, _, rfl⟩ ?_)
  exact ⟨_, _, rfl⟩
theorem ErrIn.ev_value {D : Nat → Prop} {w : World} {v : Value} {s : Sp} {ps : List Value} (h : ErrIn D w v s ps) : EV v := by
  right
  cases h with
  | nil hn h => rw [h]; exact noneV_iface _
  | leaf hn hk h => rw [h]; exact leafV_iface _
  | plain hn hk h => obtain ⟨_, p, rfl, _⟩ := h; exact ⟨_, _, rfl⟩
  | quiet hn hk h => obtain ⟨_, p, rfl, _⟩ := h; exact ⟨_, _, rfl⟩
  | echo hn hk h => obtain ⟨_, p, rfl, _⟩ := h; exact ⟨_, _, rfl⟩
  | guise hn hk h => obtain ⟨_, p, rfl, _⟩ := h; exact ⟨_, _, rfl⟩
  | mark hn hk h => exact ⟨_, _, h⟩
  | tags hn hk m h hD => exact ⟨_, _, h⟩
  | lazy hn hk f h ht => exact ⟨_, _, h⟩
  | line hn hk c h hD => exact ⟨_, _, h⟩
  | bag hn hk a c h hi => exact ⟨_, _, h⟩
  | hold hn hk h => exact ⟨_, _, h⟩
  | wrap hn hk h => obtain ⟨_, p, rfl, _⟩ := h; exact ⟨_, _, rfl⟩
  | over hn hk h => exact ⟨_, _, h⟩
  | join hn hk a c h hp => obtain ⟨_, p, rfl, _⟩ := h; exact ⟨_, _, rfl⟩
  | timed hn hk h => exact ⟨_, _, h⟩
  | placed hn hk h => exact ⟨_, _, h⟩
  | veil hn hk h => exact ⟨_, _, h⟩
  | box hn hk hb a c h hi => exact ⟨_, _, h⟩
  | slow hn hk f p h hD ht hp => exact ⟨_, _, h⟩
  | full hn hk h => exact ⟨_, _, h⟩
  | opaq hn hk a c h hp => obtain ⟨_, p, rfl, _⟩ := h; exact ⟨_, _, rfl⟩
theorem errAt_ev {D : Nat → Prop} {w : World} {base bb : Nat} {v : Value} {rows : List BRow} (hB : BookIn D w base bb v rows) (h : Int) : EV (errAt rows h) := by
  rw [← rowAt_err]
  by_cases hh : 1 ≤ h ∧ h ≤ rows.length
  · exact (hB.ok _ _ (rowAt_in rows h hh.1 hh.2)).err.ev_value
  · rw [rowAt_out rows h (by omega)]; exact .inl rfl
theorem EV.cells {v : Value} (h : EV v) : v.cells = #[v] := by rcases h with rfl | ⟨T, u, rfl⟩ <;> rfl
/-- Where the third loop stands: the blocks of the row, of the parts, of their lengths. -/
structure Rnd (rows : List BRow) (s : Sp) (nb eb lb : Nat) (ia : Option Addr) (ic : Nat) (pa : Option Addr) (pc : Nat) (w7 x : World) (size depth words : Int) (ne nl : Nat) : Prop where
  ex : Ex (fun b => b = nb ∨ b = eb ∨ b = lb) w7 x
  row : x.heap[nb]? = some (.cells (nrow s ia ic pa pc .nilIface size depth 0 words) 68 (0, 0))
  errs : ∃ cs, x.heap[eb]? = some (.cells cs 39 (0, 0)) ∧ cs.size = s.parts.length ∧ ∀ j, j < ne → cs[j]? = some (errAt rows (s.parts.getD j 0))
  lens : ∃ cs, x.heap[lb]? = some (.cells cs 3 (0, 0)) ∧ cs.size = s.parts.length ∧ ∀ j, j < nl → cs[j]? = some (.int .i64 (rowAt rows (s.parts.getD j 0)).long)
  ne : nb ≠ eb ∧ nb ≠ lb ∧ eb ≠ lb
theorem Rnd.below {rows s nb eb lb ia ic pa pc w7 x y size depth words ne nl} (h : Rnd rows s nb eb lb ia ic pa pc w7 x size depth words ne nl) (k : Below x.heap.size x y) : Rnd rows s nb eb lb ia ic pa pc w7 y size depth words ne nl := by
  obtain ⟨h1, h2, ⟨c1, h3, h3'⟩, ⟨c2, h4, h4'⟩, h5⟩ := h
  exact ⟨h1.trans (Ex.of_below k) (fun _ _ h => h), (k.block _ (lt_of_at h2)).trans h2, ⟨c1, (k.block _ (lt_of_at h3)).trans h3, h3'⟩, ⟨c2, (k.block _ (lt_of_at h4)).trans h4, h4'⟩, h5⟩
theorem set_prefix {cs : Array Value} {k : Nat} {v : Value} {f : Nat → Value} (hk : k < cs.size) (h : ∀ j, j < k → cs[j]? = some (f j)) (hv : v = f k) : ∀ j, j < k + 1 → (cs.setIfInBounds k v)[j]? = some (f j) := by
  intro j hj
  rw [Array.getElem?_setIfInBounds]
  by_cases e : k = j
  · subst e; rw [if_pos rfl, if_pos hk, hv]
  · rw [if_neg e]; exact h j (by omega)
theorem Rnd.err {rows s nb eb lb ia ic pa pc w7 x size depth words k nl v} (h : Rnd rows s nb eb lb ia ic pa pc w7 x size depth words k nl) (hk : k < s.parts.length) (hv : v = errAt rows (s.parts.getD k 0)) : Rnd rows s nb eb lb ia ic pa pc w7 (x.setCell ⟨eb, k, none⟩ v) size depth words (k + 1) nl := by
  obtain ⟨h1, h2, ⟨c1, h3, hs, h3'⟩, ⟨c2, h4, h4'⟩, n1, n2, n3⟩ := h
  exact ⟨h1.setCell _ _ (.inl (.inr (.inl rfl))), (Below.heap_setCell _ _ _ _ n1).trans h2, ⟨_, heap_setCell_same _ eb k _ _ v h3, by simpa using hs, set_prefix (by omega) h3' hv⟩, ⟨c2, (Below.heap_setCell _ _ _ _ (fun e => n3 e.symm)).trans h4, h4'⟩, n1, n2, n3⟩
theorem Rnd.len {rows s nb eb lb ia ic pa pc w7 x size depth words ne k v} (h : Rnd rows s nb eb lb ia ic pa pc w7 x size depth words ne k) (hk : k < s.parts.length) (hv : v = .int .i64 (rowAt rows (s.parts.getD k 0)).long) : Rnd rows s nb eb lb ia ic pa pc w7 (x.setCell ⟨lb, k, none⟩ v) size depth words ne (k + 1) := by
  obtain ⟨h1, h2, ⟨c1, h3, h3'⟩, ⟨c2, h4, hs, h4'⟩, n1, n2, n3⟩ := h
  exact ⟨h1.setCell _ _ (.inl (.inr (.inr rfl))), (Below.heap_setCell _ _ _ _ n2).trans h2, ⟨c1, (Below.heap_setCell _ _ _ _ n3).trans h3, h3'⟩, ⟨_, heap_setCell_same _ lb k _ _ v h4, by simpa using hs, set_prefix (by omega) h4' hv⟩, n1, n2, n3⟩
theorem Rnd.size {rows s nb eb lb ia ic pa pc w7 x size depth words ne nl} (h : Rnd rows s nb eb lb ia ic pa pc w7 x size depth words ne nl) (z : Int) : Rnd rows s nb eb lb ia ic pa pc w7 (x.setCell ⟨nb, 12, none⟩ (.int .i64 z)) z depth words ne nl := by
  obtain ⟨h1, h2, ⟨c1, h3, h3'⟩, ⟨c2, h4, h4'⟩, n1, n2, n3⟩ := h
  exact ⟨h1.setCell _ _ (.inl (.inl rfl)), heap_setCell_same _ nb 12 _ _ _ h2, ⟨c1, (Below.heap_setCell _ _ _ _ (fun e => n1 e.symm)).trans h3, h3'⟩, ⟨c2, (Below.heap_setCell _ _ _ _ (fun e => n2 e.symm)).trans h4, h4'⟩, n1, n2, n3⟩
theorem Rnd.depth {rows s nb eb lb ia ic pa pc w7 x size depth words ne nl} (h : Rnd rows s nb eb lb ia ic pa pc w7 x size depth words ne nl) (z : Int) : Rnd rows s nb eb lb ia ic pa pc w7 (x.setCell ⟨nb, 13, none⟩ (.int .i64 z)) size z words ne nl := by
  obtain ⟨h1, h2, ⟨c1, h3, h3'⟩, ⟨c2, h4, h4'⟩, n1, n2, n3⟩ := h
  exact ⟨h1.setCell _ _ (.inl (.inl rfl)), heap_setCell_same _ nb 13 _ _ _ h2, ⟨c1, (Below.heap_setCell _ _ _ _ (fun e => n1 e.symm)).trans h3, h3'⟩, ⟨c2, (Below.heap_setCell _ _ _ _ (fun e => n2 e.symm)).trans h4, h4'⟩, n1, n2, n3⟩
theorem Rnd.words {rows s nb eb lb ia ic pa pc w7 x size depth words ne nl} (h : Rnd rows s nb eb lb ia ic pa pc w7 x size depth words ne nl) (z : Int) : Rnd rows s nb eb lb ia ic pa pc w7 (x.setCell ⟨nb, 15, none⟩ (.int .i64 z)) size depth z ne nl := by
  obtain ⟨h1, h2, ⟨c1, h3, h3'⟩, ⟨c2, h4, h4'⟩, n1, n2, n3⟩ := h
  exact ⟨h1.setCell _ _ (.inl (.inl rfl)), heap_setCell_same _ nb 15 _ _ _ h2, ⟨c1, (Below.heap_setCell _ _ _ _ (fun e => n1 e.symm)).trans h3, h3'⟩, ⟨c2, (Below.heap_setCell _ _ _ _ (fun e => n2 e.symm)).trans h4, h4'⟩, n1, n2, n3⟩
theorem errs_in {x : World} {eb : Nat} {cs : Array Value} {rows : List BRow} {l : List Int} (h : x.heap[eb]? = some (.cells cs 39 (0, 0))) (hv : ∀ j, j < l.length → cs[j]? = some (errAt rows (l.getD j 0))) : ErrsIn x (some ⟨eb, 0, none⟩) (l.map (errAt rows)) := by
  intro _
  refine ⟨_, rfl, fun i hi => ?_⟩
  rw [List.length_map] at hi
  rw [show ((⟨eb, 0, none⟩ : Addr).add i) = ⟨eb, i, none⟩ by unfold Addr.add; split <;> simp_all, cell_of_block h, hv i hi]
  simp only [List.getD_eq_getElem?_getD, List.getElem?_map, List.getElem?_eq_getElem hi]
  rfl
theorem lens_in {x : World} {lb : Nat} {cs : Array Value} {rows : List BRow} {l : List Int} (h : x.heap[lb]? = some (.cells cs 3 (0, 0))) (hv : ∀ j, j < l.length → cs[j]? = some (.int .i64 (rowAt rows (l.getD j 0)).long)) : PartsIn x (some ⟨lb, 0, none⟩) (l.map fun h => (rowAt rows h).long) := by
  intro _
  refine ⟨_, rfl, fun i hi => ?_⟩
  rw [List.length_map] at hi
  rw [show ((⟨lb, 0, none⟩ : Addr).add i) = ⟨lb, i, none⟩ by unfold Addr.add; split <;> simp_all, cell_of_block h, hv i hi]
  simp only [List.getD_eq_getElem?_getD, List.getElem?_map, List.getElem?_eq_getElem hi]
  rfl
def longT (T : Txt) (rows : List BRow) (s : Sp) : Int := longOf T s (longsOf rows s)
theorem longT_nonneg (T : Txt) (rows : List BRow) (s : Sp) : 0 ≤ longT T rows s := by
  unfold longT longOf
  have hb := sum_bound _ (lensF_bound s.parts (longsOf rows s) s.parts.length)
  generalize (lensF s.parts (longsOf rows s) s.parts.length).sum = z at *
  generalize (lensF s.parts (longsOf rows s) s.parts.length).length = n at *
  have hm : 0 ≤ (z + 2) * (n : Int) := Int.mul_nonneg (by omega) (by omega)
  unfold longK
  repeat' split
  all_goals omega
theorem own_setCell_ne {w : World} {base : Nat} {e : TypeId} {size : Nat} {v : Value} {n : Nat} {xs : List Value} (h : w.ownsRow base e size v n xs) {p : Addr} (hp : v.ownBlock ≠ some p.block) (u : Value) : (w.setCell p u).ownsRow base e size v n xs := by
  refine ⟨h.1, ?_⟩
  rcases h.2 with q | ⟨g, cap, cur, hv, hg, hh, r⟩
  · exact .inl q
  · exact .inr ⟨g, cap, cur, hv, hg, by rw [Below.heap_setCell _ _ _ _ (by rintro rfl; exact hp (by rw [hv]; rfl))]; exact hh, r⟩
theorem info_row : (Tryz.prog.info? 68).map (fun i => (i.zero, i.size, i.bytes)) = some (some (.agg rowZ), 16, 152) := by kernel_rfl
/-- The new row behind the others. -/
theorem book_snoc {D : Nat → Prop} {w3 w12 w13 w14 : World} {base bb : Nat} {v v' : Value} {rows : List BRow} {r : BRow} {nb : Nat} (h : BookIn D w12 base bb v rows) (hD : ∀ b, D b → b < w3.heap.size) (hbb : bb < w3.heap.size) (hvb : ∀ g, v.ownBlock = some g → g < w3.heap.size)
    (h13 : Ex (fun _ => False) w12 w13) (own : w14.ownsRow base 68 16 v' (rows.length + 1) (rowsC rows ++ rowC r)) (hg : w13.grownBy w14 v.ownBlock) (hpl : v'.ownBlock = v.ownBlock ∨ v'.ownBlock = some w13.heap.size)
    (hok : RowOk (fun b => w3.heap.size ≤ b ∧ b < w12.heap.size ∧ b ≠ nb) w12 rows rows.length r) (h3 : w3.heap.size ≤ w12.heap.size) (hl : rows.length < 65536) :
    ∃ D', BookIn D' (w14.setCell ⟨bb, 0, none⟩ v') base bb v' (rows ++ [r]) ∧ Ex (bookS bb v) w12 (w14.setCell ⟨bb, 0, none⟩ v') ∧ (∀ b, D b → D' b) ∧ (∀ b, b < w3.heap.size → D' b → D b) ∧ (∀ b, D' b → b < (w14.setCell ⟨bb, 0, none⟩ v').heap.size) := by
  have s13 := h13.size
  have s14 := hg.size
  have hex14 : Ex (bookS bb v) w12 w14 := ⟨hg.os.trans h13.os, hg.tape.trans h13.tape, hg.output.trans h13.output, Nat.le_trans s13 s14, fun b hb hn => by
    rw [hg.block b (by omega) (fun e => hn (.inr e.symm)), h13.block b hb (fun q => q)]⟩
  have hex : Ex (bookS bb v) w12 (w14.setCell ⟨bb, 0, none⟩ v') := hex14.setCell _ _ (.inl (.inl rfl))
  have hvbb : v.ownBlock ≠ some bb := fun e => by
    have h1 := own_at h.own e
    obtain ⟨_, _, cur, hc⟩ := h1
    rw [h.box] at hc
    cases hc
  have hv'bb : v'.ownBlock ≠ some bb := by
    rcases hpl with e | e
    · rw [e]; exact hvbb
    · rw [e]; intro q; simp only [Option.some.injEq] at q; omega
  have hbox : w14.heap[bb]? = some (.cells #[v] 61 (0, 0)) := by
    rw [hg.block bb (by omega) (fun e => hvbb e.symm), h13.block bb (lt_of_at h.box) (fun q => q)]; exact h.box
  refine ⟨fun b => D b ∨ (w3.heap.size ≤ b ∧ b < w12.heap.size ∧ b ≠ nb), ?_, hex, fun b h => .inl h, fun b hb h => h.resolve_right (fun q => by omega), fun b hb => ?_⟩
  · refine ⟨heap_setCell_same _ bb 0 _ _ _ hbox, ?_, h.low, fun q => ?_, fun g hgv q => ?_, fun i r' hi => ?_, by simp; omega⟩
    · rw [show (rows ++ [r]).length = rows.length + 1 by simp, rowsC_snoc]
      exact own_setCell_ne own (by exact hv'bb) v'
    · rcases q with q | q
      · exact h.nb q
      · omega
    · rcases hpl with e | e
      · rw [e] at hgv
        rcases q with q | q
        · exact h.nr g hgv q
        · have := hvb g hgv; omega
      · rw [e] at hgv
        simp only [Option.some.injEq] at hgv
        rcases q with q | q
        · have := hD g q; omega
        · omega
    · by_cases hlt : i < rows.length
      · rw [List.getElem?_append_left hlt] at hi
        refine (((h.ok i r' hi).ev (Ev.of_ex hex fun b hb hDb hS => ?_)).mono (fun b q => .inl q)).snoc hlt
        rcases hS with rfl | hS
        · exact h.nb hDb
        · exact h.nr b hS hDb
      · rw [List.getElem?_append_right (by omega)] at hi
        obtain ⟨hi0, rfl⟩ : i - rows.length = 0 ∧ r = r' := by
          cases hj : i - rows.length with
          | zero => rw [hj] at hi; simp at hi; exact ⟨rfl, hi⟩
          | succ n => rw [hj] at hi; simp at hi
        obtain rfl : i = rows.length := by omega
        have h2 := (hok.ev (Ev.of_ex hex fun b hb hDb hS => by
          rcases hS with rfl | hS
          · omega
          · have := hvb b hS; omega)).mono (fun b q => (Or.inr q : D b ∨ _))
        exact ⟨h2.ok, h2.chk, h2.items, h2.parts, h2.hand, by rw [errAt_map_snoc _ _ _ (fun x hx => (h2.hand x hx).2)]; exact h2.err, h2.size, h2.depth, h2.long, h2.words, h2.ni, h2.np⟩
  · have := hex.size
    rcases hb with q | q
    · have := hD b q; omega
    · omega
/-- What Make answers, where all may be. -/
def mkE (T : Txt) (rows : List BRow) (s : Sp) : Int :=
  if 4096 < sizeF rows s then 51 else if 64 < depthF rows s then 52 else if 65536 < longT T rows s ∨ 1048576 < wordsF rows s then 53 else if 65536 ≤ rows.length then 3 else 0
/-- Behind Make: refused, or kept behind the others. -/
def MkPost (T : Txt) (D : Nat → Prop) (base bb : Nat) (v : Value) (rows : List BRow) (s : Sp) (w : World) (e : Ending) (w' : World) : Prop :=
  (mkE T rows s ≠ 0 ∧ e = .returned (.tuple #[.int .i64 0, .int .i64 (mkE T rows s)]) ∧ Below w.heap.size w w') ∨
  (mkE T rows s = 0 ∧ e = .returned (.tuple #[.int .i64 ((rows.length : Int) + 1), .int .i64 0]) ∧ ∃ v' D' r, BookIn D' w' base bb v' (rows ++ [r]) ∧ r.sp = s ∧ r.size = sizeF rows s ∧ r.depth = depthF rows s ∧ r.long = longT T rows s ∧ r.words = wordsF rows s ∧
    Ex (bookS bb v) w w' ∧ (∀ b, D b → D' b) ∧ (∀ b, b < w.heap.size → D' b → D b) ∧ (∀ b, D' b → b < w'.heap.size))
/-- What all the tests say, where none refuses. -/
structure Tests (sz dp lng wd : Int) (n : Nat) : Prop where
  t1 : ¬ 4096 < sz
  t2 : ¬ 64 < dp
  t3 : ¬ 65536 < lng
  t5 : ¬ 1048576 < wd
  t4 : ¬ 65536 ≤ (n : Int)
  len : n ≤ 65536
/-- A row that is asked stays, whatever is stored elsewhere. -/
def RowRead (w : World) (g o : Nat) (r : BRow) : Prop := ∀ j, j < 16 → w.cell? ⟨g, o + j, none⟩ = (rowC r)[j]?
theorem RowRead.set {w : World} {g o : Nat} {r : BRow} (h : RowRead w g o r) (p : Addr) (v : Value) (hp : p.block ≠ g) : RowRead (w.setCell p v) g o r := fun j hj => by
  rw [World.cell?_setCell_far _ _ _ _ (show p.block ≠ g from hp)]; exact h j hj
theorem items_small {s : Sp} (hc : checkF s = 0) : ∀ x ∈ s.items, x.size ≤ 4096 := by
  unfold checkF at hc
  have h1 : ¬ (ownF s = false ∨ 4096 < s.text.size ∨ 64 < s.items.length) := fun q => by rw [if_pos q] at hc; omega
  rw [if_neg h1] at hc
  have h2 : ¬ (longF s = true) := fun q => by rw [if_pos q] at hc; omega
  intro x hx
  apply Nat.le_of_not_lt
  intro hlt
  exact h2 (by unfold longF; rw [List.any_eq_true]; exact ⟨x, hx, by simpa using hlt⟩)
end Go.Proofs.YtfmnbhhpimpjbaaGreatDoor
