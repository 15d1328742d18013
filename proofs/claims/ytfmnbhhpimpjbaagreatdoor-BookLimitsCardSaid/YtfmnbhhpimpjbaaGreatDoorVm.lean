/- Kinds that Book.Make can make: leaves, errors around others, joins, nothings. -/
import Derived.Test.YtfmnbhhpimpjbaaGreatDoorVh
import Derived.Test.YtfmnbhhpimpjbaaGreatDoorVi
import Derived.Test.YtfmnbhhpimpjbaaGreatDoorVka
namespace Go.Proofs.YtfmnbhhpimpjbaaGreatDoor
open Go.RowKit
set_option linter.unusedVariables false

theorem ItoaC.later {W w : World} {n : Int} (h : ItoaC W n) (hW : Below W.heap.size W w) : ItoaC w n := fun w' hw => h w' (hW.trans (hw.mono hW.size))
theorem kind_leaf (W : World) (T : Txt) (s : Sp) (hs : s.Ok) (hc : checkF s = 0) (hk : leafK s.kind) (hsk : simpleK s.kind) (hnil : s.nil = false) (hT : s.kind = 1 → ItoaC W s.number) : KindOk W T s :=
  ⟨fun ia ic pa pc ps a c w hia ha hl hev hI hP => make_leaf s hs hc hk hnil ia ic pa pc hia ps a c hl w hI,
   fun ia ic pa pc ls la lc w hW hl hb hI hP hL => long_simple T s hs hc hsk ia ic pa pc ls la lc hl hb w hI hP hL fun h => (hT h).later hW⟩
theorem headD_ev {ps : List Value} (h : ∀ v ∈ ps, EV v) : EV (ps.headD .nilIface) := by
  cases ps with
  | nil => exact .inl rfl
  | cons v l => exact h v (by simp)
theorem kind_around (W : World) (T : Txt) (s : Sp) (hs : s.Ok) (hc : checkF s = 0) (hk : aroundK s.kind) (hnil : s.nil = false) : KindOk W T s :=
  ⟨fun ia ic pa pc ps a c w hia ha hl hev hI hP => make_around s hs hc hk hnil ia ic pa pc ps (headD_ev hev) a c hl w hI hP,
   fun ia ic pa pc ls la lc w hW hl hb hI hP hL => long_simple T s hs hc (by unfold aroundK at hk; unfold simpleK; omega) ia ic pa pc ls la lc hl hb w hI hP hL fun h => by unfold aroundK at hk; omega⟩
theorem kind_join (W : World) (T : Txt) (s : Sp) (hs : s.Ok) (hc : checkF s = 0) (hk : s.kind = 16) (hnil : s.nil = false) : KindOk W T s :=
  ⟨fun ia ic pa pc ps a c w hia ha hl hev hI hP => make_join s hs hc hk hnil ia ic pa pc ps hev a c ha hl w hI hP,
   fun ia ic pa pc ls la lc w hW hl hb hI hP hL => long_simple T s hs hc (by unfold simpleK; omega) ia ic pa pc ls la lc hl hb w hI hP hL fun h => by omega⟩
theorem kind_nil (W : World) (T : Txt) (s : Sp) (hs : s.Ok) (hc : checkF s = 0) (hsk : simpleK s.kind) (hnil : s.nil = true) (hT : s.kind = 1 → ItoaC W s.number) : KindOk W T s :=
  ⟨fun ia ic pa pc ps a c w hia ha hl hev hI hP => (make_none s hs hc hnil ia ic pa pc a ps.length c hl w hI).mono fun e w' ⟨he, hb⟩ => ⟨_, he, by
      exact noneV_iface _, .nil hnil rfl, hb⟩,
   fun ia ic pa pc ls la lc w hW hl hb hI hP hL => long_simple T s hs hc hsk ia ic pa pc ls la lc hl hb w hI hP hL fun h => (hT h).later hW⟩
end Go.Proofs.YtfmnbhhpimpjbaaGreatDoor
