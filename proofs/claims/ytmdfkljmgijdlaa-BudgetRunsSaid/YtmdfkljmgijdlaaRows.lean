/-
  No cell of these rows narrows 'for every input' (looked for: loops, veiled, ifaces, maps, wideKeys, modest, calm, conditions, laid).
  DERIVED. THE GIVEN ROWS OF THIS SEAT. 11 by the template 'for every input the law returns true; each argument reads behind the call as it read before'; 0 by the template 'total and deterministic' (their statements: YtmdfkljmgijdlaaTotals.lean).
  GIVEN WITH THE SEED: the statements are not yours to turn. If you find one false, say at which input.
  Laid BY PROGRAM, IN A SANDBOX (cutbox-rows.mjs): the forced cells as the released guide's own fill.sh prints them over the translation 9a729f5966070460… (all of the seat's roots in one cut). By AI agents, Wed Nov 11 2026. No macro, syntax, notation, axiom, sorry.
-/
import Derived.Test.YtmdfkljmgijdlaaChecked
import GoSem.Claim
import GoSem.ClaimJoined
import GoSem.ClaimMapViews
import Derived.JoinedTies
import Derived.KernelRfl
namespace Go.Proofs.Ytmdfkljmgijdlaa
/- THE CELL 'sum', in the pinned program and in every row, IS THE sha256 OF THE DUMP (.gsa) THAT YtmdfkljmgijdlaaProg.lean LOADS. Nothing in Lean hashes anything: it is a label: what it is worth is what the hold of that sum in a sandbox is worth. -/
noncomputable def Try.pinned : Pinned := { name := "ytmdfkljmgijdlaa", sum := "9a729f59660704605ff0aee1fb010fa5c2036e711475aad1f5a39c73d6c32773", checked := Try.checked }
namespace Rows
def none {H : Type} : Left H := { results := [], args := [] }

/-- 'erratalaw24.RetryGrows': WHATEVER THE INPUT: true; the input reads as it did. -/
def retryGrowsSpec : ChangeSpec := { name := "retryGrows", fn := fun _ => fun
  | [d] => { results := [.lit (.bool true)], args := [d] }
  | _ => none }
def retryGrowsRow : OpenClaim := { program := "ytmdfkljmgijdlaa", sum := "9a729f59660704605ff0aee1fb010fa5c2036e711475aad1f5a39c73d6c32773", func := "errata/erratalaw24.RetryGrows", spec := "retryGrows", inPlace := ["math.archMin", "math.Float64bits", "math.Float64frombits"], apart := false }
def RetryGrowsSaid : Prop := retryGrowsRow.holds Try.pinned (OpenSpec.ofChange retryGrowsSpec)

/-- ITS FALSE NEIGHBOUR: 'it returns false'. Refute it at one input. -/
def retryGrowsWrong : ChangeSpec := { name := "retryGrows", fn := fun _ => fun
  | [d] => { results := [.lit (.bool false)], args := [d] }
  | _ => none }
def RetryGrowsWrongFalsely : Prop := retryGrowsRow.holds Try.pinned (OpenSpec.ofChange retryGrowsWrong)

/-- 'erratalaw26.BudgetShares': WHATEVER THE INPUT: true; the input reads as it did. -/
def budgetSharesSpec : ChangeSpec := { name := "budgetShares", fn := fun _ => fun
  | [d1, d2, d3, d4, d5] => { results := [.lit (.bool true)], args := [d1, d2, d3, d4, d5] }
  | _ => none }
def budgetSharesRow : OpenClaim := { program := "ytmdfkljmgijdlaa", sum := "9a729f59660704605ff0aee1fb010fa5c2036e711475aad1f5a39c73d6c32773", func := "errata/erratalaw26.BudgetShares", spec := "budgetShares", inPlace := ["math.Float64frombits"], unfollowed := true, recurses := true, apart := false }
def BudgetSharesSaid : Prop := budgetSharesRow.holds Try.pinned (OpenSpec.ofChange budgetSharesSpec)

/-- ITS FALSE NEIGHBOUR: 'it returns false'. Refute it at one input. -/
def budgetSharesWrong : ChangeSpec := { name := "budgetShares", fn := fun _ => fun
  | [d1, d2, d3, d4, d5] => { results := [.lit (.bool false)], args := [d1, d2, d3, d4, d5] }
  | _ => none }
def BudgetSharesWrongFalsely : Prop := budgetSharesRow.holds Try.pinned (OpenSpec.ofChange budgetSharesWrong)

/-- 'erratalaw24.RetryBuckets': WHATEVER THE INPUT: true; the input reads as it did. -/
def retryBucketsSpec : ChangeSpec := { name := "retryBuckets", fn := fun _ => fun
  | [d1, d2] => { results := [.lit (.bool true)], args := [d1, d2] }
  | _ => none }
def retryBucketsRow : OpenClaim := { program := "ytmdfkljmgijdlaa", sum := "9a729f59660704605ff0aee1fb010fa5c2036e711475aad1f5a39c73d6c32773", func := "errata/erratalaw24.RetryBuckets", spec := "retryBuckets", inPlace := ["math.Float64bits", "math.Float64frombits", "math.archMin"], apart := false }
def RetryBucketsSaid : Prop := retryBucketsRow.holds Try.pinned (OpenSpec.ofChange retryBucketsSpec)

/-- ITS FALSE NEIGHBOUR: 'it returns false'. Refute it at one input. -/
def retryBucketsWrong : ChangeSpec := { name := "retryBuckets", fn := fun _ => fun
  | [d1, d2] => { results := [.lit (.bool false)], args := [d1, d2] }
  | _ => none }
def RetryBucketsWrongFalsely : Prop := retryBucketsRow.holds Try.pinned (OpenSpec.ofChange retryBucketsWrong)

/-- 'erratalaw24.RetryPours': WHATEVER THE INPUT: true; the input reads as it did. -/
def retryPoursSpec : ChangeSpec := { name := "retryPours", fn := fun _ => fun
  | [d1, d2, d3] => { results := [.lit (.bool true)], args := [d1, d2, d3] }
  | _ => none }
def retryPoursRow : OpenClaim := { program := "ytmdfkljmgijdlaa", sum := "9a729f59660704605ff0aee1fb010fa5c2036e711475aad1f5a39c73d6c32773", func := "errata/erratalaw24.RetryPours", spec := "retryPours", inPlace := ["math.archMin", "math.Float64bits", "math.Float64frombits"], apart := false }
def RetryPoursSaid : Prop := retryPoursRow.holds Try.pinned (OpenSpec.ofChange retryPoursSpec)

/-- ITS FALSE NEIGHBOUR: 'it returns false'. Refute it at one input. -/
def retryPoursWrong : ChangeSpec := { name := "retryPours", fn := fun _ => fun
  | [d1, d2, d3] => { results := [.lit (.bool false)], args := [d1, d2, d3] }
  | _ => none }
def RetryPoursWrongFalsely : Prop := retryPoursRow.holds Try.pinned (OpenSpec.ofChange retryPoursWrong)

/-- 'erratalaw26.BudgetSums': WHATEVER THE INPUT: true; the input reads as it did. -/
def budgetSumsSpec : ChangeSpec := { name := "budgetSums", fn := fun _ => fun
  | [d1, d2, d3, d4, d5] => { results := [.lit (.bool true)], args := [d1, d2, d3, d4, d5] }
  | _ => none }
def budgetSumsRow : OpenClaim := { program := "ytmdfkljmgijdlaa", sum := "9a729f59660704605ff0aee1fb010fa5c2036e711475aad1f5a39c73d6c32773", func := "errata/erratalaw26.BudgetSums", spec := "budgetSums", inPlace := ["math.Float64frombits", "math.Float64bits"], unfollowed := true, recurses := true, apart := false }
def BudgetSumsSaid : Prop := budgetSumsRow.holds Try.pinned (OpenSpec.ofChange budgetSumsSpec)

/-- ITS FALSE NEIGHBOUR: 'it returns false'. Refute it at one input. -/
def budgetSumsWrong : ChangeSpec := { name := "budgetSums", fn := fun _ => fun
  | [d1, d2, d3, d4, d5] => { results := [.lit (.bool false)], args := [d1, d2, d3, d4, d5] }
  | _ => none }
def BudgetSumsWrongFalsely : Prop := budgetSumsRow.holds Try.pinned (OpenSpec.ofChange budgetSumsWrong)

/-- 'erratalaw24.RetryWaits': WHATEVER THE INPUT: true; the input reads as it did. -/
def retryWaitsSpec : ChangeSpec := { name := "retryWaits", fn := fun _ => fun
  | [d1, d2] => { results := [.lit (.bool true)], args := [d1, d2] }
  | _ => none }
def retryWaitsRow : OpenClaim := { program := "ytmdfkljmgijdlaa", sum := "9a729f59660704605ff0aee1fb010fa5c2036e711475aad1f5a39c73d6c32773", func := "errata/erratalaw24.RetryWaits", spec := "retryWaits", inPlace := ["math.archMin", "math.Float64bits", "math.Float64frombits", "math.archCeil", "math.archFloor", "math.archTrunc"], apart := false }
def RetryWaitsSaid : Prop := retryWaitsRow.holds Try.pinned (OpenSpec.ofChange retryWaitsSpec)

/-- ITS FALSE NEIGHBOUR: 'it returns false'. Refute it at one input. -/
def retryWaitsWrong : ChangeSpec := { name := "retryWaits", fn := fun _ => fun
  | [d1, d2] => { results := [.lit (.bool false)], args := [d1, d2] }
  | _ => none }
def RetryWaitsWrongFalsely : Prop := retryWaitsRow.holds Try.pinned (OpenSpec.ofChange retryWaitsWrong)

/-- 'erratalaw26.BudgetRuns': WHATEVER THE INPUT: true; the input reads as it did. -/
def budgetRunsSpec : ChangeSpec := { name := "budgetRuns", fn := fun _ => fun
  | [d1, d2, d3] => { results := [.lit (.bool true)], args := [d1, d2, d3] }
  | _ => none }
def budgetRunsRow : OpenClaim := { program := "ytmdfkljmgijdlaa", sum := "9a729f59660704605ff0aee1fb010fa5c2036e711475aad1f5a39c73d6c32773", func := "errata/erratalaw26.BudgetRuns", spec := "budgetRuns", inPlace := ["math.Float64frombits", "math.Float64bits"], unfollowed := true, recurses := true, apart := false }
def BudgetRunsSaid : Prop := budgetRunsRow.holds Try.pinned (OpenSpec.ofChange budgetRunsSpec)

/-- ITS FALSE NEIGHBOUR: 'it returns false'. Refute it at one input. -/
def budgetRunsWrong : ChangeSpec := { name := "budgetRuns", fn := fun _ => fun
  | [d1, d2, d3] => { results := [.lit (.bool false)], args := [d1, d2, d3] }
  | _ => none }
def BudgetRunsWrongFalsely : Prop := budgetRunsRow.holds Try.pinned (OpenSpec.ofChange budgetRunsWrong)

/-- 'erratalaw26.BudgetNames': WHATEVER THE INPUT: true; the input reads as it did. -/
def budgetNamesSpec : ChangeSpec := { name := "budgetNames", fn := fun _ => fun
  | [] => { results := [.lit (.bool true)], args := [] }
  | _ => none }
def budgetNamesRow : OpenClaim := { program := "ytmdfkljmgijdlaa", sum := "9a729f59660704605ff0aee1fb010fa5c2036e711475aad1f5a39c73d6c32773", func := "errata/erratalaw26.BudgetNames", spec := "budgetNames", inPlace := ["math.Float64frombits", "math.Float64bits"], unfollowed := true, recurses := true, apart := false }
def BudgetNamesSaid : Prop := budgetNamesRow.holds Try.pinned (OpenSpec.ofChange budgetNamesSpec)

/-- ITS FALSE NEIGHBOUR: 'it returns false'. Refute it at one input. -/
def budgetNamesWrong : ChangeSpec := { name := "budgetNames", fn := fun _ => fun
  | [] => { results := [.lit (.bool false)], args := [] }
  | _ => none }
def BudgetNamesWrongFalsely : Prop := budgetNamesRow.holds Try.pinned (OpenSpec.ofChange budgetNamesWrong)

/-- 'erratalaw07.CompareNames': WHATEVER THE INPUT: true; the input reads as it did. -/
def compareNamesSpec : ChangeSpec := { name := "compareNames", fn := fun _ => fun
  | [] => { results := [.lit (.bool true)], args := [] }
  | _ => none }
def compareNamesRow : OpenClaim := { program := "ytmdfkljmgijdlaa", sum := "9a729f59660704605ff0aee1fb010fa5c2036e711475aad1f5a39c73d6c32773", func := "errata/erratalaw07.CompareNames", spec := "compareNames", unfollowed := true, recurses := true, apart := false }
def CompareNamesSaid : Prop := compareNamesRow.holds Try.pinned (OpenSpec.ofChange compareNamesSpec)

/-- ITS FALSE NEIGHBOUR: 'it returns false'. Refute it at one input. -/
def compareNamesWrong : ChangeSpec := { name := "compareNames", fn := fun _ => fun
  | [] => { results := [.lit (.bool false)], args := [] }
  | _ => none }
def CompareNamesWrongFalsely : Prop := compareNamesRow.holds Try.pinned (OpenSpec.ofChange compareNamesWrong)

/-- 'erratalaw04.KindsNames': WHATEVER THE INPUT: true; the input reads as it did. -/
def kindsNamesSpec : ChangeSpec := { name := "kindsNames", fn := fun _ => fun
  | [] => { results := [.lit (.bool true)], args := [] }
  | _ => none }
def kindsNamesRow : OpenClaim := { program := "ytmdfkljmgijdlaa", sum := "9a729f59660704605ff0aee1fb010fa5c2036e711475aad1f5a39c73d6c32773", func := "errata/erratalaw04.KindsNames", spec := "kindsNames", inPlace := ["internal/bytealg.IndexByteString", "internal/bytealg.IndexString", "math.Float64bits"], unfollowed := true, recurses := true, named := ["internal/bytealg.MaxLen"], apart := false }
def KindsNamesSaid : Prop := kindsNamesRow.holds Try.pinned (OpenSpec.ofChange kindsNamesSpec)

/-- ITS FALSE NEIGHBOUR: 'it returns false'. Refute it at one input. -/
def kindsNamesWrong : ChangeSpec := { name := "kindsNames", fn := fun _ => fun
  | [] => { results := [.lit (.bool false)], args := [] }
  | _ => none }
def KindsNamesWrongFalsely : Prop := kindsNamesRow.holds Try.pinned (OpenSpec.ofChange kindsNamesWrong)

/-- 'erratalaw24.RetryNone': WHATEVER THE INPUT: true; the input reads as it did. -/
def retryNoneSpec : ChangeSpec := { name := "retryNone", fn := fun _ => fun
  | [] => { results := [.lit (.bool true)], args := [] }
  | _ => none }
def retryNoneRow : OpenClaim := { program := "ytmdfkljmgijdlaa", sum := "9a729f59660704605ff0aee1fb010fa5c2036e711475aad1f5a39c73d6c32773", func := "errata/erratalaw24.RetryNone", spec := "retryNone", inPlace := ["math.archMin", "math.Float64bits", "math.Float64frombits", "math.archCeil", "math.archFloor", "math.archTrunc"], unfollowed := true, recurses := true, apart := false }
def RetryNoneSaid : Prop := retryNoneRow.holds Try.pinned (OpenSpec.ofChange retryNoneSpec)

/-- ITS FALSE NEIGHBOUR: 'it returns false'. Refute it at one input. -/
def retryNoneWrong : ChangeSpec := { name := "retryNone", fn := fun _ => fun
  | [] => { results := [.lit (.bool false)], args := [] }
  | _ => none }
def RetryNoneWrongFalsely : Prop := retryNoneRow.holds Try.pinned (OpenSpec.ofChange retryNoneWrong)

/- THE SECOND FORM. 'bulk': how many values and letters a reading holds, each counted each time it is reached (what is shared counts as often as it is met; a slice's spare places count too). A statement '..UptoSaid' is the law's where the arguments, and the package variables that the reading takes, are together of bulk at most 1048576: NARROWER than '..Said'. Prove '..Said' where nothing that the law and all that it calls make is longer than what came in: it says more and counts as full. Else prove '..UptoSaid'. A law counts once. -/
mutual
def uptoBulk {H : Type} : DataW H → Nat
  | .lit (.string bytes) => bytes.length + 1
  | .lit _ => 1
  | .nil => 1
  | .ptr d => uptoBulk d + 1
  | .slice elems spare => uptoBulkAll elems + uptoBulkAll spare + 1
  | .agg parts => uptoBulkAll parts + 1
  | .iface _ d => uptoBulk d + 1
  | .map entries => uptoBulkEntries entries + 1
  | .held _ => 1
def uptoBulkAll {H : Type} : List (DataW H) → Nat
  | [] => 0
  | d :: r => uptoBulk d + uptoBulkAll r
def uptoBulkEntries {H : Type} : List (Lit × DataW H) → Nat
  | [] => 0
  | x :: r => uptoBulkEntry x + uptoBulkEntries r
def uptoBulkEntry {H : Type} : Lit × DataW H → Nat
  | (.string bytes, d) => bytes.length + uptoBulk d + 1
  | (_, d) => uptoBulk d + 1
 end
def uptoSmall : (H : Type) → List (DataW H) → Bool := fun _ ds => decide (uptoBulkAll ds ≤ 1048576)
def OpenSpec.upto (s : _root_.Go.ChangeSpec) : _root_.Go.OpenSpec := { _root_.Go.OpenSpec.ofChange s with cond := some uptoSmall }

/-- 'erratalaw24.RetryGrows', WHERE WHAT IT READS IS OF BULK AT MOST 1048576: true; the input reads as it did. -/
def retryGrowsUptoRow : OpenClaim := { program := "ytmdfkljmgijdlaa", sum := "9a729f59660704605ff0aee1fb010fa5c2036e711475aad1f5a39c73d6c32773", func := "errata/erratalaw24.RetryGrows", spec := "retryGrows", inPlace := ["math.archMin", "math.Float64bits", "math.Float64frombits"], apart := false, narrowed := true }
def RetryGrowsUptoSaid : Prop := retryGrowsUptoRow.holds Try.pinned (OpenSpec.upto retryGrowsSpec)

/-- 'erratalaw26.BudgetShares', WHERE WHAT IT READS IS OF BULK AT MOST 1048576: true; the input reads as it did. -/
def budgetSharesUptoRow : OpenClaim := { program := "ytmdfkljmgijdlaa", sum := "9a729f59660704605ff0aee1fb010fa5c2036e711475aad1f5a39c73d6c32773", func := "errata/erratalaw26.BudgetShares", spec := "budgetShares", inPlace := ["math.Float64frombits"], unfollowed := true, recurses := true, apart := false, narrowed := true }
def BudgetSharesUptoSaid : Prop := budgetSharesUptoRow.holds Try.pinned (OpenSpec.upto budgetSharesSpec)

/-- 'erratalaw24.RetryBuckets', WHERE WHAT IT READS IS OF BULK AT MOST 1048576: true; the input reads as it did. -/
def retryBucketsUptoRow : OpenClaim := { program := "ytmdfkljmgijdlaa", sum := "9a729f59660704605ff0aee1fb010fa5c2036e711475aad1f5a39c73d6c32773", func := "errata/erratalaw24.RetryBuckets", spec := "retryBuckets", inPlace := ["math.Float64bits", "math.Float64frombits", "math.archMin"], apart := false, narrowed := true }
def RetryBucketsUptoSaid : Prop := retryBucketsUptoRow.holds Try.pinned (OpenSpec.upto retryBucketsSpec)

/-- 'erratalaw24.RetryPours', WHERE WHAT IT READS IS OF BULK AT MOST 1048576: true; the input reads as it did. -/
def retryPoursUptoRow : OpenClaim := { program := "ytmdfkljmgijdlaa", sum := "9a729f59660704605ff0aee1fb010fa5c2036e711475aad1f5a39c73d6c32773", func := "errata/erratalaw24.RetryPours", spec := "retryPours", inPlace := ["math.archMin", "math.Float64bits", "math.Float64frombits"], apart := false, narrowed := true }
def RetryPoursUptoSaid : Prop := retryPoursUptoRow.holds Try.pinned (OpenSpec.upto retryPoursSpec)

/-- 'erratalaw26.BudgetSums', WHERE WHAT IT READS IS OF BULK AT MOST 1048576: true; the input reads as it did. -/
def budgetSumsUptoRow : OpenClaim := { program := "ytmdfkljmgijdlaa", sum := "9a729f59660704605ff0aee1fb010fa5c2036e711475aad1f5a39c73d6c32773", func := "errata/erratalaw26.BudgetSums", spec := "budgetSums", inPlace := ["math.Float64frombits", "math.Float64bits"], unfollowed := true, recurses := true, apart := false, narrowed := true }
def BudgetSumsUptoSaid : Prop := budgetSumsUptoRow.holds Try.pinned (OpenSpec.upto budgetSumsSpec)

/-- 'erratalaw24.RetryWaits', WHERE WHAT IT READS IS OF BULK AT MOST 1048576: true; the input reads as it did. -/
def retryWaitsUptoRow : OpenClaim := { program := "ytmdfkljmgijdlaa", sum := "9a729f59660704605ff0aee1fb010fa5c2036e711475aad1f5a39c73d6c32773", func := "errata/erratalaw24.RetryWaits", spec := "retryWaits", inPlace := ["math.archMin", "math.Float64bits", "math.Float64frombits", "math.archCeil", "math.archFloor", "math.archTrunc"], apart := false, narrowed := true }
def RetryWaitsUptoSaid : Prop := retryWaitsUptoRow.holds Try.pinned (OpenSpec.upto retryWaitsSpec)

/-- 'erratalaw26.BudgetRuns', WHERE WHAT IT READS IS OF BULK AT MOST 1048576: true; the input reads as it did. -/
def budgetRunsUptoRow : OpenClaim := { program := "ytmdfkljmgijdlaa", sum := "9a729f59660704605ff0aee1fb010fa5c2036e711475aad1f5a39c73d6c32773", func := "errata/erratalaw26.BudgetRuns", spec := "budgetRuns", inPlace := ["math.Float64frombits", "math.Float64bits"], unfollowed := true, recurses := true, apart := false, narrowed := true }
def BudgetRunsUptoSaid : Prop := budgetRunsUptoRow.holds Try.pinned (OpenSpec.upto budgetRunsSpec)

/-- 'erratalaw26.BudgetNames', WHERE WHAT IT READS IS OF BULK AT MOST 1048576: true; the input reads as it did. -/
def budgetNamesUptoRow : OpenClaim := { program := "ytmdfkljmgijdlaa", sum := "9a729f59660704605ff0aee1fb010fa5c2036e711475aad1f5a39c73d6c32773", func := "errata/erratalaw26.BudgetNames", spec := "budgetNames", inPlace := ["math.Float64frombits", "math.Float64bits"], unfollowed := true, recurses := true, apart := false, narrowed := true }
def BudgetNamesUptoSaid : Prop := budgetNamesUptoRow.holds Try.pinned (OpenSpec.upto budgetNamesSpec)

/-- 'erratalaw07.CompareNames', WHERE WHAT IT READS IS OF BULK AT MOST 1048576: true; the input reads as it did. -/
def compareNamesUptoRow : OpenClaim := { program := "ytmdfkljmgijdlaa", sum := "9a729f59660704605ff0aee1fb010fa5c2036e711475aad1f5a39c73d6c32773", func := "errata/erratalaw07.CompareNames", spec := "compareNames", unfollowed := true, recurses := true, apart := false, narrowed := true }
def CompareNamesUptoSaid : Prop := compareNamesUptoRow.holds Try.pinned (OpenSpec.upto compareNamesSpec)

/-- 'erratalaw04.KindsNames', WHERE WHAT IT READS IS OF BULK AT MOST 1048576: true; the input reads as it did. -/
def kindsNamesUptoRow : OpenClaim := { program := "ytmdfkljmgijdlaa", sum := "9a729f59660704605ff0aee1fb010fa5c2036e711475aad1f5a39c73d6c32773", func := "errata/erratalaw04.KindsNames", spec := "kindsNames", inPlace := ["internal/bytealg.IndexByteString", "internal/bytealg.IndexString", "math.Float64bits"], unfollowed := true, recurses := true, named := ["internal/bytealg.MaxLen"], apart := false, narrowed := true }
def KindsNamesUptoSaid : Prop := kindsNamesUptoRow.holds Try.pinned (OpenSpec.upto kindsNamesSpec)

/-- 'erratalaw24.RetryNone', WHERE WHAT IT READS IS OF BULK AT MOST 1048576: true; the input reads as it did. -/
def retryNoneUptoRow : OpenClaim := { program := "ytmdfkljmgijdlaa", sum := "9a729f59660704605ff0aee1fb010fa5c2036e711475aad1f5a39c73d6c32773", func := "errata/erratalaw24.RetryNone", spec := "retryNone", inPlace := ["math.archMin", "math.Float64bits", "math.Float64frombits", "math.archCeil", "math.archFloor", "math.archTrunc"], unfollowed := true, recurses := true, apart := false, narrowed := true }
def RetryNoneUptoSaid : Prop := retryNoneUptoRow.holds Try.pinned (OpenSpec.upto retryNoneSpec)

end Rows
end Go.Proofs.Ytmdfkljmgijdlaa
