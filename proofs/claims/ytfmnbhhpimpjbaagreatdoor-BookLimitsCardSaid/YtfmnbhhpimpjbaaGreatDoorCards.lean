/-
  DERIVED. GIVEN WITH THE SEED: THE CARDS: each row of YtfmnbhhpimpjbaaGreatDoorRows.lean that lists a variable, with what it lists TIED to the program's text (the seventh form; the later family's looks); each row that meets fmt, with fmt's text TOLD by the authors' own Lean function (tested against real Go, not proved from fmt's source: count such statements apart). THE CARD IS WHAT COUNTS. Prove the row's statement (the work); the ties are given (YtfmnbhhpimpjbaaGreatDoorTie.lean); close each card by the builder's one call (the guide's Derived/Test/ToyasCard.lean, 'card_holds'). Laid BY PROGRAM, IN A SANDBOX (cutbox-door.mjs). By AI agents, Wed Nov 11 2026. No macro, syntax, notation, axiom, sorry.
-/
import Derived.Test.YtfmnbhhpimpjbaaGreatDoorRows
import GoSem.ClaimSeven
namespace Go.Proofs.YtfmnbhhpimpjbaaGreatDoor
namespace Rows

/-- THE TIED CARD OF 'erratalaw05.BookLimits'. -/
def bookLimitsCard : Claim7 := { stood := { row := bookLimitsRow, standIns := [], harness := (true, "a1efa24a2831f320fd1fb3bfe7970ab27984fbc9b497ef7ba347b30005678d76"), looks := true }, kinds := [], alts := [], laidByText := true, laidKinds := [.data, .data, .data, .data, .pinned, .pinned], laidTests := true, laidLooks := .later }
def BookLimitsCardSaid : Prop := Claim7.holds Tryz.pinned (.plain (OpenSpec.ofChange bookLimitsSpec)) bookLimitsCard

/-- THE TIED CARD OF 'erratalaw10.GraspNames'. -/
def graspNamesCard : Claim7 := { stood := { row := graspNamesRow, standIns := [], harness := (true, "a1efa24a2831f320fd1fb3bfe7970ab27984fbc9b497ef7ba347b30005678d76"), looks := true }, kinds := [], alts := [], laidByText := true, laidKinds := [.data, .data, .data, .data, .pinned, .pinned], laidTests := true, laidLooks := .later }
def GraspNamesCardSaid : Prop := Claim7.holds Tryz.pinned (.plain (OpenSpec.ofChange graspNamesSpec)) graspNamesCard

/-- THE SECOND FORM's CARD OF 'erratalaw05.BookLimits'. -/
def bookLimitsUptoCard : Claim7 := { stood := { row := bookLimitsUptoRow, standIns := [], harness := (true, "a1efa24a2831f320fd1fb3bfe7970ab27984fbc9b497ef7ba347b30005678d76"), looks := true }, kinds := [], alts := [], laidByText := true, laidKinds := [.data, .data, .data, .data, .pinned, .pinned], laidTests := true, laidLooks := .later }
def BookLimitsUptoCardSaid : Prop := Claim7.holds Tryz.pinned (.plain (OpenSpec.upto bookLimitsSpec)) bookLimitsUptoCard

/-- THE SECOND FORM's CARD OF 'erratalaw10.GraspNames'. -/
def graspNamesUptoCard : Claim7 := { stood := { row := graspNamesUptoRow, standIns := [], harness := (true, "a1efa24a2831f320fd1fb3bfe7970ab27984fbc9b497ef7ba347b30005678d76"), looks := true }, kinds := [], alts := [], laidByText := true, laidKinds := [.data, .data, .data, .data, .pinned, .pinned], laidTests := true, laidLooks := .later }
def GraspNamesUptoCardSaid : Prop := Claim7.holds Tryz.pinned (.plain (OpenSpec.upto graspNamesSpec)) graspNamesUptoCard
end Rows
end Go.Proofs.YtfmnbhhpimpjbaaGreatDoor
