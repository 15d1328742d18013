/-
  DERIVED. GIVEN WITH THE SEED: THE CARDS: each row of YtokfnlfadofmnaaDoorRows.lean that lists a variable, with what it lists TIED to the program's text (the seventh form; the later family's looks); each row that meets fmt, with fmt's text TOLD by the authors' own Lean function (tested against real Go, not proved from fmt's source: count such statements apart). THE CARD IS WHAT COUNTS. Prove the row's statement (the work); the ties are given (YtokfnlfadofmnaaDoorTie.lean); close each card by the builder's one call (the guide's Derived/Test/ToyasCard.lean, 'card_holds'). Laid BY PROGRAM, IN A SANDBOX (cutbox-door.mjs). By AI agents, Wed Nov 11 2026. No macro, syntax, notation, axiom, sorry.
-/
import Derived.Test.YtokfnlfadofmnaaDoorRows
import GoSem.ClaimSeven
namespace Go.Proofs.YtokfnlfadofmnaaDoor
namespace Rows

/-- THE TIED CARD OF 'erratalaw21.CatchOnce'. -/
def catchOnceCard : Claim7 := { stood := { row := catchOnceRow, standIns := [], harness := (true, "ec0aae00c79d6139a3cf5329f784d4d9f3a318ecfef71f6a0ccf341998cdc09e"), looks := true }, kinds := [], alts := [], laidByText := true, laidKinds := [.data, .data, .data], laidTests := true, laidLooks := .later }
def CatchOnceCardSaid : Prop := Claim7.holds Tryd.pinned (.plain (OpenSpec.ofChange catchOnceSpec)) catchOnceCard

/-- THE TIED CARD OF 'erratalaw21.CatchCloses'. -/
def catchClosesCard : Claim7 := { stood := { row := catchClosesRow, standIns := [], harness := (true, "ec0aae00c79d6139a3cf5329f784d4d9f3a318ecfef71f6a0ccf341998cdc09e"), looks := true }, kinds := [], alts := [], laidByText := true, laidKinds := [.data, .data, .data], laidTests := true, laidLooks := .later }
def CatchClosesCardSaid : Prop := Claim7.holds Tryd.pinned (.plain (OpenSpec.ofChange catchClosesSpec)) catchClosesCard

/-- THE TIED CARD OF 'erratalaw21.CatchNone'. -/
def catchNoneCard : Claim7 := { stood := { row := catchNoneRow, standIns := [], harness := (true, "ec0aae00c79d6139a3cf5329f784d4d9f3a318ecfef71f6a0ccf341998cdc09e"), looks := true }, kinds := [], alts := [], laidByText := true, laidKinds := [.data, .data, .data], laidTests := true, laidLooks := .later }
def CatchNoneCardSaid : Prop := Claim7.holds Tryd.pinned (.plain (OpenSpec.ofChange catchNoneSpec)) catchNoneCard

/-- THE SECOND FORM's CARD OF 'erratalaw21.CatchOnce'. -/
def catchOnceUptoCard : Claim7 := { stood := { row := catchOnceUptoRow, standIns := [], harness := (true, "ec0aae00c79d6139a3cf5329f784d4d9f3a318ecfef71f6a0ccf341998cdc09e"), looks := true }, kinds := [], alts := [], laidByText := true, laidKinds := [.data, .data, .data], laidTests := true, laidLooks := .later }
def CatchOnceUptoCardSaid : Prop := Claim7.holds Tryd.pinned (.plain (OpenSpec.upto catchOnceSpec)) catchOnceUptoCard

/-- THE SECOND FORM's CARD OF 'erratalaw21.CatchCloses'. -/
def catchClosesUptoCard : Claim7 := { stood := { row := catchClosesUptoRow, standIns := [], harness := (true, "ec0aae00c79d6139a3cf5329f784d4d9f3a318ecfef71f6a0ccf341998cdc09e"), looks := true }, kinds := [], alts := [], laidByText := true, laidKinds := [.data, .data, .data], laidTests := true, laidLooks := .later }
def CatchClosesUptoCardSaid : Prop := Claim7.holds Tryd.pinned (.plain (OpenSpec.upto catchClosesSpec)) catchClosesUptoCard

/-- THE SECOND FORM's CARD OF 'erratalaw21.CatchNone'. -/
def catchNoneUptoCard : Claim7 := { stood := { row := catchNoneUptoRow, standIns := [], harness := (true, "ec0aae00c79d6139a3cf5329f784d4d9f3a318ecfef71f6a0ccf341998cdc09e"), looks := true }, kinds := [], alts := [], laidByText := true, laidKinds := [.data, .data, .data], laidTests := true, laidLooks := .later }
def CatchNoneUptoCardSaid : Prop := Claim7.holds Tryd.pinned (.plain (OpenSpec.upto catchNoneSpec)) catchNoneUptoCard
end Rows
end Go.Proofs.YtokfnlfadofmnaaDoor
