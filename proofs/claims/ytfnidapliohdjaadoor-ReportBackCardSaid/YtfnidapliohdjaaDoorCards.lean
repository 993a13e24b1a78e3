/-
  DERIVED. GIVEN WITH THE SEED: THE CARDS: each row of YtfnidapliohdjaaDoorRows.lean that lists a variable, with what it lists TIED to the program's text (the seventh form; the later family's looks); each row that meets fmt, with fmt's text TOLD by the authors' own Lean function (tested against real Go, not proved from fmt's source: count such statements apart). THE CARD IS WHAT COUNTS. Prove the row's statement (the work); the ties are given (YtfnidapliohdjaaDoorTie.lean); close each card by the builder's one call (the guide's Derived/Test/ToyasCard.lean, 'card_holds'). Laid BY PROGRAM, IN A SANDBOX (cutbox-door.mjs). By AI agents, Wed Nov 11 2026. No macro, syntax, notation, axiom, sorry.
-/
import Derived.Test.YtfnidapliohdjaaDoorRows
import GoSem.ClaimSeven
namespace Go.Proofs.YtfnidapliohdjaaDoor
namespace Rows

/-- THE TIED CARD OF 'hammocklaw28.ReportWheres'. -/
def reportWheresCard : Claim7 := { stood := { row := reportWheresRow, standIns := [], harness := (true, "f33b64c2855dfd5d8a6ea19f013e4ee4b520b7fd174e79811c018c86de39bc60"), looks := true }, kinds := [], alts := [], laidByText := true, laidKinds := [.data, .data, .data, .sentinel, .sentinel], laidTests := true, laidLooks := .later }
def ReportWheresCardSaid : Prop := Claim7.holds Tryd.pinned (.plain (OpenSpec.ofChange reportWheresSpec)) reportWheresCard

/-- THE TIED CARD OF 'hammocklaw28.ReportBack'. -/
def reportBackCard : Claim7 := { stood := { row := reportBackRow, standIns := [], harness := (true, "f33b64c2855dfd5d8a6ea19f013e4ee4b520b7fd174e79811c018c86de39bc60"), looks := true }, kinds := [], alts := [], laidByText := true, laidKinds := [.data, .data, .data, .sentinel, .sentinel], laidTests := true, laidLooks := .later }
def ReportBackCardSaid : Prop := Claim7.holds Tryd.pinned (.plain (OpenSpec.ofChange reportBackSpec)) reportBackCard

/-- THE SECOND FORM's CARD OF 'hammocklaw28.ReportWheres'. -/
def reportWheresUptoCard : Claim7 := { stood := { row := reportWheresUptoRow, standIns := [], harness := (true, "f33b64c2855dfd5d8a6ea19f013e4ee4b520b7fd174e79811c018c86de39bc60"), looks := true }, kinds := [], alts := [], laidByText := true, laidKinds := [.data, .data, .data, .sentinel, .sentinel], laidTests := true, laidLooks := .later }
def ReportWheresUptoCardSaid : Prop := Claim7.holds Tryd.pinned (.plain (OpenSpec.upto reportWheresSpec)) reportWheresUptoCard

/-- THE SECOND FORM's CARD OF 'hammocklaw28.ReportBack'. -/
def reportBackUptoCard : Claim7 := { stood := { row := reportBackUptoRow, standIns := [], harness := (true, "f33b64c2855dfd5d8a6ea19f013e4ee4b520b7fd174e79811c018c86de39bc60"), looks := true }, kinds := [], alts := [], laidByText := true, laidKinds := [.data, .data, .data, .sentinel, .sentinel], laidTests := true, laidLooks := .later }
def ReportBackUptoCardSaid : Prop := Claim7.holds Tryd.pinned (.plain (OpenSpec.upto reportBackSpec)) reportBackUptoCard
end Rows
end Go.Proofs.YtfnidapliohdjaaDoor
