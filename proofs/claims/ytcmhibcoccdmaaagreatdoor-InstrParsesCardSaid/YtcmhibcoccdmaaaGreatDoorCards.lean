/-
  DERIVED. GIVEN WITH THE SEED: THE CARDS: each row of YtcmhibcoccdmaaaGreatDoorRows.lean that lists a variable, with what it lists TIED to the program's text (the seventh form; the later family's looks); each row that meets fmt, with fmt's text TOLD by the authors' own Lean function (tested against real Go, not proved from fmt's source: count such statements apart). THE CARD IS WHAT COUNTS. Prove the row's statement (the work); the ties are given (YtcmhibcoccdmaaaGreatDoorTie.lean); close each card by the builder's one call (the guide's Derived/Test/ToyasCard.lean, 'card_holds'). Laid BY PROGRAM, IN A SANDBOX (cutbox-door.mjs). By AI agents, Wed Nov 11 2026. No macro, syntax, notation, axiom, sorry.
-/
import Derived.Test.YtcmhibcoccdmaaaGreatDoorRows
import GoSem.ClaimSeven
namespace Go.Proofs.YtcmhibcoccdmaaaGreatDoor
namespace Rows

/-- THE TIED CARD OF 'hammocklaw20.InstrParses'. -/
def instrParsesCard : Claim7 := { stood := { row := instrParsesRow, standIns := [], harness := (true, "1d952ee6a4e16d1c29eef98a9a05451305de220693191a8acd354ebe0ffa4290"), looks := true }, kinds := [], alts := [], laidByText := true, laidKinds := [.data, .data, .data, .data, .sentinel, .sentinel, .pinned], laidTests := true, laidLooks := .later }
def InstrParsesCardSaid : Prop := Claim7.holds Tryz.pinned (.plain (OpenSpec.ofChange instrParsesSpec)) instrParsesCard

/-- THE TIED CARD OF 'hammocklaw20.InstrBack'. -/
def instrBackCard : Claim7 := { stood := { row := instrBackRow, standIns := [], harness := (true, "1d952ee6a4e16d1c29eef98a9a05451305de220693191a8acd354ebe0ffa4290"), looks := true }, kinds := [], alts := [], laidByText := true, laidKinds := [.data, .data, .data, .data, .sentinel, .sentinel, .pinned], laidTests := true, laidLooks := .later }
def InstrBackCardSaid : Prop := Claim7.holds Tryz.pinned (.plain (OpenSpec.ofChange instrBackSpec)) instrBackCard

/-- THE TIED CARD OF 'hammocklaw20.InstrStack'. -/
def instrStackCard : Claim7 := { stood := { row := instrStackRow, standIns := [], harness := (true, "1d952ee6a4e16d1c29eef98a9a05451305de220693191a8acd354ebe0ffa4290"), looks := true }, kinds := [], alts := [], laidByText := true, laidKinds := [.data, .data, .data, .data, .sentinel, .sentinel, .pinned], laidTests := true, laidLooks := .later }
def InstrStackCardSaid : Prop := Claim7.holds Tryz.pinned (.plain (OpenSpec.ofChange instrStackSpec)) instrStackCard

/-- THE SECOND FORM's CARD OF 'hammocklaw20.InstrParses'. -/
def instrParsesUptoCard : Claim7 := { stood := { row := instrParsesUptoRow, standIns := [], harness := (true, "1d952ee6a4e16d1c29eef98a9a05451305de220693191a8acd354ebe0ffa4290"), looks := true }, kinds := [], alts := [], laidByText := true, laidKinds := [.data, .data, .data, .data, .sentinel, .sentinel, .pinned], laidTests := true, laidLooks := .later }
def InstrParsesUptoCardSaid : Prop := Claim7.holds Tryz.pinned (.plain (OpenSpec.upto instrParsesSpec)) instrParsesUptoCard

/-- THE SECOND FORM's CARD OF 'hammocklaw20.InstrBack'. -/
def instrBackUptoCard : Claim7 := { stood := { row := instrBackUptoRow, standIns := [], harness := (true, "1d952ee6a4e16d1c29eef98a9a05451305de220693191a8acd354ebe0ffa4290"), looks := true }, kinds := [], alts := [], laidByText := true, laidKinds := [.data, .data, .data, .data, .sentinel, .sentinel, .pinned], laidTests := true, laidLooks := .later }
def InstrBackUptoCardSaid : Prop := Claim7.holds Tryz.pinned (.plain (OpenSpec.upto instrBackSpec)) instrBackUptoCard

/-- THE SECOND FORM's CARD OF 'hammocklaw20.InstrStack'. -/
def instrStackUptoCard : Claim7 := { stood := { row := instrStackUptoRow, standIns := [], harness := (true, "1d952ee6a4e16d1c29eef98a9a05451305de220693191a8acd354ebe0ffa4290"), looks := true }, kinds := [], alts := [], laidByText := true, laidKinds := [.data, .data, .data, .data, .sentinel, .sentinel, .pinned], laidTests := true, laidLooks := .later }
def InstrStackUptoCardSaid : Prop := Claim7.holds Tryz.pinned (.plain (OpenSpec.upto instrStackSpec)) instrStackUptoCard
end Rows
end Go.Proofs.YtcmhibcoccdmaaaGreatDoor
