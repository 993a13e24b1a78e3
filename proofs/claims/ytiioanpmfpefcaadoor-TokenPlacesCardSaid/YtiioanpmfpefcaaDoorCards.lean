/-
  DERIVED. GIVEN WITH THE SEED: THE CARDS: each row of YtiioanpmfpefcaaDoorRows.lean that lists a variable, with what it lists TIED to the program's text (the seventh form; the later family's looks); each row that meets fmt, with fmt's text TOLD by the authors' own Lean function (tested against real Go, not proved from fmt's source: count such statements apart). THE CARD IS WHAT COUNTS. Prove the row's statement (the work); the ties are given (YtiioanpmfpefcaaDoorTie.lean); close each card by the builder's one call (the guide's Derived/Test/ToyasCard.lean, 'card_holds'). Laid BY PROGRAM, IN A SANDBOX (cutbox-door.mjs). By AI agents, Wed Nov 11 2026. No macro, syntax, notation, axiom, sorry.
-/
import Derived.Test.YtiioanpmfpefcaaDoorRows
import GoSem.ClaimSeven
namespace Go.Proofs.YtiioanpmfpefcaaDoor
namespace Rows

/-- THE TIED CARD OF 'hammocklaw02.TokenScans'. -/
def tokenScansCard : Claim7 := { stood := { row := tokenScansRow, standIns := [], harness := (true, "00ba1a77ce41813376155744bc6865eb16abfd131ed2dcd50d1d385883f479ad"), looks := true }, kinds := [], alts := [], laidByText := true, laidKinds := [.data, .data, .data, .sentinel, .sentinel], laidTests := true, laidLooks := .later }
def TokenScansCardSaid : Prop := Claim7.holds Tryd.pinned (.plain (OpenSpec.ofChange tokenScansSpec)) tokenScansCard

/-- THE TIED CARD OF 'hammocklaw02.TokenSizes'. -/
def tokenSizesCard : Claim7 := { stood := { row := tokenSizesRow, standIns := [], harness := (true, "00ba1a77ce41813376155744bc6865eb16abfd131ed2dcd50d1d385883f479ad"), looks := true }, kinds := [], alts := [], laidByText := true, laidKinds := [.data, .data, .data, .sentinel, .sentinel], laidTests := true, laidLooks := .later }
def TokenSizesCardSaid : Prop := Claim7.holds Tryd.pinned (.plain (OpenSpec.ofChange tokenSizesSpec)) tokenSizesCard

/-- THE TIED CARD OF 'hammocklaw02.TokenPlaces'. -/
def tokenPlacesCard : Claim7 := { stood := { row := tokenPlacesRow, standIns := [], harness := (true, "00ba1a77ce41813376155744bc6865eb16abfd131ed2dcd50d1d385883f479ad"), looks := true }, kinds := [], alts := [], laidByText := true, laidKinds := [.data, .data, .data, .sentinel, .sentinel], laidTests := true, laidLooks := .later }
def TokenPlacesCardSaid : Prop := Claim7.holds Tryd.pinned (.plain (OpenSpec.ofChange tokenPlacesSpec)) tokenPlacesCard

/-- THE TIED CARD OF 'hammocklaw02.TokenBegins'. -/
def tokenBeginsCard : Claim7 := { stood := { row := tokenBeginsRow, standIns := [], harness := (true, "00ba1a77ce41813376155744bc6865eb16abfd131ed2dcd50d1d385883f479ad"), looks := true }, kinds := [], alts := [], laidByText := true, laidKinds := [.data, .data, .data, .sentinel, .sentinel], laidTests := true, laidLooks := .later }
def TokenBeginsCardSaid : Prop := Claim7.holds Tryd.pinned (.plain (OpenSpec.ofChange tokenBeginsSpec)) tokenBeginsCard

/-- THE TIED CARD OF 'hammocklaw02.TokenBack'. -/
def tokenBackCard : Claim7 := { stood := { row := tokenBackRow, standIns := [], harness := (true, "00ba1a77ce41813376155744bc6865eb16abfd131ed2dcd50d1d385883f479ad"), looks := true }, kinds := [], alts := [], laidByText := true, laidKinds := [.data, .data, .data, .sentinel, .sentinel], laidTests := true, laidLooks := .later }
def TokenBackCardSaid : Prop := Claim7.holds Tryd.pinned (.plain (OpenSpec.ofChange tokenBackSpec)) tokenBackCard

/-- THE SECOND FORM's CARD OF 'hammocklaw02.TokenScans'. -/
def tokenScansUptoCard : Claim7 := { stood := { row := tokenScansUptoRow, standIns := [], harness := (true, "00ba1a77ce41813376155744bc6865eb16abfd131ed2dcd50d1d385883f479ad"), looks := true }, kinds := [], alts := [], laidByText := true, laidKinds := [.data, .data, .data, .sentinel, .sentinel], laidTests := true, laidLooks := .later }
def TokenScansUptoCardSaid : Prop := Claim7.holds Tryd.pinned (.plain (OpenSpec.upto tokenScansSpec)) tokenScansUptoCard

/-- THE SECOND FORM's CARD OF 'hammocklaw02.TokenSizes'. -/
def tokenSizesUptoCard : Claim7 := { stood := { row := tokenSizesUptoRow, standIns := [], harness := (true, "00ba1a77ce41813376155744bc6865eb16abfd131ed2dcd50d1d385883f479ad"), looks := true }, kinds := [], alts := [], laidByText := true, laidKinds := [.data, .data, .data, .sentinel, .sentinel], laidTests := true, laidLooks := .later }
def TokenSizesUptoCardSaid : Prop := Claim7.holds Tryd.pinned (.plain (OpenSpec.upto tokenSizesSpec)) tokenSizesUptoCard

/-- THE SECOND FORM's CARD OF 'hammocklaw02.TokenPlaces'. -/
def tokenPlacesUptoCard : Claim7 := { stood := { row := tokenPlacesUptoRow, standIns := [], harness := (true, "00ba1a77ce41813376155744bc6865eb16abfd131ed2dcd50d1d385883f479ad"), looks := true }, kinds := [], alts := [], laidByText := true, laidKinds := [.data, .data, .data, .sentinel, .sentinel], laidTests := true, laidLooks := .later }
def TokenPlacesUptoCardSaid : Prop := Claim7.holds Tryd.pinned (.plain (OpenSpec.upto tokenPlacesSpec)) tokenPlacesUptoCard

/-- THE SECOND FORM's CARD OF 'hammocklaw02.TokenBegins'. -/
def tokenBeginsUptoCard : Claim7 := { stood := { row := tokenBeginsUptoRow, standIns := [], harness := (true, "00ba1a77ce41813376155744bc6865eb16abfd131ed2dcd50d1d385883f479ad"), looks := true }, kinds := [], alts := [], laidByText := true, laidKinds := [.data, .data, .data, .sentinel, .sentinel], laidTests := true, laidLooks := .later }
def TokenBeginsUptoCardSaid : Prop := Claim7.holds Tryd.pinned (.plain (OpenSpec.upto tokenBeginsSpec)) tokenBeginsUptoCard

/-- THE SECOND FORM's CARD OF 'hammocklaw02.TokenBack'. -/
def tokenBackUptoCard : Claim7 := { stood := { row := tokenBackUptoRow, standIns := [], harness := (true, "00ba1a77ce41813376155744bc6865eb16abfd131ed2dcd50d1d385883f479ad"), looks := true }, kinds := [], alts := [], laidByText := true, laidKinds := [.data, .data, .data, .sentinel, .sentinel], laidTests := true, laidLooks := .later }
def TokenBackUptoCardSaid : Prop := Claim7.holds Tryd.pinned (.plain (OpenSpec.upto tokenBackSpec)) tokenBackUptoCard
end Rows
end Go.Proofs.YtiioanpmfpefcaaDoor
