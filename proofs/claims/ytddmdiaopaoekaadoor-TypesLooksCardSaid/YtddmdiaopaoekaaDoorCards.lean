/-
  DERIVED. GIVEN WITH THE SEED: THE CARDS: each row of YtddmdiaopaoekaaDoorRows.lean that lists a variable, with what it lists TIED to the program's text (the seventh form; the later family's looks); each row that meets fmt, with fmt's text TOLD by the authors' own Lean function (tested against real Go, not proved from fmt's source: count such statements apart). THE CARD IS WHAT COUNTS. Prove the row's statement (the work); the ties are given (YtddmdiaopaoekaaDoorTie.lean); close each card by the builder's one call (the guide's Derived/Test/ToyasCard.lean, 'card_holds'). Laid BY PROGRAM, IN A SANDBOX (cutbox-door.mjs). By AI agents, Wed Nov 11 2026. No macro, syntax, notation, axiom, sorry.
-/
import Derived.Test.YtddmdiaopaoekaaDoorRows
import GoSem.ClaimSeven
namespace Go.Proofs.YtddmdiaopaoekaaDoor
namespace Rows

/-- THE TIED CARD OF 'hammocklaw09.TypesMatch'. -/
def typesMatchCard : Claim7 := { stood := { row := typesMatchRow, standIns := [], harness := (true, "a870bbe0b44d62eb206c3e54cef3a6be394283c43c78ca80e64cdbde989cdd58"), looks := false }, kinds := [], alts := [], laidByText := true, laidKinds := [.data, .data, .data], laidTests := true, laidLooks := .later }
def TypesMatchCardSaid : Prop := Claim7.holds Tryd.pinned (.plain (OpenSpec.ofChange typesMatchSpec)) typesMatchCard

/-- THE TIED CARD OF 'hammocklaw09.TypesMore'. -/
def typesMoreCard : Claim7 := { stood := { row := typesMoreRow, standIns := [], harness := (true, "a870bbe0b44d62eb206c3e54cef3a6be394283c43c78ca80e64cdbde989cdd58"), looks := false }, kinds := [], alts := [], laidByText := true, laidKinds := [.data, .data, .data], laidTests := true, laidLooks := .later }
def TypesMoreCardSaid : Prop := Claim7.holds Tryd.pinned (.plain (OpenSpec.ofChange typesMoreSpec)) typesMoreCard

/-- THE TIED CARD OF 'hammocklaw09.TypesAnew'. -/
def typesAnewCard : Claim7 := { stood := { row := typesAnewRow, standIns := [], harness := (true, "a870bbe0b44d62eb206c3e54cef3a6be394283c43c78ca80e64cdbde989cdd58"), looks := false }, kinds := [], alts := [], laidByText := true, laidKinds := [.data, .data, .data], laidTests := true, laidLooks := .later }
def TypesAnewCardSaid : Prop := Claim7.holds Tryd.pinned (.plain (OpenSpec.ofChange typesAnewSpec)) typesAnewCard

/-- THE TIED CARD OF 'hammocklaw09.TypesLooks'. -/
def typesLooksCard : Claim7 := { stood := { row := typesLooksRow, standIns := [], harness := (true, "a870bbe0b44d62eb206c3e54cef3a6be394283c43c78ca80e64cdbde989cdd58"), looks := false }, kinds := [], alts := [], laidByText := true, laidKinds := [.data, .data, .data], laidTests := true, laidLooks := .later }
def TypesLooksCardSaid : Prop := Claim7.holds Tryd.pinned (.plain (OpenSpec.ofChange typesLooksSpec)) typesLooksCard

/-- THE TIED CARD OF 'hammocklaw09.TypesBack'. -/
def typesBackCard : Claim7 := { stood := { row := typesBackRow, standIns := [], harness := (true, "a870bbe0b44d62eb206c3e54cef3a6be394283c43c78ca80e64cdbde989cdd58"), looks := false }, kinds := [], alts := [], laidByText := true, laidKinds := [.data, .data, .data], laidTests := true, laidLooks := .later }
def TypesBackCardSaid : Prop := Claim7.holds Tryd.pinned (.plain (OpenSpec.ofChange typesBackSpec)) typesBackCard

/-- THE SECOND FORM's CARD OF 'hammocklaw09.TypesMatch'. -/
def typesMatchUptoCard : Claim7 := { stood := { row := typesMatchUptoRow, standIns := [], harness := (true, "a870bbe0b44d62eb206c3e54cef3a6be394283c43c78ca80e64cdbde989cdd58"), looks := false }, kinds := [], alts := [], laidByText := true, laidKinds := [.data, .data, .data], laidTests := true, laidLooks := .later }
def TypesMatchUptoCardSaid : Prop := Claim7.holds Tryd.pinned (.plain (OpenSpec.upto typesMatchSpec)) typesMatchUptoCard

/-- THE SECOND FORM's CARD OF 'hammocklaw09.TypesMore'. -/
def typesMoreUptoCard : Claim7 := { stood := { row := typesMoreUptoRow, standIns := [], harness := (true, "a870bbe0b44d62eb206c3e54cef3a6be394283c43c78ca80e64cdbde989cdd58"), looks := false }, kinds := [], alts := [], laidByText := true, laidKinds := [.data, .data, .data], laidTests := true, laidLooks := .later }
def TypesMoreUptoCardSaid : Prop := Claim7.holds Tryd.pinned (.plain (OpenSpec.upto typesMoreSpec)) typesMoreUptoCard

/-- THE SECOND FORM's CARD OF 'hammocklaw09.TypesAnew'. -/
def typesAnewUptoCard : Claim7 := { stood := { row := typesAnewUptoRow, standIns := [], harness := (true, "a870bbe0b44d62eb206c3e54cef3a6be394283c43c78ca80e64cdbde989cdd58"), looks := false }, kinds := [], alts := [], laidByText := true, laidKinds := [.data, .data, .data], laidTests := true, laidLooks := .later }
def TypesAnewUptoCardSaid : Prop := Claim7.holds Tryd.pinned (.plain (OpenSpec.upto typesAnewSpec)) typesAnewUptoCard

/-- THE SECOND FORM's CARD OF 'hammocklaw09.TypesLooks'. -/
def typesLooksUptoCard : Claim7 := { stood := { row := typesLooksUptoRow, standIns := [], harness := (true, "a870bbe0b44d62eb206c3e54cef3a6be394283c43c78ca80e64cdbde989cdd58"), looks := false }, kinds := [], alts := [], laidByText := true, laidKinds := [.data, .data, .data], laidTests := true, laidLooks := .later }
def TypesLooksUptoCardSaid : Prop := Claim7.holds Tryd.pinned (.plain (OpenSpec.upto typesLooksSpec)) typesLooksUptoCard

/-- THE SECOND FORM's CARD OF 'hammocklaw09.TypesBack'. -/
def typesBackUptoCard : Claim7 := { stood := { row := typesBackUptoRow, standIns := [], harness := (true, "a870bbe0b44d62eb206c3e54cef3a6be394283c43c78ca80e64cdbde989cdd58"), looks := false }, kinds := [], alts := [], laidByText := true, laidKinds := [.data, .data, .data], laidTests := true, laidLooks := .later }
def TypesBackUptoCardSaid : Prop := Claim7.holds Tryd.pinned (.plain (OpenSpec.upto typesBackSpec)) typesBackUptoCard
end Rows
end Go.Proofs.YtddmdiaopaoekaaDoor
