/-
  DERIVED. GIVEN WITH THE SEED: THE CARDS: each row of YtgpgladbdoimdaaGreatDoorRows.lean that lists a variable, with what it lists TIED to the program's text (the seventh form; the later family's looks); each row that meets fmt, with fmt's text TOLD by the authors' own Lean function (tested against real Go, not proved from fmt's source: count such statements apart). THE CARD IS WHAT COUNTS. Prove the row's statement (the work); the ties are given (YtgpgladbdoimdaaGreatDoorTie.lean); close each card by the builder's one call (the guide's Derived/Test/ToyasCard.lean, 'card_holds'). Laid BY PROGRAM, IN A SANDBOX (cutbox-door.mjs). By AI agents, Wed Nov 11 2026. No macro, syntax, notation, axiom, sorry.
-/
import Derived.Test.YtgpgladbdoimdaaGreatDoorRows
import GoSem.ClaimSeven
namespace Go.Proofs.YtgpgladbdoimdaaGreatDoor
namespace Rows

/-- THE TIED CARD OF 'quirelaw19.AnchorMakes'. -/
def anchorMakesCard : Claim7 := { stood := { row := anchorMakesRow, standIns := [], harness := (true, "20b1a235dca22b92c63c2f56b678d5bb6661e36c0aea3822084f9b25bef11931"), looks := true }, kinds := [], alts := [], laidByText := true, laidKinds := [.data, .pinned], laidTests := true, laidLooks := .later }
def AnchorMakesCardSaid : Prop := Claim7.holds Tryz.pinned (.plain (OpenSpec.ofChange anchorMakesSpec)) anchorMakesCard

/-- THE TIED CARD OF 'quirelaw19.AnchorPlaces'. -/
def anchorPlacesCard : Claim7 := { stood := { row := anchorPlacesRow, standIns := [], harness := (true, "20b1a235dca22b92c63c2f56b678d5bb6661e36c0aea3822084f9b25bef11931"), looks := true }, kinds := [], alts := [], laidByText := true, laidKinds := [.data, .pinned], laidTests := true, laidLooks := .later }
def AnchorPlacesCardSaid : Prop := Claim7.holds Tryz.pinned (.plain (OpenSpec.ofChange anchorPlacesSpec)) anchorPlacesCard

/-- THE TIED CARD OF 'quirelaw19.AnchorStays'. -/
def anchorStaysCard : Claim7 := { stood := { row := anchorStaysRow, standIns := [], harness := (true, "20b1a235dca22b92c63c2f56b678d5bb6661e36c0aea3822084f9b25bef11931"), looks := true }, kinds := [], alts := [], laidByText := true, laidKinds := [.data, .pinned], laidTests := true, laidLooks := .later }
def AnchorStaysCardSaid : Prop := Claim7.holds Tryz.pinned (.plain (OpenSpec.ofChange anchorStaysSpec)) anchorStaysCard

/-- THE TIED CARD OF 'quirelaw19.AnchorOrder'. -/
def anchorOrderCard : Claim7 := { stood := { row := anchorOrderRow, standIns := [], harness := (true, "20b1a235dca22b92c63c2f56b678d5bb6661e36c0aea3822084f9b25bef11931"), looks := true }, kinds := [], alts := [], laidByText := true, laidKinds := [.data, .pinned], laidTests := true, laidLooks := .later }
def AnchorOrderCardSaid : Prop := Claim7.holds Tryz.pinned (.plain (OpenSpec.ofChange anchorOrderSpec)) anchorOrderCard

/-- THE TIED CARD OF 'quirelaw19.AnchorSides'. -/
def anchorSidesCard : Claim7 := { stood := { row := anchorSidesRow, standIns := [], harness := (true, "20b1a235dca22b92c63c2f56b678d5bb6661e36c0aea3822084f9b25bef11931"), looks := true }, kinds := [], alts := [], laidByText := true, laidKinds := [.data, .pinned], laidTests := true, laidLooks := .later }
def AnchorSidesCardSaid : Prop := Claim7.holds Tryz.pinned (.plain (OpenSpec.ofChange anchorSidesSpec)) anchorSidesCard

/-- THE TIED CARD OF 'quirelaw19.AnchorBytes'. -/
def anchorBytesCard : Claim7 := { stood := { row := anchorBytesRow, standIns := [], harness := (true, "20b1a235dca22b92c63c2f56b678d5bb6661e36c0aea3822084f9b25bef11931"), looks := true }, kinds := [], alts := [], laidByText := true, laidKinds := [.data, .pinned], laidTests := true, laidLooks := .later }
def AnchorBytesCardSaid : Prop := Claim7.holds Tryz.pinned (.plain (OpenSpec.ofChange anchorBytesSpec)) anchorBytesCard

/-- THE SECOND FORM's CARD OF 'quirelaw19.AnchorMakes'. -/
def anchorMakesUptoCard : Claim7 := { stood := { row := anchorMakesUptoRow, standIns := [], harness := (true, "20b1a235dca22b92c63c2f56b678d5bb6661e36c0aea3822084f9b25bef11931"), looks := true }, kinds := [], alts := [], laidByText := true, laidKinds := [.data, .pinned], laidTests := true, laidLooks := .later }
def AnchorMakesUptoCardSaid : Prop := Claim7.holds Tryz.pinned (.plain (OpenSpec.upto anchorMakesSpec)) anchorMakesUptoCard

/-- THE SECOND FORM's CARD OF 'quirelaw19.AnchorPlaces'. -/
def anchorPlacesUptoCard : Claim7 := { stood := { row := anchorPlacesUptoRow, standIns := [], harness := (true, "20b1a235dca22b92c63c2f56b678d5bb6661e36c0aea3822084f9b25bef11931"), looks := true }, kinds := [], alts := [], laidByText := true, laidKinds := [.data, .pinned], laidTests := true, laidLooks := .later }
def AnchorPlacesUptoCardSaid : Prop := Claim7.holds Tryz.pinned (.plain (OpenSpec.upto anchorPlacesSpec)) anchorPlacesUptoCard

/-- THE SECOND FORM's CARD OF 'quirelaw19.AnchorStays'. -/
def anchorStaysUptoCard : Claim7 := { stood := { row := anchorStaysUptoRow, standIns := [], harness := (true, "20b1a235dca22b92c63c2f56b678d5bb6661e36c0aea3822084f9b25bef11931"), looks := true }, kinds := [], alts := [], laidByText := true, laidKinds := [.data, .pinned], laidTests := true, laidLooks := .later }
def AnchorStaysUptoCardSaid : Prop := Claim7.holds Tryz.pinned (.plain (OpenSpec.upto anchorStaysSpec)) anchorStaysUptoCard

/-- THE SECOND FORM's CARD OF 'quirelaw19.AnchorOrder'. -/
def anchorOrderUptoCard : Claim7 := { stood := { row := anchorOrderUptoRow, standIns := [], harness := (true, "20b1a235dca22b92c63c2f56b678d5bb6661e36c0aea3822084f9b25bef11931"), looks := true }, kinds := [], alts := [], laidByText := true, laidKinds := [.data, .pinned], laidTests := true, laidLooks := .later }
def AnchorOrderUptoCardSaid : Prop := Claim7.holds Tryz.pinned (.plain (OpenSpec.upto anchorOrderSpec)) anchorOrderUptoCard

/-- THE SECOND FORM's CARD OF 'quirelaw19.AnchorSides'. -/
def anchorSidesUptoCard : Claim7 := { stood := { row := anchorSidesUptoRow, standIns := [], harness := (true, "20b1a235dca22b92c63c2f56b678d5bb6661e36c0aea3822084f9b25bef11931"), looks := true }, kinds := [], alts := [], laidByText := true, laidKinds := [.data, .pinned], laidTests := true, laidLooks := .later }
def AnchorSidesUptoCardSaid : Prop := Claim7.holds Tryz.pinned (.plain (OpenSpec.upto anchorSidesSpec)) anchorSidesUptoCard

/-- THE SECOND FORM's CARD OF 'quirelaw19.AnchorBytes'. -/
def anchorBytesUptoCard : Claim7 := { stood := { row := anchorBytesUptoRow, standIns := [], harness := (true, "20b1a235dca22b92c63c2f56b678d5bb6661e36c0aea3822084f9b25bef11931"), looks := true }, kinds := [], alts := [], laidByText := true, laidKinds := [.data, .pinned], laidTests := true, laidLooks := .later }
def AnchorBytesUptoCardSaid : Prop := Claim7.holds Tryz.pinned (.plain (OpenSpec.upto anchorBytesSpec)) anchorBytesUptoCard
end Rows
end Go.Proofs.YtgpgladbdoimdaaGreatDoor
