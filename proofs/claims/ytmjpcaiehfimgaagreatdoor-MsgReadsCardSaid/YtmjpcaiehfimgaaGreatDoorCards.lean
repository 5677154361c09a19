/-
  DERIVED. GIVEN WITH THE SEED: THE CARDS: each row of YtmjpcaiehfimgaaGreatDoorRows.lean that lists a variable, with what it lists TIED to the program's text (the seventh form; the later family's looks); each row that meets fmt, with fmt's text TOLD by the authors' own Lean function (tested against real Go, not proved from fmt's source: count such statements apart). THE CARD IS WHAT COUNTS. Prove the row's statement (the work); the ties are given (YtmjpcaiehfimgaaGreatDoorTie.lean); close each card by the builder's one call (the guide's Derived/Test/ToyasCard.lean, 'card_holds'). Laid BY PROGRAM, IN A SANDBOX (cutbox-door.mjs). By AI agents, Wed Nov 11 2026. No macro, syntax, notation, axiom, sorry.
-/
import Derived.Test.YtmjpcaiehfimgaaGreatDoorRows
import GoSem.ClaimSeven
namespace Go.Proofs.YtmjpcaiehfimgaaGreatDoor
namespace Rows

/-- THE TIED CARD OF 'quirelaw23.MsgWrites'. -/
def msgWritesCard : Claim7 := { stood := { row := msgWritesRow, standIns := [], harness := (true, "72ec9302ebd1025c0a37a904178d89fece274d3c19794786bce678f0c10156bc"), looks := true }, kinds := [], alts := [], laidByText := true, laidKinds := [.data, .pinned], laidTests := true, laidLooks := .later }
def MsgWritesCardSaid : Prop := Claim7.holds Tryz.pinned (.plain (OpenSpec.ofChange msgWritesSpec)) msgWritesCard

/-- THE TIED CARD OF 'quirelaw23.MsgReads'. -/
def msgReadsCard : Claim7 := { stood := { row := msgReadsRow, standIns := [], harness := (true, "72ec9302ebd1025c0a37a904178d89fece274d3c19794786bce678f0c10156bc"), looks := true }, kinds := [], alts := [], laidByText := true, laidKinds := [.data, .pinned], laidTests := true, laidLooks := .later }
def MsgReadsCardSaid : Prop := Claim7.holds Tryz.pinned (.plain (OpenSpec.ofChange msgReadsSpec)) msgReadsCard

/-- THE TIED CARD OF 'quirelaw23.MsgOnce'. -/
def msgOnceCard : Claim7 := { stood := { row := msgOnceRow, standIns := [], harness := (true, "72ec9302ebd1025c0a37a904178d89fece274d3c19794786bce678f0c10156bc"), looks := true }, kinds := [], alts := [], laidByText := true, laidKinds := [.data, .pinned], laidTests := true, laidLooks := .later }
def MsgOnceCardSaid : Prop := Claim7.holds Tryz.pinned (.plain (OpenSpec.ofChange msgOnceSpec)) msgOnceCard

/-- THE SECOND FORM's CARD OF 'quirelaw23.MsgWrites'. -/
def msgWritesUptoCard : Claim7 := { stood := { row := msgWritesUptoRow, standIns := [], harness := (true, "72ec9302ebd1025c0a37a904178d89fece274d3c19794786bce678f0c10156bc"), looks := true }, kinds := [], alts := [], laidByText := true, laidKinds := [.data, .pinned], laidTests := true, laidLooks := .later }
def MsgWritesUptoCardSaid : Prop := Claim7.holds Tryz.pinned (.plain (OpenSpec.upto msgWritesSpec)) msgWritesUptoCard

/-- THE SECOND FORM's CARD OF 'quirelaw23.MsgReads'. -/
def msgReadsUptoCard : Claim7 := { stood := { row := msgReadsUptoRow, standIns := [], harness := (true, "72ec9302ebd1025c0a37a904178d89fece274d3c19794786bce678f0c10156bc"), looks := true }, kinds := [], alts := [], laidByText := true, laidKinds := [.data, .pinned], laidTests := true, laidLooks := .later }
def MsgReadsUptoCardSaid : Prop := Claim7.holds Tryz.pinned (.plain (OpenSpec.upto msgReadsSpec)) msgReadsUptoCard

/-- THE SECOND FORM's CARD OF 'quirelaw23.MsgOnce'. -/
def msgOnceUptoCard : Claim7 := { stood := { row := msgOnceUptoRow, standIns := [], harness := (true, "72ec9302ebd1025c0a37a904178d89fece274d3c19794786bce678f0c10156bc"), looks := true }, kinds := [], alts := [], laidByText := true, laidKinds := [.data, .pinned], laidTests := true, laidLooks := .later }
def MsgOnceUptoCardSaid : Prop := Claim7.holds Tryz.pinned (.plain (OpenSpec.upto msgOnceSpec)) msgOnceUptoCard
end Rows
end Go.Proofs.YtmjpcaiehfimgaaGreatDoor
