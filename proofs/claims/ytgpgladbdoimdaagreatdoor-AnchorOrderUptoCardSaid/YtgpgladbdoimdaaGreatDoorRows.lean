/-
  NARROWER THAN 'FOR EVERY INPUT', by the rows' own cells (each row's printed sentence says how): AnchorMakes: laid · AnchorPlaces: laid · AnchorStays: laid · AnchorOrder: laid · AnchorSides: laid · AnchorBytes: laid.
  DERIVED. THE GIVEN ROWS OF THIS SEAT. 6 by the template 'for every input the law returns true; each argument reads behind the call as it read before'; 0 by the template 'total and deterministic' (their statements: YtgpgladbdoimdaaGreatDoorTotals.lean).
  GIVEN WITH THE SEED: the statements are not yours to turn. If you find one false, say at which input.
  Laid BY PROGRAM, IN A SANDBOX (cutbox-rows.mjs): the forced cells as the released guide's own fill.sh prints them over the translation fbb4bb3c74f15f76… (all of the seat's roots in one cut). By AI agents, Wed Nov 11 2026. No macro, syntax, notation, axiom, sorry.
-/
import Derived.Test.YtgpgladbdoimdaaGreatDoorChecked
import GoSem.PinnedTables
import GoSem.Claim
import GoSem.ClaimJoined
import GoSem.ClaimMapViews
import Derived.JoinedTies
import Derived.KernelRfl
namespace Go.Proofs.YtgpgladbdoimdaaGreatDoor
/- THE CELL 'sum', in the pinned program and in every row, IS THE sha256 OF THE DUMP (.gsa) THAT YtgpgladbdoimdaaGreatDoorProg.lean LOADS. Nothing in Lean hashes anything: it is a label: what it is worth is what the hold of that sum in a sandbox is worth. -/
noncomputable def Tryz.pinned : Pinned := { name := "ytgpgladbdoimdaagreatdoor", sum := "fbb4bb3c74f15f76dd39b3edbf7bdd2771fad4397b61d45b8f84e94bad2b94f8", checked := Tryz.checked }
namespace Rows
def none {H : Type} : Left H := { results := [], args := [] }

/- WHAT THE LISTED PACKAGE-LEVEL VARIABLES READ AS WHEN THE CALL BEGINS. Each datum BY PROGRAM (the guide's laid-datum.mjs) off the statement by which the dump's own 'gosem.cut.vars' lays the variable. In a bare row this is a premise. The card (YtgpgladbdoimdaaGreatDoorCards.lean) ties it to the program's text. -/
def laid_unicode_utf8_acceptRanges {H : Type} : DataW H := .agg [.agg [.lit (.int .u8 128), .lit (.int .u8 191)], .agg [.lit (.int .u8 160), .lit (.int .u8 191)], .agg [.lit (.int .u8 128), .lit (.int .u8 159)], .agg [.lit (.int .u8 144), .lit (.int .u8 191)], .agg [.lit (.int .u8 128), .lit (.int .u8 143)], .agg [.lit (.int .u8 0), .lit (.int .u8 0)], .agg [.lit (.int .u8 0), .lit (.int .u8 0)], .agg [.lit (.int .u8 0), .lit (.int .u8 0)], .agg [.lit (.int .u8 0), .lit (.int .u8 0)], .agg [.lit (.int .u8 0), .lit (.int .u8 0)], .agg [.lit (.int .u8 0), .lit (.int .u8 0)], .agg [.lit (.int .u8 0), .lit (.int .u8 0)], .agg [.lit (.int .u8 0), .lit (.int .u8 0)], .agg [.lit (.int .u8 0), .lit (.int .u8 0)], .agg [.lit (.int .u8 0), .lit (.int .u8 0)], .agg [.lit (.int .u8 0), .lit (.int .u8 0)]]
/-- One of Go's own tables, pinned by name: the form's constant. -/
def laid_unicode_utf8_first : DataW Unit := Go.Pinned.utf8First

/-- 'quirelaw19.AnchorMakes': WHATEVER THE INPUT: true; the input reads as it did. -/
def anchorMakesSpec : ChangeSpec := { name := "anchorMakes", fn := fun _ => fun
  | [d1, d2, d3, d4] => { results := [.lit (.bool true)], args := [d1, d2, d3, d4] }
  | _ => none }
def anchorMakesRow : OpenClaim := { program := "ytgpgladbdoimdaagreatdoor", sum := "fbb4bb3c74f15f76dd39b3edbf7bdd2771fad4397b61d45b8f84e94bad2b94f8", func := "quire/quirelaw19.AnchorMakes", spec := "anchorMakes", inPlace := ["math.Float64bits", "internal/bytealg.abigen_runtime_cmpstring", "math.Float64frombits", "slices.overlaps[*quire/seq.node]", "slices.overlaps[quire/api.Op]"], unfollowed := true, recurses := true, named := ["unicode/utf8.first", "unicode/utf8.acceptRanges"], plainKeys := false, apart := false, laid := [("unicode/utf8.acceptRanges", laid_unicode_utf8_acceptRanges), ("unicode/utf8.first", laid_unicode_utf8_first)] }
def AnchorMakesSaid : Prop := anchorMakesRow.holds Tryz.pinned (OpenSpec.ofChange anchorMakesSpec)

/-- ITS FALSE NEIGHBOUR: 'it returns false'. Refute it at one input. -/
def anchorMakesWrong : ChangeSpec := { name := "anchorMakes", fn := fun _ => fun
  | [d1, d2, d3, d4] => { results := [.lit (.bool false)], args := [d1, d2, d3, d4] }
  | _ => none }
def AnchorMakesWrongFalsely : Prop := anchorMakesRow.holds Tryz.pinned (OpenSpec.ofChange anchorMakesWrong)

/-- 'quirelaw19.AnchorPlaces': WHATEVER THE INPUT: true; the input reads as it did. -/
def anchorPlacesSpec : ChangeSpec := { name := "anchorPlaces", fn := fun _ => fun
  | [d1, d2, d3, d4] => { results := [.lit (.bool true)], args := [d1, d2, d3, d4] }
  | _ => none }
def anchorPlacesRow : OpenClaim := { program := "ytgpgladbdoimdaagreatdoor", sum := "fbb4bb3c74f15f76dd39b3edbf7bdd2771fad4397b61d45b8f84e94bad2b94f8", func := "quire/quirelaw19.AnchorPlaces", spec := "anchorPlaces", inPlace := ["math.Float64bits", "internal/bytealg.abigen_runtime_cmpstring", "math.Float64frombits", "slices.overlaps[*quire/seq.node]", "slices.overlaps[quire/api.Op]"], unfollowed := true, recurses := true, named := ["unicode/utf8.first", "unicode/utf8.acceptRanges"], plainKeys := false, apart := false, laid := [("unicode/utf8.acceptRanges", laid_unicode_utf8_acceptRanges), ("unicode/utf8.first", laid_unicode_utf8_first)] }
def AnchorPlacesSaid : Prop := anchorPlacesRow.holds Tryz.pinned (OpenSpec.ofChange anchorPlacesSpec)

/-- ITS FALSE NEIGHBOUR: 'it returns false'. Refute it at one input. -/
def anchorPlacesWrong : ChangeSpec := { name := "anchorPlaces", fn := fun _ => fun
  | [d1, d2, d3, d4] => { results := [.lit (.bool false)], args := [d1, d2, d3, d4] }
  | _ => none }
def AnchorPlacesWrongFalsely : Prop := anchorPlacesRow.holds Tryz.pinned (OpenSpec.ofChange anchorPlacesWrong)

/-- 'quirelaw19.AnchorStays': WHATEVER THE INPUT: true; the input reads as it did. -/
def anchorStaysSpec : ChangeSpec := { name := "anchorStays", fn := fun _ => fun
  | [d1, d2, d3, d4, d5] => { results := [.lit (.bool true)], args := [d1, d2, d3, d4, d5] }
  | _ => none }
def anchorStaysRow : OpenClaim := { program := "ytgpgladbdoimdaagreatdoor", sum := "fbb4bb3c74f15f76dd39b3edbf7bdd2771fad4397b61d45b8f84e94bad2b94f8", func := "quire/quirelaw19.AnchorStays", spec := "anchorStays", inPlace := ["math.Float64bits", "internal/bytealg.abigen_runtime_cmpstring", "math.Float64frombits", "slices.overlaps[*quire/seq.node]", "slices.overlaps[quire/api.Op]"], unfollowed := true, recurses := true, named := ["unicode/utf8.first", "unicode/utf8.acceptRanges"], plainKeys := false, apart := false, laid := [("unicode/utf8.acceptRanges", laid_unicode_utf8_acceptRanges), ("unicode/utf8.first", laid_unicode_utf8_first)] }
def AnchorStaysSaid : Prop := anchorStaysRow.holds Tryz.pinned (OpenSpec.ofChange anchorStaysSpec)

/-- ITS FALSE NEIGHBOUR: 'it returns false'. Refute it at one input. -/
def anchorStaysWrong : ChangeSpec := { name := "anchorStays", fn := fun _ => fun
  | [d1, d2, d3, d4, d5] => { results := [.lit (.bool false)], args := [d1, d2, d3, d4, d5] }
  | _ => none }
def AnchorStaysWrongFalsely : Prop := anchorStaysRow.holds Tryz.pinned (OpenSpec.ofChange anchorStaysWrong)

/-- 'quirelaw19.AnchorOrder': WHATEVER THE INPUT: true; the input reads as it did. -/
def anchorOrderSpec : ChangeSpec := { name := "anchorOrder", fn := fun _ => fun
  | [d1, d2, d3, d4, d5, d6] => { results := [.lit (.bool true)], args := [d1, d2, d3, d4, d5, d6] }
  | _ => none }
def anchorOrderRow : OpenClaim := { program := "ytgpgladbdoimdaagreatdoor", sum := "fbb4bb3c74f15f76dd39b3edbf7bdd2771fad4397b61d45b8f84e94bad2b94f8", func := "quire/quirelaw19.AnchorOrder", spec := "anchorOrder", inPlace := ["math.Float64bits", "internal/bytealg.abigen_runtime_cmpstring", "math.Float64frombits", "slices.overlaps[*quire/seq.node]", "slices.overlaps[quire/api.Op]"], unfollowed := true, recurses := true, named := ["unicode/utf8.first", "unicode/utf8.acceptRanges"], plainKeys := false, apart := false, laid := [("unicode/utf8.acceptRanges", laid_unicode_utf8_acceptRanges), ("unicode/utf8.first", laid_unicode_utf8_first)] }
def AnchorOrderSaid : Prop := anchorOrderRow.holds Tryz.pinned (OpenSpec.ofChange anchorOrderSpec)

/-- ITS FALSE NEIGHBOUR: 'it returns false'. Refute it at one input. -/
def anchorOrderWrong : ChangeSpec := { name := "anchorOrder", fn := fun _ => fun
  | [d1, d2, d3, d4, d5, d6] => { results := [.lit (.bool false)], args := [d1, d2, d3, d4, d5, d6] }
  | _ => none }
def AnchorOrderWrongFalsely : Prop := anchorOrderRow.holds Tryz.pinned (OpenSpec.ofChange anchorOrderWrong)

/-- 'quirelaw19.AnchorSides': WHATEVER THE INPUT: true; the input reads as it did. -/
def anchorSidesSpec : ChangeSpec := { name := "anchorSides", fn := fun _ => fun
  | [d1, d2, d3, d4] => { results := [.lit (.bool true)], args := [d1, d2, d3, d4] }
  | _ => none }
def anchorSidesRow : OpenClaim := { program := "ytgpgladbdoimdaagreatdoor", sum := "fbb4bb3c74f15f76dd39b3edbf7bdd2771fad4397b61d45b8f84e94bad2b94f8", func := "quire/quirelaw19.AnchorSides", spec := "anchorSides", inPlace := ["math.Float64bits", "internal/bytealg.abigen_runtime_cmpstring", "math.Float64frombits", "slices.overlaps[*quire/seq.node]", "slices.overlaps[quire/api.Op]"], unfollowed := true, recurses := true, named := ["unicode/utf8.first", "unicode/utf8.acceptRanges"], plainKeys := false, apart := false, laid := [("unicode/utf8.acceptRanges", laid_unicode_utf8_acceptRanges), ("unicode/utf8.first", laid_unicode_utf8_first)] }
def AnchorSidesSaid : Prop := anchorSidesRow.holds Tryz.pinned (OpenSpec.ofChange anchorSidesSpec)

/-- ITS FALSE NEIGHBOUR: 'it returns false'. Refute it at one input. -/
def anchorSidesWrong : ChangeSpec := { name := "anchorSides", fn := fun _ => fun
  | [d1, d2, d3, d4] => { results := [.lit (.bool false)], args := [d1, d2, d3, d4] }
  | _ => none }
def AnchorSidesWrongFalsely : Prop := anchorSidesRow.holds Tryz.pinned (OpenSpec.ofChange anchorSidesWrong)

/-- 'quirelaw19.AnchorBytes': WHATEVER THE INPUT: true; the input reads as it did. -/
def anchorBytesSpec : ChangeSpec := { name := "anchorBytes", fn := fun _ => fun
  | [d1, d2] => { results := [.lit (.bool true)], args := [d1, d2] }
  | _ => none }
def anchorBytesRow : OpenClaim := { program := "ytgpgladbdoimdaagreatdoor", sum := "fbb4bb3c74f15f76dd39b3edbf7bdd2771fad4397b61d45b8f84e94bad2b94f8", func := "quire/quirelaw19.AnchorBytes", spec := "anchorBytes", inPlace := ["math.Float64bits", "internal/bytealg.abigen_runtime_cmpstring", "math.Float64frombits", "slices.overlaps[*quire/seq.node]", "slices.overlaps[quire/api.Op]"], unfollowed := true, recurses := true, named := ["unicode/utf8.first", "unicode/utf8.acceptRanges"], plainKeys := false, apart := false, laid := [("unicode/utf8.acceptRanges", laid_unicode_utf8_acceptRanges), ("unicode/utf8.first", laid_unicode_utf8_first)] }
def AnchorBytesSaid : Prop := anchorBytesRow.holds Tryz.pinned (OpenSpec.ofChange anchorBytesSpec)

/-- ITS FALSE NEIGHBOUR: 'it returns false'. Refute it at one input. -/
def anchorBytesWrong : ChangeSpec := { name := "anchorBytes", fn := fun _ => fun
  | [d1, d2] => { results := [.lit (.bool false)], args := [d1, d2] }
  | _ => none }
def AnchorBytesWrongFalsely : Prop := anchorBytesRow.holds Tryz.pinned (OpenSpec.ofChange anchorBytesWrong)

/- THE SECOND FORM. 'bulk': how many values and letters a reading holds, each counted each time it is reached (what is shared counts as often as it is met; a slice's spare places count too). A statement '..UptoSaid' is the law's where the arguments, and the package variables that the reading takes, are together of bulk at most 1048576: NARROWER than '..Said'. Prove '..Said' where nothing that the law and all that it calls make is longer than what came in: it says more and counts as full. Else prove '..UptoSaid'. A law counts once. -/
mutual
def uptoBulk {H : Type} : DataW H → Nat
  | .lit (.string bytes) => bytes.length + 1
  | .lit _ => 1
  | .nil => 1
  | .ptr d => uptoBulk d + 1
  | .slice elems spare => uptoBulkAll elems + uptoBulkAll spare + 1
  | .agg parts => uptoBulkAll parts + 1
  | .iface _ d => uptoBulk d + 1
  | .map entries => uptoBulkEntries entries + 1
  | .held _ => 1
def uptoBulkAll {H : Type} : List (DataW H) → Nat
  | [] => 0
  | d :: r => uptoBulk d + uptoBulkAll r
def uptoBulkEntries {H : Type} : List (Lit × DataW H) → Nat
  | [] => 0
  | x :: r => uptoBulkEntry x + uptoBulkEntries r
def uptoBulkEntry {H : Type} : Lit × DataW H → Nat
  | (.string bytes, d) => bytes.length + uptoBulk d + 1
  | (_, d) => uptoBulk d + 1
 end
def uptoSmall : (H : Type) → List (DataW H) → Bool := fun _ ds => decide (uptoBulkAll ds ≤ 1048576)
def OpenSpec.upto (s : _root_.Go.ChangeSpec) : _root_.Go.OpenSpec := { _root_.Go.OpenSpec.ofChange s with cond := some uptoSmall }

/-- 'quirelaw19.AnchorMakes', WHERE WHAT IT READS IS OF BULK AT MOST 1048576: true; the input reads as it did. -/
def anchorMakesUptoRow : OpenClaim := { program := "ytgpgladbdoimdaagreatdoor", sum := "fbb4bb3c74f15f76dd39b3edbf7bdd2771fad4397b61d45b8f84e94bad2b94f8", func := "quire/quirelaw19.AnchorMakes", spec := "anchorMakes", inPlace := ["math.Float64bits", "internal/bytealg.abigen_runtime_cmpstring", "math.Float64frombits", "slices.overlaps[*quire/seq.node]", "slices.overlaps[quire/api.Op]"], unfollowed := true, recurses := true, named := ["unicode/utf8.first", "unicode/utf8.acceptRanges"], plainKeys := false, apart := false, laid := [("unicode/utf8.acceptRanges", laid_unicode_utf8_acceptRanges), ("unicode/utf8.first", laid_unicode_utf8_first)], narrowed := true }
def AnchorMakesUptoSaid : Prop := anchorMakesUptoRow.holds Tryz.pinned (OpenSpec.upto anchorMakesSpec)

/-- 'quirelaw19.AnchorPlaces', WHERE WHAT IT READS IS OF BULK AT MOST 1048576: true; the input reads as it did. -/
def anchorPlacesUptoRow : OpenClaim := { program := "ytgpgladbdoimdaagreatdoor", sum := "fbb4bb3c74f15f76dd39b3edbf7bdd2771fad4397b61d45b8f84e94bad2b94f8", func := "quire/quirelaw19.AnchorPlaces", spec := "anchorPlaces", inPlace := ["math.Float64bits", "internal/bytealg.abigen_runtime_cmpstring", "math.Float64frombits", "slices.overlaps[*quire/seq.node]", "slices.overlaps[quire/api.Op]"], unfollowed := true, recurses := true, named := ["unicode/utf8.first", "unicode/utf8.acceptRanges"], plainKeys := false, apart := false, laid := [("unicode/utf8.acceptRanges", laid_unicode_utf8_acceptRanges), ("unicode/utf8.first", laid_unicode_utf8_first)], narrowed := true }
def AnchorPlacesUptoSaid : Prop := anchorPlacesUptoRow.holds Tryz.pinned (OpenSpec.upto anchorPlacesSpec)

/-- 'quirelaw19.AnchorStays', WHERE WHAT IT READS IS OF BULK AT MOST 1048576: true; the input reads as it did. -/
def anchorStaysUptoRow : OpenClaim := { program := "ytgpgladbdoimdaagreatdoor", sum := "fbb4bb3c74f15f76dd39b3edbf7bdd2771fad4397b61d45b8f84e94bad2b94f8", func := "quire/quirelaw19.AnchorStays", spec := "anchorStays", inPlace := ["math.Float64bits", "internal/bytealg.abigen_runtime_cmpstring", "math.Float64frombits", "slices.overlaps[*quire/seq.node]", "slices.overlaps[quire/api.Op]"], unfollowed := true, recurses := true, named := ["unicode/utf8.first", "unicode/utf8.acceptRanges"], plainKeys := false, apart := false, laid := [("unicode/utf8.acceptRanges", laid_unicode_utf8_acceptRanges), ("unicode/utf8.first", laid_unicode_utf8_first)], narrowed := true }
def AnchorStaysUptoSaid : Prop := anchorStaysUptoRow.holds Tryz.pinned (OpenSpec.upto anchorStaysSpec)

/-- 'quirelaw19.AnchorOrder', WHERE WHAT IT READS IS OF BULK AT MOST 1048576: true; the input reads as it did. -/
def anchorOrderUptoRow : OpenClaim := { program := "ytgpgladbdoimdaagreatdoor", sum := "fbb4bb3c74f15f76dd39b3edbf7bdd2771fad4397b61d45b8f84e94bad2b94f8", func := "quire/quirelaw19.AnchorOrder", spec := "anchorOrder", inPlace := ["math.Float64bits", "internal/bytealg.abigen_runtime_cmpstring", "math.Float64frombits", "slices.overlaps[*quire/seq.node]", "slices.overlaps[quire/api.Op]"], unfollowed := true, recurses := true, named := ["unicode/utf8.first", "unicode/utf8.acceptRanges"], plainKeys := false, apart := false, laid := [("unicode/utf8.acceptRanges", laid_unicode_utf8_acceptRanges), ("unicode/utf8.first", laid_unicode_utf8_first)], narrowed := true }
def AnchorOrderUptoSaid : Prop := anchorOrderUptoRow.holds Tryz.pinned (OpenSpec.upto anchorOrderSpec)

/-- 'quirelaw19.AnchorSides', WHERE WHAT IT READS IS OF BULK AT MOST 1048576: true; the input reads as it did. -/
def anchorSidesUptoRow : OpenClaim := { program := "ytgpgladbdoimdaagreatdoor", sum := "fbb4bb3c74f15f76dd39b3edbf7bdd2771fad4397b61d45b8f84e94bad2b94f8", func := "quire/quirelaw19.AnchorSides", spec := "anchorSides", inPlace := ["math.Float64bits", "internal/bytealg.abigen_runtime_cmpstring", "math.Float64frombits", "slices.overlaps[*quire/seq.node]", "slices.overlaps[quire/api.Op]"], unfollowed := true, recurses := true, named := ["unicode/utf8.first", "unicode/utf8.acceptRanges"], plainKeys := false, apart := false, laid := [("unicode/utf8.acceptRanges", laid_unicode_utf8_acceptRanges), ("unicode/utf8.first", laid_unicode_utf8_first)], narrowed := true }
def AnchorSidesUptoSaid : Prop := anchorSidesUptoRow.holds Tryz.pinned (OpenSpec.upto anchorSidesSpec)

/-- 'quirelaw19.AnchorBytes', WHERE WHAT IT READS IS OF BULK AT MOST 1048576: true; the input reads as it did. -/
def anchorBytesUptoRow : OpenClaim := { program := "ytgpgladbdoimdaagreatdoor", sum := "fbb4bb3c74f15f76dd39b3edbf7bdd2771fad4397b61d45b8f84e94bad2b94f8", func := "quire/quirelaw19.AnchorBytes", spec := "anchorBytes", inPlace := ["math.Float64bits", "internal/bytealg.abigen_runtime_cmpstring", "math.Float64frombits", "slices.overlaps[*quire/seq.node]", "slices.overlaps[quire/api.Op]"], unfollowed := true, recurses := true, named := ["unicode/utf8.first", "unicode/utf8.acceptRanges"], plainKeys := false, apart := false, laid := [("unicode/utf8.acceptRanges", laid_unicode_utf8_acceptRanges), ("unicode/utf8.first", laid_unicode_utf8_first)], narrowed := true }
def AnchorBytesUptoSaid : Prop := anchorBytesUptoRow.holds Tryz.pinned (OpenSpec.upto anchorBytesSpec)

end Rows
end Go.Proofs.YtgpgladbdoimdaaGreatDoor
