/-
  No cell of these rows narrows 'for every input' (looked for: loops, veiled, ifaces, maps, wideKeys, modest, calm, conditions, laid).
  DERIVED. THE GIVEN ROWS OF THIS SEAT. 5 by the template 'for every input the law returns true; each argument reads behind the call as it read before'; 0 by the template 'total and deterministic' (their statements: YtmjpcaiehfimgaaTotals.lean).
  GIVEN WITH THE SEED: the statements are not yours to turn. If you find one false, say at which input.
  Laid BY PROGRAM, IN A SANDBOX (cutbox-rows.mjs): the forced cells as the released guide's own fill.sh prints them over the translation f802270f7c61ddac… (all of the seat's roots in one cut). By AI agents, Wed Nov 11 2026. No macro, syntax, notation, axiom, sorry.
-/
import Derived.Test.YtmjpcaiehfimgaaChecked
import GoSem.Claim
import GoSem.ClaimJoined
import GoSem.ClaimMapViews
import Derived.JoinedTies
import Derived.KernelRfl
namespace Go.Proofs.Ytmjpcaiehfimgaa
/- THE CELL 'sum', in the pinned program and in every row, IS THE sha256 OF THE DUMP (.gsa) THAT YtmjpcaiehfimgaaProg.lean LOADS. Nothing in Lean hashes anything: it is a label: what it is worth is what the hold of that sum in a sandbox is worth. -/
noncomputable def Try.pinned : Pinned := { name := "ytmjpcaiehfimgaa", sum := "f802270f7c61ddac806af53f152f4f3523a784f6b14fe9c75acd21a9ed1b22ca", checked := Try.checked }
namespace Rows
def none {H : Type} : Left H := { results := [], args := [] }

/-- 'quirelaw7.VectorClean': WHATEVER THE INPUT: true; the input reads as it did. -/
def vectorCleanSpec : ChangeSpec := { name := "vectorClean", fn := fun _ => fun
  | [d1, d2] => { results := [.lit (.bool true)], args := [d1, d2] }
  | _ => none }
def vectorCleanRow : OpenClaim := { program := "ytmjpcaiehfimgaa", sum := "f802270f7c61ddac806af53f152f4f3523a784f6b14fe9c75acd21a9ed1b22ca", func := "quire/quirelaw7.VectorClean", spec := "vectorClean", unfollowed := true, recurses := true, apart := false }
def VectorCleanSaid : Prop := vectorCleanRow.holds Try.pinned (OpenSpec.ofChange vectorCleanSpec)

/-- ITS FALSE NEIGHBOUR: 'it returns false'. Refute it at one input. -/
def vectorCleanWrong : ChangeSpec := { name := "vectorClean", fn := fun _ => fun
  | [d1, d2] => { results := [.lit (.bool false)], args := [d1, d2] }
  | _ => none }
def VectorCleanWrongFalsely : Prop := vectorCleanRow.holds Try.pinned (OpenSpec.ofChange vectorCleanWrong)

/-- 'quirelaw7.VectorJoin': WHATEVER THE INPUT: true; the input reads as it did. -/
def vectorJoinSpec : ChangeSpec := { name := "vectorJoin", fn := fun _ => fun
  | [d1, d2] => { results := [.lit (.bool true)], args := [d1, d2] }
  | _ => none }
def vectorJoinRow : OpenClaim := { program := "ytmjpcaiehfimgaa", sum := "f802270f7c61ddac806af53f152f4f3523a784f6b14fe9c75acd21a9ed1b22ca", func := "quire/quirelaw7.VectorJoin", spec := "vectorJoin", unfollowed := true, recurses := true, apart := false }
def VectorJoinSaid : Prop := vectorJoinRow.holds Try.pinned (OpenSpec.ofChange vectorJoinSpec)

/-- ITS FALSE NEIGHBOUR: 'it returns false'. Refute it at one input. -/
def vectorJoinWrong : ChangeSpec := { name := "vectorJoin", fn := fun _ => fun
  | [d1, d2] => { results := [.lit (.bool false)], args := [d1, d2] }
  | _ => none }
def VectorJoinWrongFalsely : Prop := vectorJoinRow.holds Try.pinned (OpenSpec.ofChange vectorJoinWrong)

/-- 'quirelaw7.VectorLaws': WHATEVER THE INPUT: true; the input reads as it did. -/
def vectorLawsSpec : ChangeSpec := { name := "vectorLaws", fn := fun _ => fun
  | [d1, d2, d3] => { results := [.lit (.bool true)], args := [d1, d2, d3] }
  | _ => none }
def vectorLawsRow : OpenClaim := { program := "ytmjpcaiehfimgaa", sum := "f802270f7c61ddac806af53f152f4f3523a784f6b14fe9c75acd21a9ed1b22ca", func := "quire/quirelaw7.VectorLaws", spec := "vectorLaws", unfollowed := true, recurses := true, apart := false }
def VectorLawsSaid : Prop := vectorLawsRow.holds Try.pinned (OpenSpec.ofChange vectorLawsSpec)

/-- ITS FALSE NEIGHBOUR: 'it returns false'. Refute it at one input. -/
def vectorLawsWrong : ChangeSpec := { name := "vectorLaws", fn := fun _ => fun
  | [d1, d2, d3] => { results := [.lit (.bool false)], args := [d1, d2, d3] }
  | _ => none }
def VectorLawsWrongFalsely : Prop := vectorLawsRow.holds Try.pinned (OpenSpec.ofChange vectorLawsWrong)

/-- 'quirelaw7.VectorReads': WHATEVER THE INPUT: true; the input reads as it did. -/
def vectorReadsSpec : ChangeSpec := { name := "vectorReads", fn := fun _ => fun
  | [d] => { results := [.lit (.bool true)], args := [d] }
  | _ => none }
def vectorReadsRow : OpenClaim := { program := "ytmjpcaiehfimgaa", sum := "f802270f7c61ddac806af53f152f4f3523a784f6b14fe9c75acd21a9ed1b22ca", func := "quire/quirelaw7.VectorReads", spec := "vectorReads", unfollowed := true, recurses := true, apart := false }
def VectorReadsSaid : Prop := vectorReadsRow.holds Try.pinned (OpenSpec.ofChange vectorReadsSpec)

/-- ITS FALSE NEIGHBOUR: 'it returns false'. Refute it at one input. -/
def vectorReadsWrong : ChangeSpec := { name := "vectorReads", fn := fun _ => fun
  | [d] => { results := [.lit (.bool false)], args := [d] }
  | _ => none }
def VectorReadsWrongFalsely : Prop := vectorReadsRow.holds Try.pinned (OpenSpec.ofChange vectorReadsWrong)

/-- 'quirelaw7.VectorBytes': WHATEVER THE INPUT: true; the input reads as it did. -/
def vectorBytesSpec : ChangeSpec := { name := "vectorBytes", fn := fun _ => fun
  | [d1, d2] => { results := [.lit (.bool true)], args := [d1, d2] }
  | _ => none }
def vectorBytesRow : OpenClaim := { program := "ytmjpcaiehfimgaa", sum := "f802270f7c61ddac806af53f152f4f3523a784f6b14fe9c75acd21a9ed1b22ca", func := "quire/quirelaw7.VectorBytes", spec := "vectorBytes", unfollowed := true, recurses := true, apart := false }
def VectorBytesSaid : Prop := vectorBytesRow.holds Try.pinned (OpenSpec.ofChange vectorBytesSpec)

/-- ITS FALSE NEIGHBOUR: 'it returns false'. Refute it at one input. -/
def vectorBytesWrong : ChangeSpec := { name := "vectorBytes", fn := fun _ => fun
  | [d1, d2] => { results := [.lit (.bool false)], args := [d1, d2] }
  | _ => none }
def VectorBytesWrongFalsely : Prop := vectorBytesRow.holds Try.pinned (OpenSpec.ofChange vectorBytesWrong)

/- THE SECOND FORM. 'bulk': how many values and letters a reading holds, each counted each time it is reached (what is shared counts as often as it is met; a slice's spare places count too). A statement '..UptoSaid' is the law's where the arguments, and the package variables that the reading takes, are together of bulk at most 1048576: NARROWER than '..Said'. Prove '..Said' where nothing that the law and all that it calls make is longer than what came in: it says more and counts as full. Else prove '..UptoSaid'. A law counts once. -/
mutual
def uptoBulk {H : Type} : DataW H → Nat
  | .lit (.string bytes) => bytes.length + 1
  | .lit _ => 1
  | .nil => 1
  | .ptr d => uptoBulk d + 1
  | .slice elems spare => uptoBulkAll elems + uptoBulkAll spare + 1
  | .agg parts => uptoBulkAll parts + 1
  | .iface _ d => uptoBulk d + 1
  | .map entries => uptoBulkEntries entries + 1
  | .held _ => 1
def uptoBulkAll {H : Type} : List (DataW H) → Nat
  | [] => 0
  | d :: r => uptoBulk d + uptoBulkAll r
def uptoBulkEntries {H : Type} : List (Lit × DataW H) → Nat
  | [] => 0
  | x :: r => uptoBulkEntry x + uptoBulkEntries r
def uptoBulkEntry {H : Type} : Lit × DataW H → Nat
  | (.string bytes, d) => bytes.length + uptoBulk d + 1
  | (_, d) => uptoBulk d + 1
 end
def uptoSmall : (H : Type) → List (DataW H) → Bool := fun _ ds => decide (uptoBulkAll ds ≤ 1048576)
def OpenSpec.upto (s : _root_.Go.ChangeSpec) : _root_.Go.OpenSpec := { _root_.Go.OpenSpec.ofChange s with cond := some uptoSmall }

/-- 'quirelaw7.VectorClean', WHERE WHAT IT READS IS OF BULK AT MOST 1048576: true; the input reads as it did. -/
def vectorCleanUptoRow : OpenClaim := { program := "ytmjpcaiehfimgaa", sum := "f802270f7c61ddac806af53f152f4f3523a784f6b14fe9c75acd21a9ed1b22ca", func := "quire/quirelaw7.VectorClean", spec := "vectorClean", unfollowed := true, recurses := true, apart := false, narrowed := true }
def VectorCleanUptoSaid : Prop := vectorCleanUptoRow.holds Try.pinned (OpenSpec.upto vectorCleanSpec)

/-- 'quirelaw7.VectorJoin', WHERE WHAT IT READS IS OF BULK AT MOST 1048576: true; the input reads as it did. -/
def vectorJoinUptoRow : OpenClaim := { program := "ytmjpcaiehfimgaa", sum := "f802270f7c61ddac806af53f152f4f3523a784f6b14fe9c75acd21a9ed1b22ca", func := "quire/quirelaw7.VectorJoin", spec := "vectorJoin", unfollowed := true, recurses := true, apart := false, narrowed := true }
def VectorJoinUptoSaid : Prop := vectorJoinUptoRow.holds Try.pinned (OpenSpec.upto vectorJoinSpec)

/-- 'quirelaw7.VectorLaws', WHERE WHAT IT READS IS OF BULK AT MOST 1048576: true; the input reads as it did. -/
def vectorLawsUptoRow : OpenClaim := { program := "ytmjpcaiehfimgaa", sum := "f802270f7c61ddac806af53f152f4f3523a784f6b14fe9c75acd21a9ed1b22ca", func := "quire/quirelaw7.VectorLaws", spec := "vectorLaws", unfollowed := true, recurses := true, apart := false, narrowed := true }
def VectorLawsUptoSaid : Prop := vectorLawsUptoRow.holds Try.pinned (OpenSpec.upto vectorLawsSpec)

/-- 'quirelaw7.VectorReads', WHERE WHAT IT READS IS OF BULK AT MOST 1048576: true; the input reads as it did. -/
def vectorReadsUptoRow : OpenClaim := { program := "ytmjpcaiehfimgaa", sum := "f802270f7c61ddac806af53f152f4f3523a784f6b14fe9c75acd21a9ed1b22ca", func := "quire/quirelaw7.VectorReads", spec := "vectorReads", unfollowed := true, recurses := true, apart := false, narrowed := true }
def VectorReadsUptoSaid : Prop := vectorReadsUptoRow.holds Try.pinned (OpenSpec.upto vectorReadsSpec)

/-- 'quirelaw7.VectorBytes', WHERE WHAT IT READS IS OF BULK AT MOST 1048576: true; the input reads as it did. -/
def vectorBytesUptoRow : OpenClaim := { program := "ytmjpcaiehfimgaa", sum := "f802270f7c61ddac806af53f152f4f3523a784f6b14fe9c75acd21a9ed1b22ca", func := "quire/quirelaw7.VectorBytes", spec := "vectorBytes", unfollowed := true, recurses := true, apart := false, narrowed := true }
def VectorBytesUptoSaid : Prop := vectorBytesUptoRow.holds Try.pinned (OpenSpec.upto vectorBytesSpec)

end Rows
end Go.Proofs.Ytmjpcaiehfimgaa
