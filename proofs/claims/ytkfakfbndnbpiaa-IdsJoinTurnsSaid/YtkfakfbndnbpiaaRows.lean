/-
  No cell of these rows narrows 'for every input' (looked for: loops, veiled, ifaces, maps, wideKeys, modest, calm, conditions, laid).
  DERIVED. THE GIVEN ROWS OF THIS SEAT. 10 by the template 'for every input the law returns true; each argument reads behind the call as it read before'; 0 by the template 'total and deterministic' (their statements: YtkfakfbndnbpiaaTotals.lean).
  GIVEN WITH THE SEED: the statements are not yours to turn. If you find one false, say at which input.
  Laid BY PROGRAM, IN A SANDBOX (cutbox-rows.mjs): the forced cells as the released guide's own fill.sh prints them over the translation 1c8d22dff5a67d2b… (all of the seat's roots in one cut). By AI agents, Wed Nov 11 2026. No macro, syntax, notation, axiom, sorry.
-/
import Derived.Test.YtkfakfbndnbpiaaChecked
import GoSem.Claim
import GoSem.ClaimJoined
import GoSem.ClaimMapViews
import Derived.JoinedTies
import Derived.KernelRfl
namespace Go.Proofs.Ytkfakfbndnbpiaa
/- THE CELL 'sum', in the pinned program and in every row, IS THE sha256 OF THE DUMP (.gsa) THAT YtkfakfbndnbpiaaProg.lean LOADS. Nothing in Lean hashes anything: it is a label: what it is worth is what the hold of that sum in a sandbox is worth. -/
noncomputable def Try.pinned : Pinned := { name := "ytkfakfbndnbpiaa", sum := "1c8d22dff5a67d2bca8c8ffae042b6cf70a1fdcdf89335a471ce15617f8b9fe3", checked := Try.checked }
namespace Rows
def none {H : Type} : Left H := { results := [], args := [] }

/-- 'quirelaw21.FrameWrites': WHATEVER THE INPUT: true; the input reads as it did. -/
def frameWritesSpec : ChangeSpec := { name := "frameWrites", fn := fun _ => fun
  | [d1, d2] => { results := [.lit (.bool true)], args := [d1, d2] }
  | _ => none }
def frameWritesRow : OpenClaim := { program := "ytkfakfbndnbpiaa", sum := "1c8d22dff5a67d2bca8c8ffae042b6cf70a1fdcdf89335a471ce15617f8b9fe3", func := "quire/quirelaw21.FrameWrites", spec := "frameWrites", unfollowed := true, recurses := true, apart := false }
def FrameWritesSaid : Prop := frameWritesRow.holds Try.pinned (OpenSpec.ofChange frameWritesSpec)

/-- ITS FALSE NEIGHBOUR: 'it returns false'. Refute it at one input. -/
def frameWritesWrong : ChangeSpec := { name := "frameWrites", fn := fun _ => fun
  | [d1, d2] => { results := [.lit (.bool false)], args := [d1, d2] }
  | _ => none }
def FrameWritesWrongFalsely : Prop := frameWritesRow.holds Try.pinned (OpenSpec.ofChange frameWritesWrong)

/-- 'quirelaw21.FrameSpoilt': WHATEVER THE INPUT: true; the input reads as it did. -/
def frameSpoiltSpec : ChangeSpec := { name := "frameSpoilt", fn := fun _ => fun
  | [d1, d2, d3, d4] => { results := [.lit (.bool true)], args := [d1, d2, d3, d4] }
  | _ => none }
def frameSpoiltRow : OpenClaim := { program := "ytkfakfbndnbpiaa", sum := "1c8d22dff5a67d2bca8c8ffae042b6cf70a1fdcdf89335a471ce15617f8b9fe3", func := "quire/quirelaw21.FrameSpoilt", spec := "frameSpoilt", unfollowed := true, recurses := true, apart := false }
def FrameSpoiltSaid : Prop := frameSpoiltRow.holds Try.pinned (OpenSpec.ofChange frameSpoiltSpec)

/-- ITS FALSE NEIGHBOUR: 'it returns false'. Refute it at one input. -/
def frameSpoiltWrong : ChangeSpec := { name := "frameSpoilt", fn := fun _ => fun
  | [d1, d2, d3, d4] => { results := [.lit (.bool false)], args := [d1, d2, d3, d4] }
  | _ => none }
def FrameSpoiltWrongFalsely : Prop := frameSpoiltRow.holds Try.pinned (OpenSpec.ofChange frameSpoiltWrong)

/-- 'quirelaw21.FrameBounds': WHATEVER THE INPUT: true; the input reads as it did. -/
def frameBoundsSpec : ChangeSpec := { name := "frameBounds", fn := fun _ => fun
  | [d1, d2] => { results := [.lit (.bool true)], args := [d1, d2] }
  | _ => none }
def frameBoundsRow : OpenClaim := { program := "ytkfakfbndnbpiaa", sum := "1c8d22dff5a67d2bca8c8ffae042b6cf70a1fdcdf89335a471ce15617f8b9fe3", func := "quire/quirelaw21.FrameBounds", spec := "frameBounds", unfollowed := true, recurses := true, apart := false }
def FrameBoundsSaid : Prop := frameBoundsRow.holds Try.pinned (OpenSpec.ofChange frameBoundsSpec)

/-- ITS FALSE NEIGHBOUR: 'it returns false'. Refute it at one input. -/
def frameBoundsWrong : ChangeSpec := { name := "frameBounds", fn := fun _ => fun
  | [d1, d2] => { results := [.lit (.bool false)], args := [d1, d2] }
  | _ => none }
def FrameBoundsWrongFalsely : Prop := frameBoundsRow.holds Try.pinned (OpenSpec.ofChange frameBoundsWrong)

/-- 'quirelaw6.IdsClean': WHATEVER THE INPUT: true; the input reads as it did. -/
def idsCleanSpec : ChangeSpec := { name := "idsClean", fn := fun _ => fun
  | [d1, d2] => { results := [.lit (.bool true)], args := [d1, d2] }
  | _ => none }
def idsCleanRow : OpenClaim := { program := "ytkfakfbndnbpiaa", sum := "1c8d22dff5a67d2bca8c8ffae042b6cf70a1fdcdf89335a471ce15617f8b9fe3", func := "quire/quirelaw6.IdsClean", spec := "idsClean", unfollowed := true, recurses := true, apart := false }
def IdsCleanSaid : Prop := idsCleanRow.holds Try.pinned (OpenSpec.ofChange idsCleanSpec)

/-- ITS FALSE NEIGHBOUR: 'it returns false'. Refute it at one input. -/
def idsCleanWrong : ChangeSpec := { name := "idsClean", fn := fun _ => fun
  | [d1, d2] => { results := [.lit (.bool false)], args := [d1, d2] }
  | _ => none }
def IdsCleanWrongFalsely : Prop := idsCleanRow.holds Try.pinned (OpenSpec.ofChange idsCleanWrong)

/-- 'quirelaw6.IdsOrder': WHATEVER THE INPUT: true; the input reads as it did. -/
def idsOrderSpec : ChangeSpec := { name := "idsOrder", fn := fun _ => fun
  | [d1, d2, d3] => { results := [.lit (.bool true)], args := [d1, d2, d3] }
  | _ => none }
def idsOrderRow : OpenClaim := { program := "ytkfakfbndnbpiaa", sum := "1c8d22dff5a67d2bca8c8ffae042b6cf70a1fdcdf89335a471ce15617f8b9fe3", func := "quire/quirelaw6.IdsOrder", spec := "idsOrder", unfollowed := true, recurses := true, apart := false }
def IdsOrderSaid : Prop := idsOrderRow.holds Try.pinned (OpenSpec.ofChange idsOrderSpec)

/-- ITS FALSE NEIGHBOUR: 'it returns false'. Refute it at one input. -/
def idsOrderWrong : ChangeSpec := { name := "idsOrder", fn := fun _ => fun
  | [d1, d2, d3] => { results := [.lit (.bool false)], args := [d1, d2, d3] }
  | _ => none }
def IdsOrderWrongFalsely : Prop := idsOrderRow.holds Try.pinned (OpenSpec.ofChange idsOrderWrong)

/-- 'quirelaw6.IdsEach': WHATEVER THE INPUT: true; the input reads as it did. -/
def idsEachSpec : ChangeSpec := { name := "idsEach", fn := fun _ => fun
  | [d1, d2] => { results := [.lit (.bool true)], args := [d1, d2] }
  | _ => none }
def idsEachRow : OpenClaim := { program := "ytkfakfbndnbpiaa", sum := "1c8d22dff5a67d2bca8c8ffae042b6cf70a1fdcdf89335a471ce15617f8b9fe3", func := "quire/quirelaw6.IdsEach", spec := "idsEach", unfollowed := true, recurses := true, apart := false }
def IdsEachSaid : Prop := idsEachRow.holds Try.pinned (OpenSpec.ofChange idsEachSpec)

/-- ITS FALSE NEIGHBOUR: 'it returns false'. Refute it at one input. -/
def idsEachWrong : ChangeSpec := { name := "idsEach", fn := fun _ => fun
  | [d1, d2] => { results := [.lit (.bool false)], args := [d1, d2] }
  | _ => none }
def IdsEachWrongFalsely : Prop := idsEachRow.holds Try.pinned (OpenSpec.ofChange idsEachWrong)

/-- 'quirelaw6.IdsJoin': WHATEVER THE INPUT: true; the input reads as it did. -/
def idsJoinSpec : ChangeSpec := { name := "idsJoin", fn := fun _ => fun
  | [d1, d2, d3] => { results := [.lit (.bool true)], args := [d1, d2, d3] }
  | _ => none }
def idsJoinRow : OpenClaim := { program := "ytkfakfbndnbpiaa", sum := "1c8d22dff5a67d2bca8c8ffae042b6cf70a1fdcdf89335a471ce15617f8b9fe3", func := "quire/quirelaw6.IdsJoin", spec := "idsJoin", unfollowed := true, recurses := true, apart := false }
def IdsJoinSaid : Prop := idsJoinRow.holds Try.pinned (OpenSpec.ofChange idsJoinSpec)

/-- ITS FALSE NEIGHBOUR: 'it returns false'. Refute it at one input. -/
def idsJoinWrong : ChangeSpec := { name := "idsJoin", fn := fun _ => fun
  | [d1, d2, d3] => { results := [.lit (.bool false)], args := [d1, d2, d3] }
  | _ => none }
def IdsJoinWrongFalsely : Prop := idsJoinRow.holds Try.pinned (OpenSpec.ofChange idsJoinWrong)

/-- 'quirelaw6.IdsAlgebra': WHATEVER THE INPUT: true; the input reads as it did. -/
def idsAlgebraSpec : ChangeSpec := { name := "idsAlgebra", fn := fun _ => fun
  | [d1, d2, d3] => { results := [.lit (.bool true)], args := [d1, d2, d3] }
  | _ => none }
def idsAlgebraRow : OpenClaim := { program := "ytkfakfbndnbpiaa", sum := "1c8d22dff5a67d2bca8c8ffae042b6cf70a1fdcdf89335a471ce15617f8b9fe3", func := "quire/quirelaw6.IdsAlgebra", spec := "idsAlgebra", unfollowed := true, recurses := true, apart := false }
def IdsAlgebraSaid : Prop := idsAlgebraRow.holds Try.pinned (OpenSpec.ofChange idsAlgebraSpec)

/-- ITS FALSE NEIGHBOUR: 'it returns false'. Refute it at one input. -/
def idsAlgebraWrong : ChangeSpec := { name := "idsAlgebra", fn := fun _ => fun
  | [d1, d2, d3] => { results := [.lit (.bool false)], args := [d1, d2, d3] }
  | _ => none }
def IdsAlgebraWrongFalsely : Prop := idsAlgebraRow.holds Try.pinned (OpenSpec.ofChange idsAlgebraWrong)

/-- 'quirelaw6.IdsTurns': WHATEVER THE INPUT: true; the input reads as it did. -/
def idsTurnsSpec : ChangeSpec := { name := "idsTurns", fn := fun _ => fun
  | [d1, d2] => { results := [.lit (.bool true)], args := [d1, d2] }
  | _ => none }
def idsTurnsRow : OpenClaim := { program := "ytkfakfbndnbpiaa", sum := "1c8d22dff5a67d2bca8c8ffae042b6cf70a1fdcdf89335a471ce15617f8b9fe3", func := "quire/quirelaw6.IdsTurns", spec := "idsTurns", unfollowed := true, recurses := true, apart := false }
def IdsTurnsSaid : Prop := idsTurnsRow.holds Try.pinned (OpenSpec.ofChange idsTurnsSpec)

/-- ITS FALSE NEIGHBOUR: 'it returns false'. Refute it at one input. -/
def idsTurnsWrong : ChangeSpec := { name := "idsTurns", fn := fun _ => fun
  | [d1, d2] => { results := [.lit (.bool false)], args := [d1, d2] }
  | _ => none }
def IdsTurnsWrongFalsely : Prop := idsTurnsRow.holds Try.pinned (OpenSpec.ofChange idsTurnsWrong)

/-- 'quirelaw6.IdsJoinTurns': WHATEVER THE INPUT: true; the input reads as it did. -/
def idsJoinTurnsSpec : ChangeSpec := { name := "idsJoinTurns", fn := fun _ => fun
  | [d1, d2, d3, d4] => { results := [.lit (.bool true)], args := [d1, d2, d3, d4] }
  | _ => none }
def idsJoinTurnsRow : OpenClaim := { program := "ytkfakfbndnbpiaa", sum := "1c8d22dff5a67d2bca8c8ffae042b6cf70a1fdcdf89335a471ce15617f8b9fe3", func := "quire/quirelaw6.IdsJoinTurns", spec := "idsJoinTurns", unfollowed := true, recurses := true, apart := false }
def IdsJoinTurnsSaid : Prop := idsJoinTurnsRow.holds Try.pinned (OpenSpec.ofChange idsJoinTurnsSpec)

/-- ITS FALSE NEIGHBOUR: 'it returns false'. Refute it at one input. -/
def idsJoinTurnsWrong : ChangeSpec := { name := "idsJoinTurns", fn := fun _ => fun
  | [d1, d2, d3, d4] => { results := [.lit (.bool false)], args := [d1, d2, d3, d4] }
  | _ => none }
def IdsJoinTurnsWrongFalsely : Prop := idsJoinTurnsRow.holds Try.pinned (OpenSpec.ofChange idsJoinTurnsWrong)

/- THE SECOND FORM. 'bulk': how many values and letters a reading holds, each counted each time it is reached (what is shared counts as often as it is met; a slice's spare places count too). A statement '..UptoSaid' is the law's where the arguments, and the package variables that the reading takes, are together of bulk at most 1048576: NARROWER than '..Said'. Prove '..Said' where nothing that the law and all that it calls make is longer than what came in: it says more and counts as full. Else prove '..UptoSaid'. A law counts once. -/
mutual
def uptoBulk {H : Type} : DataW H → Nat
  | .lit (.string bytes) => bytes.length + 1
  | .lit _ => 1
  | .nil => 1
  | .ptr d => uptoBulk d + 1
  | .slice elems spare => uptoBulkAll elems + uptoBulkAll spare + 1
  | .agg parts => uptoBulkAll parts + 1
  | .iface _ d => uptoBulk d + 1
  | .map entries => uptoBulkEntries entries + 1
  | .held _ => 1
def uptoBulkAll {H : Type} : List (DataW H) → Nat
  | [] => 0
  | d :: r => uptoBulk d + uptoBulkAll r
def uptoBulkEntries {H : Type} : List (Lit × DataW H) → Nat
  | [] => 0
  | x :: r => uptoBulkEntry x + uptoBulkEntries r
def uptoBulkEntry {H : Type} : Lit × DataW H → Nat
  | (.string bytes, d) => bytes.length + uptoBulk d + 1
  | (_, d) => uptoBulk d + 1
 end
def uptoSmall : (H : Type) → List (DataW H) → Bool := fun _ ds => decide (uptoBulkAll ds ≤ 1048576)
def OpenSpec.upto (s : _root_.Go.ChangeSpec) : _root_.Go.OpenSpec := { _root_.Go.OpenSpec.ofChange s with cond := some uptoSmall }

/-- 'quirelaw21.FrameWrites', WHERE WHAT IT READS IS OF BULK AT MOST 1048576: true; the input reads as it did. -/
def frameWritesUptoRow : OpenClaim := { program := "ytkfakfbndnbpiaa", sum := "1c8d22dff5a67d2bca8c8ffae042b6cf70a1fdcdf89335a471ce15617f8b9fe3", func := "quire/quirelaw21.FrameWrites", spec := "frameWrites", unfollowed := true, recurses := true, apart := false, narrowed := true }
def FrameWritesUptoSaid : Prop := frameWritesUptoRow.holds Try.pinned (OpenSpec.upto frameWritesSpec)

/-- 'quirelaw21.FrameSpoilt', WHERE WHAT IT READS IS OF BULK AT MOST 1048576: true; the input reads as it did. -/
def frameSpoiltUptoRow : OpenClaim := { program := "ytkfakfbndnbpiaa", sum := "1c8d22dff5a67d2bca8c8ffae042b6cf70a1fdcdf89335a471ce15617f8b9fe3", func := "quire/quirelaw21.FrameSpoilt", spec := "frameSpoilt", unfollowed := true, recurses := true, apart := false, narrowed := true }
def FrameSpoiltUptoSaid : Prop := frameSpoiltUptoRow.holds Try.pinned (OpenSpec.upto frameSpoiltSpec)

/-- 'quirelaw21.FrameBounds', WHERE WHAT IT READS IS OF BULK AT MOST 1048576: true; the input reads as it did. -/
def frameBoundsUptoRow : OpenClaim := { program := "ytkfakfbndnbpiaa", sum := "1c8d22dff5a67d2bca8c8ffae042b6cf70a1fdcdf89335a471ce15617f8b9fe3", func := "quire/quirelaw21.FrameBounds", spec := "frameBounds", unfollowed := true, recurses := true, apart := false, narrowed := true }
def FrameBoundsUptoSaid : Prop := frameBoundsUptoRow.holds Try.pinned (OpenSpec.upto frameBoundsSpec)

/-- 'quirelaw6.IdsClean', WHERE WHAT IT READS IS OF BULK AT MOST 1048576: true; the input reads as it did. -/
def idsCleanUptoRow : OpenClaim := { program := "ytkfakfbndnbpiaa", sum := "1c8d22dff5a67d2bca8c8ffae042b6cf70a1fdcdf89335a471ce15617f8b9fe3", func := "quire/quirelaw6.IdsClean", spec := "idsClean", unfollowed := true, recurses := true, apart := false, narrowed := true }
def IdsCleanUptoSaid : Prop := idsCleanUptoRow.holds Try.pinned (OpenSpec.upto idsCleanSpec)

/-- 'quirelaw6.IdsOrder', WHERE WHAT IT READS IS OF BULK AT MOST 1048576: true; the input reads as it did. -/
def idsOrderUptoRow : OpenClaim := { program := "ytkfakfbndnbpiaa", sum := "1c8d22dff5a67d2bca8c8ffae042b6cf70a1fdcdf89335a471ce15617f8b9fe3", func := "quire/quirelaw6.IdsOrder", spec := "idsOrder", unfollowed := true, recurses := true, apart := false, narrowed := true }
def IdsOrderUptoSaid : Prop := idsOrderUptoRow.holds Try.pinned (OpenSpec.upto idsOrderSpec)

/-- 'quirelaw6.IdsEach', WHERE WHAT IT READS IS OF BULK AT MOST 1048576: true; the input reads as it did. -/
def idsEachUptoRow : OpenClaim := { program := "ytkfakfbndnbpiaa", sum := "1c8d22dff5a67d2bca8c8ffae042b6cf70a1fdcdf89335a471ce15617f8b9fe3", func := "quire/quirelaw6.IdsEach", spec := "idsEach", unfollowed := true, recurses := true, apart := false, narrowed := true }
def IdsEachUptoSaid : Prop := idsEachUptoRow.holds Try.pinned (OpenSpec.upto idsEachSpec)

/-- 'quirelaw6.IdsJoin', WHERE WHAT IT READS IS OF BULK AT MOST 1048576: true; the input reads as it did. -/
def idsJoinUptoRow : OpenClaim := { program := "ytkfakfbndnbpiaa", sum := "1c8d22dff5a67d2bca8c8ffae042b6cf70a1fdcdf89335a471ce15617f8b9fe3", func := "quire/quirelaw6.IdsJoin", spec := "idsJoin", unfollowed := true, recurses := true, apart := false, narrowed := true }
def IdsJoinUptoSaid : Prop := idsJoinUptoRow.holds Try.pinned (OpenSpec.upto idsJoinSpec)

/-- 'quirelaw6.IdsAlgebra', WHERE WHAT IT READS IS OF BULK AT MOST 1048576: true; the input reads as it did. -/
def idsAlgebraUptoRow : OpenClaim := { program := "ytkfakfbndnbpiaa", sum := "1c8d22dff5a67d2bca8c8ffae042b6cf70a1fdcdf89335a471ce15617f8b9fe3", func := "quire/quirelaw6.IdsAlgebra", spec := "idsAlgebra", unfollowed := true, recurses := true, apart := false, narrowed := true }
def IdsAlgebraUptoSaid : Prop := idsAlgebraUptoRow.holds Try.pinned (OpenSpec.upto idsAlgebraSpec)

/-- 'quirelaw6.IdsTurns', WHERE WHAT IT READS IS OF BULK AT MOST 1048576: true; the input reads as it did. -/
def idsTurnsUptoRow : OpenClaim := { program := "ytkfakfbndnbpiaa", sum := "1c8d22dff5a67d2bca8c8ffae042b6cf70a1fdcdf89335a471ce15617f8b9fe3", func := "quire/quirelaw6.IdsTurns", spec := "idsTurns", unfollowed := true, recurses := true, apart := false, narrowed := true }
def IdsTurnsUptoSaid : Prop := idsTurnsUptoRow.holds Try.pinned (OpenSpec.upto idsTurnsSpec)

/-- 'quirelaw6.IdsJoinTurns', WHERE WHAT IT READS IS OF BULK AT MOST 1048576: true; the input reads as it did. -/
def idsJoinTurnsUptoRow : OpenClaim := { program := "ytkfakfbndnbpiaa", sum := "1c8d22dff5a67d2bca8c8ffae042b6cf70a1fdcdf89335a471ce15617f8b9fe3", func := "quire/quirelaw6.IdsJoinTurns", spec := "idsJoinTurns", unfollowed := true, recurses := true, apart := false, narrowed := true }
def IdsJoinTurnsUptoSaid : Prop := idsJoinTurnsUptoRow.holds Try.pinned (OpenSpec.upto idsJoinTurnsSpec)

end Rows
end Go.Proofs.Ytkfakfbndnbpiaa
