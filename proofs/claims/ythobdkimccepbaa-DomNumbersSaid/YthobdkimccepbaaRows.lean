/-
  No cell of these rows narrows 'for every input' (looked for: loops, veiled, ifaces, maps, wideKeys, modest, calm, conditions, laid).
  DERIVED. THE GIVEN ROWS OF THIS SEAT. 5 by the template 'for every input the law returns true; each argument reads behind the call as it read before'; 0 by the template 'total and deterministic' (their statements: YthobdkimccepbaaTotals.lean).
  GIVEN WITH THE SEED: the statements are not yours to turn. If you find one false, say at which input.
  Laid BY PROGRAM, IN A SANDBOX (cutbox-rows.mjs): the forced cells as the released guide's own fill.sh prints them over the translation 50681948c52110aa… (all of the seat's roots in one cut). By AI agents, Wed Nov 11 2026. No macro, syntax, notation, axiom, sorry.
-/
import Derived.Test.YthobdkimccepbaaChecked
import GoSem.Claim
import GoSem.ClaimJoined
import GoSem.ClaimMapViews
import Derived.JoinedTies
import Derived.KernelRfl
namespace Go.Proofs.Ythobdkimccepbaa
/- THE CELL 'sum', in the pinned program and in every row, IS THE sha256 OF THE DUMP (.gsa) THAT YthobdkimccepbaaProg.lean LOADS. Nothing in Lean hashes anything: it is a label: what it is worth is what the hold of that sum in a sandbox is worth. -/
noncomputable def Try.pinned : Pinned := { name := "ythobdkimccepbaa", sum := "50681948c52110aa10d204dbf6632d19db5a610315c6f5dc6d2ac58020da07cb", checked := Try.checked }
namespace Rows
def none {H : Type} : Left H := { results := [], args := [] }

/-- 'smithylaw10.DomTrees': WHATEVER THE INPUT: true; the input reads as it did. -/
def domTreesSpec : ChangeSpec := { name := "domTrees", fn := fun _ => fun
  | [d] => { results := [.lit (.bool true)], args := [d] }
  | _ => none }
def domTreesRow : OpenClaim := { program := "ythobdkimccepbaa", sum := "50681948c52110aa10d204dbf6632d19db5a610315c6f5dc6d2ac58020da07cb", func := "smithy/smithylaw10.DomTrees", spec := "domTrees", unfollowed := true, recurses := true, apart := false }
def DomTreesSaid : Prop := domTreesRow.holds Try.pinned (OpenSpec.ofChange domTreesSpec)

/-- ITS FALSE NEIGHBOUR: 'it returns false'. Refute it at one input. -/
def domTreesWrong : ChangeSpec := { name := "domTrees", fn := fun _ => fun
  | [d] => { results := [.lit (.bool false)], args := [d] }
  | _ => none }
def DomTreesWrongFalsely : Prop := domTreesRow.holds Try.pinned (OpenSpec.ofChange domTreesWrong)

/-- 'smithylaw10.DomOvers': WHATEVER THE INPUT: true; the input reads as it did. -/
def domOversSpec : ChangeSpec := { name := "domOvers", fn := fun _ => fun
  | [d1, d2, d3] => { results := [.lit (.bool true)], args := [d1, d2, d3] }
  | _ => none }
def domOversRow : OpenClaim := { program := "ythobdkimccepbaa", sum := "50681948c52110aa10d204dbf6632d19db5a610315c6f5dc6d2ac58020da07cb", func := "smithy/smithylaw10.DomOvers", spec := "domOvers", unfollowed := true, recurses := true, apart := false }
def DomOversSaid : Prop := domOversRow.holds Try.pinned (OpenSpec.ofChange domOversSpec)

/-- ITS FALSE NEIGHBOUR: 'it returns false'. Refute it at one input. -/
def domOversWrong : ChangeSpec := { name := "domOvers", fn := fun _ => fun
  | [d1, d2, d3] => { results := [.lit (.bool false)], args := [d1, d2, d3] }
  | _ => none }
def DomOversWrongFalsely : Prop := domOversRow.holds Try.pinned (OpenSpec.ofChange domOversWrong)

/-- 'smithylaw10.DomNumbers': WHATEVER THE INPUT: true; the input reads as it did. -/
def domNumbersSpec : ChangeSpec := { name := "domNumbers", fn := fun _ => fun
  | [] => { results := [.lit (.bool true)], args := [] }
  | _ => none }
def domNumbersRow : OpenClaim := { program := "ythobdkimccepbaa", sum := "50681948c52110aa10d204dbf6632d19db5a610315c6f5dc6d2ac58020da07cb", func := "smithy/smithylaw10.DomNumbers", spec := "domNumbers", unfollowed := true, recurses := true, apart := false }
def DomNumbersSaid : Prop := domNumbersRow.holds Try.pinned (OpenSpec.ofChange domNumbersSpec)

/-- ITS FALSE NEIGHBOUR: 'it returns false'. Refute it at one input. -/
def domNumbersWrong : ChangeSpec := { name := "domNumbers", fn := fun _ => fun
  | [] => { results := [.lit (.bool false)], args := [] }
  | _ => none }
def DomNumbersWrongFalsely : Prop := domNumbersRow.holds Try.pinned (OpenSpec.ofChange domNumbersWrong)

/-- 'smithylaw10.DomOver': WHATEVER THE INPUT: true; the input reads as it did. -/
def domOverSpec : ChangeSpec := { name := "domOver", fn := fun _ => fun
  | [d1, d2, d3, d4] => { results := [.lit (.bool true)], args := [d1, d2, d3, d4] }
  | _ => none }
def domOverRow : OpenClaim := { program := "ythobdkimccepbaa", sum := "50681948c52110aa10d204dbf6632d19db5a610315c6f5dc6d2ac58020da07cb", func := "smithy/smithylaw10.DomOver", spec := "domOver", unfollowed := true, recurses := true, apart := false }
def DomOverSaid : Prop := domOverRow.holds Try.pinned (OpenSpec.ofChange domOverSpec)

/-- ITS FALSE NEIGHBOUR: 'it returns false'. Refute it at one input. -/
def domOverWrong : ChangeSpec := { name := "domOver", fn := fun _ => fun
  | [d1, d2, d3, d4] => { results := [.lit (.bool false)], args := [d1, d2, d3, d4] }
  | _ => none }
def DomOverWrongFalsely : Prop := domOverRow.holds Try.pinned (OpenSpec.ofChange domOverWrong)

/-- 'smithylaw10.DomNear': WHATEVER THE INPUT: true; the input reads as it did. -/
def domNearSpec : ChangeSpec := { name := "domNear", fn := fun _ => fun
  | [d] => { results := [.lit (.bool true)], args := [d] }
  | _ => none }
def domNearRow : OpenClaim := { program := "ythobdkimccepbaa", sum := "50681948c52110aa10d204dbf6632d19db5a610315c6f5dc6d2ac58020da07cb", func := "smithy/smithylaw10.DomNear", spec := "domNear", unfollowed := true, recurses := true, apart := false }
def DomNearSaid : Prop := domNearRow.holds Try.pinned (OpenSpec.ofChange domNearSpec)

/-- ITS FALSE NEIGHBOUR: 'it returns false'. Refute it at one input. -/
def domNearWrong : ChangeSpec := { name := "domNear", fn := fun _ => fun
  | [d] => { results := [.lit (.bool false)], args := [d] }
  | _ => none }
def DomNearWrongFalsely : Prop := domNearRow.holds Try.pinned (OpenSpec.ofChange domNearWrong)

/- THE SECOND FORM. 'bulk': how many values and letters a reading holds, each counted each time it is reached (what is shared counts as often as it is met; a slice's spare places count too). A statement '..UptoSaid' is the law's where the arguments, and the package variables that the reading takes, are together of bulk at most 1048576: NARROWER than '..Said'. Prove '..Said' where nothing that the law and all that it calls make is longer than what came in: it says more and counts as full. Else prove '..UptoSaid'. A law counts once. -/
mutual
def uptoBulk {H : Type} : DataW H → Nat
  | .lit (.string bytes) => bytes.length + 1
  | .lit _ => 1
  | .nil => 1
  | .ptr d => uptoBulk d + 1
  | .slice elems spare => uptoBulkAll elems + uptoBulkAll spare + 1
  | .agg parts => uptoBulkAll parts + 1
  | .iface _ d => uptoBulk d + 1
  | .map entries => uptoBulkEntries entries + 1
  | .held _ => 1
def uptoBulkAll {H : Type} : List (DataW H) → Nat
  | [] => 0
  | d :: r => uptoBulk d + uptoBulkAll r
def uptoBulkEntries {H : Type} : List (Lit × DataW H) → Nat
  | [] => 0
  | x :: r => uptoBulkEntry x + uptoBulkEntries r
def uptoBulkEntry {H : Type} : Lit × DataW H → Nat
  | (.string bytes, d) => bytes.length + uptoBulk d + 1
  | (_, d) => uptoBulk d + 1
 end
def uptoSmall : (H : Type) → List (DataW H) → Bool := fun _ ds => decide (uptoBulkAll ds ≤ 1048576)
def OpenSpec.upto (s : _root_.Go.ChangeSpec) : _root_.Go.OpenSpec := { _root_.Go.OpenSpec.ofChange s with cond := some uptoSmall }

/-- 'smithylaw10.DomTrees', WHERE WHAT IT READS IS OF BULK AT MOST 1048576: true; the input reads as it did. -/
def domTreesUptoRow : OpenClaim := { program := "ythobdkimccepbaa", sum := "50681948c52110aa10d204dbf6632d19db5a610315c6f5dc6d2ac58020da07cb", func := "smithy/smithylaw10.DomTrees", spec := "domTrees", unfollowed := true, recurses := true, apart := false, narrowed := true }
def DomTreesUptoSaid : Prop := domTreesUptoRow.holds Try.pinned (OpenSpec.upto domTreesSpec)

/-- 'smithylaw10.DomOvers', WHERE WHAT IT READS IS OF BULK AT MOST 1048576: true; the input reads as it did. -/
def domOversUptoRow : OpenClaim := { program := "ythobdkimccepbaa", sum := "50681948c52110aa10d204dbf6632d19db5a610315c6f5dc6d2ac58020da07cb", func := "smithy/smithylaw10.DomOvers", spec := "domOvers", unfollowed := true, recurses := true, apart := false, narrowed := true }
def DomOversUptoSaid : Prop := domOversUptoRow.holds Try.pinned (OpenSpec.upto domOversSpec)

/-- 'smithylaw10.DomNumbers', WHERE WHAT IT READS IS OF BULK AT MOST 1048576: true; the input reads as it did. -/
def domNumbersUptoRow : OpenClaim := { program := "ythobdkimccepbaa", sum := "50681948c52110aa10d204dbf6632d19db5a610315c6f5dc6d2ac58020da07cb", func := "smithy/smithylaw10.DomNumbers", spec := "domNumbers", unfollowed := true, recurses := true, apart := false, narrowed := true }
def DomNumbersUptoSaid : Prop := domNumbersUptoRow.holds Try.pinned (OpenSpec.upto domNumbersSpec)

/-- 'smithylaw10.DomOver', WHERE WHAT IT READS IS OF BULK AT MOST 1048576: true; the input reads as it did. -/
def domOverUptoRow : OpenClaim := { program := "ythobdkimccepbaa", sum := "50681948c52110aa10d204dbf6632d19db5a610315c6f5dc6d2ac58020da07cb", func := "smithy/smithylaw10.DomOver", spec := "domOver", unfollowed := true, recurses := true, apart := false, narrowed := true }
def DomOverUptoSaid : Prop := domOverUptoRow.holds Try.pinned (OpenSpec.upto domOverSpec)

/-- 'smithylaw10.DomNear', WHERE WHAT IT READS IS OF BULK AT MOST 1048576: true; the input reads as it did. -/
def domNearUptoRow : OpenClaim := { program := "ythobdkimccepbaa", sum := "50681948c52110aa10d204dbf6632d19db5a610315c6f5dc6d2ac58020da07cb", func := "smithy/smithylaw10.DomNear", spec := "domNear", unfollowed := true, recurses := true, apart := false, narrowed := true }
def DomNearUptoSaid : Prop := domNearUptoRow.holds Try.pinned (OpenSpec.upto domNearSpec)

end Rows
end Go.Proofs.Ythobdkimccepbaa
