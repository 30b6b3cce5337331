/-
  NARROWER THAN 'FOR EVERY INPUT', by the rows' own cells (each row's printed sentence says how): GraphChecks: laid · GraphEdges: laid · GraphShapes: laid · GraphNumbers: laid · GraphTrimmed: laid.
  DERIVED. THE GIVEN ROWS OF THIS SEAT. 5 by the template 'for every input the law returns true; each argument reads behind the call as it read before'; 0 by the template 'total and deterministic' (their statements: YtfkakbipedafiaaDoorTotals.lean).
  GIVEN WITH THE SEED: the statements are not yours to turn. If you find one false, say at which input.
  Laid BY PROGRAM, IN A SANDBOX (cutbox-rows.mjs): the forced cells as the released guide's own fill.sh prints them over the translation 184a3d0ac29b6d3d… (all of the seat's roots in one cut). By AI agents, Wed Nov 11 2026. No macro, syntax, notation, axiom, sorry.
-/
import Derived.Test.YtfkakbipedafiaaDoorChecked
import GoSem.Claim
import GoSem.ClaimJoined
import GoSem.ClaimMapViews
import Derived.JoinedTies
import Derived.KernelRfl
namespace Go.Proofs.YtfkakbipedafiaaDoor
/- THE CELL 'sum', in the pinned program and in every row, IS THE sha256 OF THE DUMP (.gsa) THAT YtfkakbipedafiaaDoorProg.lean LOADS. Nothing in Lean hashes anything: it is a label: what it is worth is what the hold of that sum in a sandbox is worth. -/
noncomputable def Tryd.pinned : Pinned := { name := "ytfkakbipedafiaadoor", sum := "184a3d0ac29b6d3d9846fbcb2bbef7e381284129be63947a3fdc1970e0c30f4f", checked := Tryd.checked }
namespace Rows
def none {H : Type} : Left H := { results := [], args := [] }

/- WHAT THE LISTED PACKAGE-LEVEL VARIABLES READ AS WHEN THE CALL BEGINS. Each datum BY PROGRAM (the guide's laid-datum.mjs) off the statement by which the dump's own 'gosem.cut.vars' lays the variable. In a bare row this is a premise. The card (YtfkakbipedafiaaDoorCards.lean) ties it to the program's text. -/
def laid_smithy_graph_forms {H : Type} : DataW H := .agg [.agg [.lit (.bool false), .lit (.bool false), .lit (.bool false), .lit (.bool false), .lit (.int .i64 0)], .agg [.lit (.bool true), .lit (.bool false), .lit (.bool false), .lit (.bool false), .lit (.int .i64 (-1))], .agg [.lit (.bool true), .lit (.bool false), .lit (.bool true), .lit (.bool false), .lit (.int .i64 0)], .agg [.lit (.bool true), .lit (.bool false), .lit (.bool false), .lit (.bool false), .lit (.int .i64 1)], .agg [.lit (.bool true), .lit (.bool true), .lit (.bool false), .lit (.bool false), .lit (.int .i64 (-1))], .agg [.lit (.bool true), .lit (.bool false), .lit (.bool false), .lit (.bool false), .lit (.int .i64 1)], .agg [.lit (.bool true), .lit (.bool false), .lit (.bool false), .lit (.bool true), .lit (.int .i64 1)], .agg [.lit (.bool false), .lit (.bool false), .lit (.bool false), .lit (.bool true), .lit (.int .i64 2)], .agg [.lit (.bool false), .lit (.bool false), .lit (.bool false), .lit (.bool true), .lit (.int .i64 0)], .agg [.lit (.bool true), .lit (.bool false), .lit (.bool false), .lit (.bool true), .lit (.int .i64 (-1))], .agg [.lit (.bool false), .lit (.bool false), .lit (.bool false), .lit (.bool false), .lit (.int .i64 1)]]

/-- 'smithylaw07.GraphChecks': WHATEVER THE INPUT: true; the input reads as it did. -/
def graphChecksSpec : ChangeSpec := { name := "graphChecks", fn := fun _ => fun
  | [d] => { results := [.lit (.bool true)], args := [d] }
  | _ => none }
def graphChecksRow : OpenClaim := { program := "ytfkakbipedafiaadoor", sum := "184a3d0ac29b6d3d9846fbcb2bbef7e381284129be63947a3fdc1970e0c30f4f", func := "smithy/smithylaw07.GraphChecks", spec := "graphChecks", inPlace := ["math.Float64frombits"], unfollowed := true, recurses := true, named := ["smithy/graph.forms"], apart := false, laid := [("smithy/graph.forms", laid_smithy_graph_forms)] }
def GraphChecksSaid : Prop := graphChecksRow.holds Tryd.pinned (OpenSpec.ofChange graphChecksSpec)

/-- ITS FALSE NEIGHBOUR: 'it returns false'. Refute it at one input. -/
def graphChecksWrong : ChangeSpec := { name := "graphChecks", fn := fun _ => fun
  | [d] => { results := [.lit (.bool false)], args := [d] }
  | _ => none }
def GraphChecksWrongFalsely : Prop := graphChecksRow.holds Tryd.pinned (OpenSpec.ofChange graphChecksWrong)

/-- 'smithylaw07.GraphEdges': WHATEVER THE INPUT: true; the input reads as it did. -/
def graphEdgesSpec : ChangeSpec := { name := "graphEdges", fn := fun _ => fun
  | [d] => { results := [.lit (.bool true)], args := [d] }
  | _ => none }
def graphEdgesRow : OpenClaim := { program := "ytfkakbipedafiaadoor", sum := "184a3d0ac29b6d3d9846fbcb2bbef7e381284129be63947a3fdc1970e0c30f4f", func := "smithy/smithylaw07.GraphEdges", spec := "graphEdges", inPlace := ["math.Float64frombits"], unfollowed := true, recurses := true, named := ["smithy/graph.forms"], apart := false, laid := [("smithy/graph.forms", laid_smithy_graph_forms)] }
def GraphEdgesSaid : Prop := graphEdgesRow.holds Tryd.pinned (OpenSpec.ofChange graphEdgesSpec)

/-- ITS FALSE NEIGHBOUR: 'it returns false'. Refute it at one input. -/
def graphEdgesWrong : ChangeSpec := { name := "graphEdges", fn := fun _ => fun
  | [d] => { results := [.lit (.bool false)], args := [d] }
  | _ => none }
def GraphEdgesWrongFalsely : Prop := graphEdgesRow.holds Tryd.pinned (OpenSpec.ofChange graphEdgesWrong)

/-- 'smithylaw07.GraphShapes': WHATEVER THE INPUT: true; the input reads as it did. -/
def graphShapesSpec : ChangeSpec := { name := "graphShapes", fn := fun _ => fun
  | [d] => { results := [.lit (.bool true)], args := [d] }
  | _ => none }
def graphShapesRow : OpenClaim := { program := "ytfkakbipedafiaadoor", sum := "184a3d0ac29b6d3d9846fbcb2bbef7e381284129be63947a3fdc1970e0c30f4f", func := "smithy/smithylaw07.GraphShapes", spec := "graphShapes", inPlace := ["math.Float64frombits"], unfollowed := true, recurses := true, named := ["smithy/graph.forms"], apart := false, laid := [("smithy/graph.forms", laid_smithy_graph_forms)] }
def GraphShapesSaid : Prop := graphShapesRow.holds Tryd.pinned (OpenSpec.ofChange graphShapesSpec)

/-- ITS FALSE NEIGHBOUR: 'it returns false'. Refute it at one input. -/
def graphShapesWrong : ChangeSpec := { name := "graphShapes", fn := fun _ => fun
  | [d] => { results := [.lit (.bool false)], args := [d] }
  | _ => none }
def GraphShapesWrongFalsely : Prop := graphShapesRow.holds Tryd.pinned (OpenSpec.ofChange graphShapesWrong)

/-- 'smithylaw07.GraphNumbers': WHATEVER THE INPUT: true; the input reads as it did. -/
def graphNumbersSpec : ChangeSpec := { name := "graphNumbers", fn := fun _ => fun
  | [] => { results := [.lit (.bool true)], args := [] }
  | _ => none }
def graphNumbersRow : OpenClaim := { program := "ytfkakbipedafiaadoor", sum := "184a3d0ac29b6d3d9846fbcb2bbef7e381284129be63947a3fdc1970e0c30f4f", func := "smithy/smithylaw07.GraphNumbers", spec := "graphNumbers", inPlace := ["math.Float64frombits"], unfollowed := true, recurses := true, named := ["smithy/graph.forms"], apart := false, laid := [("smithy/graph.forms", laid_smithy_graph_forms)] }
def GraphNumbersSaid : Prop := graphNumbersRow.holds Tryd.pinned (OpenSpec.ofChange graphNumbersSpec)

/-- ITS FALSE NEIGHBOUR: 'it returns false'. Refute it at one input. -/
def graphNumbersWrong : ChangeSpec := { name := "graphNumbers", fn := fun _ => fun
  | [] => { results := [.lit (.bool false)], args := [] }
  | _ => none }
def GraphNumbersWrongFalsely : Prop := graphNumbersRow.holds Tryd.pinned (OpenSpec.ofChange graphNumbersWrong)

/-- 'smithylaw07.GraphTrimmed': WHATEVER THE INPUT: true; the input reads as it did. -/
def graphTrimmedSpec : ChangeSpec := { name := "graphTrimmed", fn := fun _ => fun
  | [d] => { results := [.lit (.bool true)], args := [d] }
  | _ => none }
def graphTrimmedRow : OpenClaim := { program := "ytfkakbipedafiaadoor", sum := "184a3d0ac29b6d3d9846fbcb2bbef7e381284129be63947a3fdc1970e0c30f4f", func := "smithy/smithylaw07.GraphTrimmed", spec := "graphTrimmed", inPlace := ["math.Float64frombits"], unfollowed := true, recurses := true, named := ["smithy/graph.forms"], apart := false, laid := [("smithy/graph.forms", laid_smithy_graph_forms)] }
def GraphTrimmedSaid : Prop := graphTrimmedRow.holds Tryd.pinned (OpenSpec.ofChange graphTrimmedSpec)

/-- ITS FALSE NEIGHBOUR: 'it returns false'. Refute it at one input. -/
def graphTrimmedWrong : ChangeSpec := { name := "graphTrimmed", fn := fun _ => fun
  | [d] => { results := [.lit (.bool false)], args := [d] }
  | _ => none }
def GraphTrimmedWrongFalsely : Prop := graphTrimmedRow.holds Tryd.pinned (OpenSpec.ofChange graphTrimmedWrong)

/- THE SECOND FORM. 'bulk': how many values and letters a reading holds, each counted each time it is reached (what is shared counts as often as it is met; a slice's spare places count too). A statement '..UptoSaid' is the law's where the arguments, and the package variables that the reading takes, are together of bulk at most 1048576: NARROWER than '..Said'. Prove '..Said' where nothing that the law and all that it calls make is longer than what came in: it says more and counts as full. Else prove '..UptoSaid'. A law counts once. -/
mutual
def uptoBulk {H : Type} : DataW H → Nat
  | .lit (.string bytes) => bytes.length + 1
  | .lit _ => 1
  | .nil => 1
  | .ptr d => uptoBulk d + 1
  | .slice elems spare => uptoBulkAll elems + uptoBulkAll spare + 1
  | .agg parts => uptoBulkAll parts + 1
  | .iface _ d => uptoBulk d + 1
  | .map entries => uptoBulkEntries entries + 1
  | .held _ => 1
def uptoBulkAll {H : Type} : List (DataW H) → Nat
  | [] => 0
  | d :: r => uptoBulk d + uptoBulkAll r
def uptoBulkEntries {H : Type} : List (Lit × DataW H) → Nat
  | [] => 0
  | x :: r => uptoBulkEntry x + uptoBulkEntries r
def uptoBulkEntry {H : Type} : Lit × DataW H → Nat
  | (.string bytes, d) => bytes.length + uptoBulk d + 1
  | (_, d) => uptoBulk d + 1
 end
def uptoSmall : (H : Type) → List (DataW H) → Bool := fun _ ds => decide (uptoBulkAll ds ≤ 1048576)
def OpenSpec.upto (s : _root_.Go.ChangeSpec) : _root_.Go.OpenSpec := { _root_.Go.OpenSpec.ofChange s with cond := some uptoSmall }

/-- 'smithylaw07.GraphChecks', WHERE WHAT IT READS IS OF BULK AT MOST 1048576: true; the input reads as it did. -/
def graphChecksUptoRow : OpenClaim := { program := "ytfkakbipedafiaadoor", sum := "184a3d0ac29b6d3d9846fbcb2bbef7e381284129be63947a3fdc1970e0c30f4f", func := "smithy/smithylaw07.GraphChecks", spec := "graphChecks", inPlace := ["math.Float64frombits"], unfollowed := true, recurses := true, named := ["smithy/graph.forms"], apart := false, laid := [("smithy/graph.forms", laid_smithy_graph_forms)], narrowed := true }
def GraphChecksUptoSaid : Prop := graphChecksUptoRow.holds Tryd.pinned (OpenSpec.upto graphChecksSpec)

/-- 'smithylaw07.GraphEdges', WHERE WHAT IT READS IS OF BULK AT MOST 1048576: true; the input reads as it did. -/
def graphEdgesUptoRow : OpenClaim := { program := "ytfkakbipedafiaadoor", sum := "184a3d0ac29b6d3d9846fbcb2bbef7e381284129be63947a3fdc1970e0c30f4f", func := "smithy/smithylaw07.GraphEdges", spec := "graphEdges", inPlace := ["math.Float64frombits"], unfollowed := true, recurses := true, named := ["smithy/graph.forms"], apart := false, laid := [("smithy/graph.forms", laid_smithy_graph_forms)], narrowed := true }
def GraphEdgesUptoSaid : Prop := graphEdgesUptoRow.holds Tryd.pinned (OpenSpec.upto graphEdgesSpec)

/-- 'smithylaw07.GraphShapes', WHERE WHAT IT READS IS OF BULK AT MOST 1048576: true; the input reads as it did. -/
def graphShapesUptoRow : OpenClaim := { program := "ytfkakbipedafiaadoor", sum := "184a3d0ac29b6d3d9846fbcb2bbef7e381284129be63947a3fdc1970e0c30f4f", func := "smithy/smithylaw07.GraphShapes", spec := "graphShapes", inPlace := ["math.Float64frombits"], unfollowed := true, recurses := true, named := ["smithy/graph.forms"], apart := false, laid := [("smithy/graph.forms", laid_smithy_graph_forms)], narrowed := true }
def GraphShapesUptoSaid : Prop := graphShapesUptoRow.holds Tryd.pinned (OpenSpec.upto graphShapesSpec)

/-- 'smithylaw07.GraphNumbers', WHERE WHAT IT READS IS OF BULK AT MOST 1048576: true; the input reads as it did. -/
def graphNumbersUptoRow : OpenClaim := { program := "ytfkakbipedafiaadoor", sum := "184a3d0ac29b6d3d9846fbcb2bbef7e381284129be63947a3fdc1970e0c30f4f", func := "smithy/smithylaw07.GraphNumbers", spec := "graphNumbers", inPlace := ["math.Float64frombits"], unfollowed := true, recurses := true, named := ["smithy/graph.forms"], apart := false, laid := [("smithy/graph.forms", laid_smithy_graph_forms)], narrowed := true }
def GraphNumbersUptoSaid : Prop := graphNumbersUptoRow.holds Tryd.pinned (OpenSpec.upto graphNumbersSpec)

/-- 'smithylaw07.GraphTrimmed', WHERE WHAT IT READS IS OF BULK AT MOST 1048576: true; the input reads as it did. -/
def graphTrimmedUptoRow : OpenClaim := { program := "ytfkakbipedafiaadoor", sum := "184a3d0ac29b6d3d9846fbcb2bbef7e381284129be63947a3fdc1970e0c30f4f", func := "smithy/smithylaw07.GraphTrimmed", spec := "graphTrimmed", inPlace := ["math.Float64frombits"], unfollowed := true, recurses := true, named := ["smithy/graph.forms"], apart := false, laid := [("smithy/graph.forms", laid_smithy_graph_forms)], narrowed := true }
def GraphTrimmedUptoSaid : Prop := graphTrimmedUptoRow.holds Tryd.pinned (OpenSpec.upto graphTrimmedSpec)

end Rows
end Go.Proofs.YtfkakbipedafiaaDoor
