/-
  No cell of these rows narrows 'for every input' (looked for: loops, veiled, ifaces, maps, wideKeys, modest, calm, conditions, laid).
  DERIVED. THE GIVEN ROWS OF THIS SEAT. 8 by the template 'for every input the law returns true; each argument reads behind the call as it read before'; 0 by the template 'total and deterministic' (their statements: YtiacbfphlgbiiaaTotals.lean).
  GIVEN WITH THE SEED: the statements are not yours to turn. If you find one false, say at which input.
  Laid BY PROGRAM, IN A SANDBOX (cutbox-rows.mjs): the forced cells as the released guide's own fill.sh prints them over the translation caec58c486cac606… (all of the seat's roots in one cut). By AI agents, Wed Nov 11 2026. No macro, syntax, notation, axiom, sorry.
-/
import Derived.Test.YtiacbfphlgbiiaaChecked
import GoSem.Claim
import GoSem.ClaimJoined
import GoSem.ClaimMapViews
import Derived.JoinedTies
import Derived.KernelRfl
namespace Go.Proofs.Ytiacbfphlgbiiaa
/- THE CELL 'sum', in the pinned program and in every row, IS THE sha256 OF THE DUMP (.gsa) THAT YtiacbfphlgbiiaaProg.lean LOADS. Nothing in Lean hashes anything: it is a label: what it is worth is what the hold of that sum in a sandbox is worth. -/
noncomputable def Try.pinned : Pinned := { name := "ytiacbfphlgbiiaa", sum := "caec58c486cac606f0fdefee05b6b5263ba590301a7a6b08bcffb9e500387be8", checked := Try.checked }
namespace Rows
def none {H : Type} : Left H := { results := [], args := [] }

/-- 'smithylaw01.ScalarWords': WHATEVER THE INPUT: true; the input reads as it did. -/
def scalarWordsSpec : ChangeSpec := { name := "scalarWords", fn := fun _ => fun
  | [d1, d2] => { results := [.lit (.bool true)], args := [d1, d2] }
  | _ => none }
def scalarWordsRow : OpenClaim := { program := "ytiacbfphlgbiiaa", sum := "caec58c486cac606f0fdefee05b6b5263ba590301a7a6b08bcffb9e500387be8", func := "smithy/smithylaw01.ScalarWords", spec := "scalarWords", inPlace := ["math.Float64frombits", "math.Float64bits", "math.archTrunc"], apart := false }
def ScalarWordsSaid : Prop := scalarWordsRow.holds Try.pinned (OpenSpec.ofChange scalarWordsSpec)

/-- ITS FALSE NEIGHBOUR: 'it returns false'. Refute it at one input. -/
def scalarWordsWrong : ChangeSpec := { name := "scalarWords", fn := fun _ => fun
  | [d1, d2] => { results := [.lit (.bool false)], args := [d1, d2] }
  | _ => none }
def ScalarWordsWrongFalsely : Prop := scalarWordsRow.holds Try.pinned (OpenSpec.ofChange scalarWordsWrong)

/-- 'smithylaw01.ScalarOrder': WHATEVER THE INPUT: true; the input reads as it did. -/
def scalarOrderSpec : ChangeSpec := { name := "scalarOrder", fn := fun _ => fun
  | [d1, d2, d3] => { results := [.lit (.bool true)], args := [d1, d2, d3] }
  | _ => none }
def scalarOrderRow : OpenClaim := { program := "ytiacbfphlgbiiaa", sum := "caec58c486cac606f0fdefee05b6b5263ba590301a7a6b08bcffb9e500387be8", func := "smithy/smithylaw01.ScalarOrder", spec := "scalarOrder", inPlace := ["math.Float64frombits", "math.Float64bits", "math.archTrunc"], apart := false }
def ScalarOrderSaid : Prop := scalarOrderRow.holds Try.pinned (OpenSpec.ofChange scalarOrderSpec)

/-- ITS FALSE NEIGHBOUR: 'it returns false'. Refute it at one input. -/
def scalarOrderWrong : ChangeSpec := { name := "scalarOrder", fn := fun _ => fun
  | [d1, d2, d3] => { results := [.lit (.bool false)], args := [d1, d2, d3] }
  | _ => none }
def ScalarOrderWrongFalsely : Prop := scalarOrderRow.holds Try.pinned (OpenSpec.ofChange scalarOrderWrong)

/-- 'smithylaw01.ScalarOps': WHATEVER THE INPUT: true; the input reads as it did. -/
def scalarOpsSpec : ChangeSpec := { name := "scalarOps", fn := fun _ => fun
  | [d1, d2, d3, d4] => { results := [.lit (.bool true)], args := [d1, d2, d3, d4] }
  | _ => none }
def scalarOpsRow : OpenClaim := { program := "ytiacbfphlgbiiaa", sum := "caec58c486cac606f0fdefee05b6b5263ba590301a7a6b08bcffb9e500387be8", func := "smithy/smithylaw01.ScalarOps", spec := "scalarOps", inPlace := ["math.Float64frombits", "math.Float64bits", "math.archTrunc"], apart := false }
def ScalarOpsSaid : Prop := scalarOpsRow.holds Try.pinned (OpenSpec.ofChange scalarOpsSpec)

/-- ITS FALSE NEIGHBOUR: 'it returns false'. Refute it at one input. -/
def scalarOpsWrong : ChangeSpec := { name := "scalarOps", fn := fun _ => fun
  | [d1, d2, d3, d4] => { results := [.lit (.bool false)], args := [d1, d2, d3, d4] }
  | _ => none }
def ScalarOpsWrongFalsely : Prop := scalarOpsRow.holds Try.pinned (OpenSpec.ofChange scalarOpsWrong)

/-- 'smithylaw01.ScalarRing': WHATEVER THE INPUT: true; the input reads as it did. -/
def scalarRingSpec : ChangeSpec := { name := "scalarRing", fn := fun _ => fun
  | [d1, d2, d3, d4] => { results := [.lit (.bool true)], args := [d1, d2, d3, d4] }
  | _ => none }
def scalarRingRow : OpenClaim := { program := "ytiacbfphlgbiiaa", sum := "caec58c486cac606f0fdefee05b6b5263ba590301a7a6b08bcffb9e500387be8", func := "smithy/smithylaw01.ScalarRing", spec := "scalarRing", inPlace := ["math.Float64frombits", "math.Float64bits", "math.archTrunc"], apart := false }
def ScalarRingSaid : Prop := scalarRingRow.holds Try.pinned (OpenSpec.ofChange scalarRingSpec)

/-- ITS FALSE NEIGHBOUR: 'it returns false'. Refute it at one input. -/
def scalarRingWrong : ChangeSpec := { name := "scalarRing", fn := fun _ => fun
  | [d1, d2, d3, d4] => { results := [.lit (.bool false)], args := [d1, d2, d3, d4] }
  | _ => none }
def ScalarRingWrongFalsely : Prop := scalarRingRow.holds Try.pinned (OpenSpec.ofChange scalarRingWrong)

/-- 'smithylaw01.ScalarTurned': WHATEVER THE INPUT: true; the input reads as it did. -/
def scalarTurnedSpec : ChangeSpec := { name := "scalarTurned", fn := fun _ => fun
  | [d1, d2] => { results := [.lit (.bool true)], args := [d1, d2] }
  | _ => none }
def scalarTurnedRow : OpenClaim := { program := "ytiacbfphlgbiiaa", sum := "caec58c486cac606f0fdefee05b6b5263ba590301a7a6b08bcffb9e500387be8", func := "smithy/smithylaw01.ScalarTurned", spec := "scalarTurned", inPlace := ["math.Float64frombits", "math.Float64bits", "math.archTrunc"], apart := false }
def ScalarTurnedSaid : Prop := scalarTurnedRow.holds Try.pinned (OpenSpec.ofChange scalarTurnedSpec)

/-- ITS FALSE NEIGHBOUR: 'it returns false'. Refute it at one input. -/
def scalarTurnedWrong : ChangeSpec := { name := "scalarTurned", fn := fun _ => fun
  | [d1, d2] => { results := [.lit (.bool false)], args := [d1, d2] }
  | _ => none }
def ScalarTurnedWrongFalsely : Prop := scalarTurnedRow.holds Try.pinned (OpenSpec.ofChange scalarTurnedWrong)

/-- 'smithylaw01.ScalarShifts': WHATEVER THE INPUT: true; the input reads as it did. -/
def scalarShiftsSpec : ChangeSpec := { name := "scalarShifts", fn := fun _ => fun
  | [d1, d2, d3] => { results := [.lit (.bool true)], args := [d1, d2, d3] }
  | _ => none }
def scalarShiftsRow : OpenClaim := { program := "ytiacbfphlgbiiaa", sum := "caec58c486cac606f0fdefee05b6b5263ba590301a7a6b08bcffb9e500387be8", func := "smithy/smithylaw01.ScalarShifts", spec := "scalarShifts", inPlace := ["math.Float64frombits", "math.Float64bits", "math.archTrunc"], apart := false }
def ScalarShiftsSaid : Prop := scalarShiftsRow.holds Try.pinned (OpenSpec.ofChange scalarShiftsSpec)

/-- ITS FALSE NEIGHBOUR: 'it returns false'. Refute it at one input. -/
def scalarShiftsWrong : ChangeSpec := { name := "scalarShifts", fn := fun _ => fun
  | [d1, d2, d3] => { results := [.lit (.bool false)], args := [d1, d2, d3] }
  | _ => none }
def ScalarShiftsWrongFalsely : Prop := scalarShiftsRow.holds Try.pinned (OpenSpec.ofChange scalarShiftsWrong)

/-- 'smithylaw01.ScalarTurns': WHATEVER THE INPUT: true; the input reads as it did. -/
def scalarTurnsSpec : ChangeSpec := { name := "scalarTurns", fn := fun _ => fun
  | [d1, d2, d3] => { results := [.lit (.bool true)], args := [d1, d2, d3] }
  | _ => none }
def scalarTurnsRow : OpenClaim := { program := "ytiacbfphlgbiiaa", sum := "caec58c486cac606f0fdefee05b6b5263ba590301a7a6b08bcffb9e500387be8", func := "smithy/smithylaw01.ScalarTurns", spec := "scalarTurns", inPlace := ["math.Float64frombits", "math.archTrunc", "math.Float64bits"], apart := false }
def ScalarTurnsSaid : Prop := scalarTurnsRow.holds Try.pinned (OpenSpec.ofChange scalarTurnsSpec)

/-- ITS FALSE NEIGHBOUR: 'it returns false'. Refute it at one input. -/
def scalarTurnsWrong : ChangeSpec := { name := "scalarTurns", fn := fun _ => fun
  | [d1, d2, d3] => { results := [.lit (.bool false)], args := [d1, d2, d3] }
  | _ => none }
def ScalarTurnsWrongFalsely : Prop := scalarTurnsRow.holds Try.pinned (OpenSpec.ofChange scalarTurnsWrong)

/-- 'smithylaw01.ScalarNumbers': WHATEVER THE INPUT: true; the input reads as it did. -/
def scalarNumbersSpec : ChangeSpec := { name := "scalarNumbers", fn := fun _ => fun
  | [] => { results := [.lit (.bool true)], args := [] }
  | _ => none }
def scalarNumbersRow : OpenClaim := { program := "ytiacbfphlgbiiaa", sum := "caec58c486cac606f0fdefee05b6b5263ba590301a7a6b08bcffb9e500387be8", func := "smithy/smithylaw01.ScalarNumbers", spec := "scalarNumbers", inPlace := ["math.Float64bits", "math.Float64frombits", "math.archTrunc"], apart := false }
def ScalarNumbersSaid : Prop := scalarNumbersRow.holds Try.pinned (OpenSpec.ofChange scalarNumbersSpec)

/-- ITS FALSE NEIGHBOUR: 'it returns false'. Refute it at one input. -/
def scalarNumbersWrong : ChangeSpec := { name := "scalarNumbers", fn := fun _ => fun
  | [] => { results := [.lit (.bool false)], args := [] }
  | _ => none }
def ScalarNumbersWrongFalsely : Prop := scalarNumbersRow.holds Try.pinned (OpenSpec.ofChange scalarNumbersWrong)

/- THE SECOND FORM. 'bulk': how many values and letters a reading holds, each counted each time it is reached (what is shared counts as often as it is met; a slice's spare places count too). A statement '..UptoSaid' is the law's where the arguments, and the package variables that the reading takes, are together of bulk at most 1048576: NARROWER than '..Said'. Prove '..Said' where nothing that the law and all that it calls make is longer than what came in: it says more and counts as full. Else prove '..UptoSaid'. A law counts once. -/
mutual
def uptoBulk {H : Type} : DataW H → Nat
  | .lit (.string bytes) => bytes.length + 1
  | .lit _ => 1
  | .nil => 1
  | .ptr d => uptoBulk d + 1
  | .slice elems spare => uptoBulkAll elems + uptoBulkAll spare + 1
  | .agg parts => uptoBulkAll parts + 1
  | .iface _ d => uptoBulk d + 1
  | .map entries => uptoBulkEntries entries + 1
  | .held _ => 1
def uptoBulkAll {H : Type} : List (DataW H) → Nat
  | [] => 0
  | d :: r => uptoBulk d + uptoBulkAll r
def uptoBulkEntries {H : Type} : List (Lit × DataW H) → Nat
  | [] => 0
  | x :: r => uptoBulkEntry x + uptoBulkEntries r
def uptoBulkEntry {H : Type} : Lit × DataW H → Nat
  | (.string bytes, d) => bytes.length + uptoBulk d + 1
  | (_, d) => uptoBulk d + 1
 end
def uptoSmall : (H : Type) → List (DataW H) → Bool := fun _ ds => decide (uptoBulkAll ds ≤ 1048576)
def OpenSpec.upto (s : _root_.Go.ChangeSpec) : _root_.Go.OpenSpec := { _root_.Go.OpenSpec.ofChange s with cond := some uptoSmall }

/-- 'smithylaw01.ScalarWords', WHERE WHAT IT READS IS OF BULK AT MOST 1048576: true; the input reads as it did. -/
def scalarWordsUptoRow : OpenClaim := { program := "ytiacbfphlgbiiaa", sum := "caec58c486cac606f0fdefee05b6b5263ba590301a7a6b08bcffb9e500387be8", func := "smithy/smithylaw01.ScalarWords", spec := "scalarWords", inPlace := ["math.Float64frombits", "math.Float64bits", "math.archTrunc"], apart := false, narrowed := true }
def ScalarWordsUptoSaid : Prop := scalarWordsUptoRow.holds Try.pinned (OpenSpec.upto scalarWordsSpec)

/-- 'smithylaw01.ScalarOrder', WHERE WHAT IT READS IS OF BULK AT MOST 1048576: true; the input reads as it did. -/
def scalarOrderUptoRow : OpenClaim := { program := "ytiacbfphlgbiiaa", sum := "caec58c486cac606f0fdefee05b6b5263ba590301a7a6b08bcffb9e500387be8", func := "smithy/smithylaw01.ScalarOrder", spec := "scalarOrder", inPlace := ["math.Float64frombits", "math.Float64bits", "math.archTrunc"], apart := false, narrowed := true }
def ScalarOrderUptoSaid : Prop := scalarOrderUptoRow.holds Try.pinned (OpenSpec.upto scalarOrderSpec)

/-- 'smithylaw01.ScalarOps', WHERE WHAT IT READS IS OF BULK AT MOST 1048576: true; the input reads as it did. -/
def scalarOpsUptoRow : OpenClaim := { program := "ytiacbfphlgbiiaa", sum := "caec58c486cac606f0fdefee05b6b5263ba590301a7a6b08bcffb9e500387be8", func := "smithy/smithylaw01.ScalarOps", spec := "scalarOps", inPlace := ["math.Float64frombits", "math.Float64bits", "math.archTrunc"], apart := false, narrowed := true }
def ScalarOpsUptoSaid : Prop := scalarOpsUptoRow.holds Try.pinned (OpenSpec.upto scalarOpsSpec)

/-- 'smithylaw01.ScalarRing', WHERE WHAT IT READS IS OF BULK AT MOST 1048576: true; the input reads as it did. -/
def scalarRingUptoRow : OpenClaim := { program := "ytiacbfphlgbiiaa", sum := "caec58c486cac606f0fdefee05b6b5263ba590301a7a6b08bcffb9e500387be8", func := "smithy/smithylaw01.ScalarRing", spec := "scalarRing", inPlace := ["math.Float64frombits", "math.Float64bits", "math.archTrunc"], apart := false, narrowed := true }
def ScalarRingUptoSaid : Prop := scalarRingUptoRow.holds Try.pinned (OpenSpec.upto scalarRingSpec)

/-- 'smithylaw01.ScalarTurned', WHERE WHAT IT READS IS OF BULK AT MOST 1048576: true; the input reads as it did. -/
def scalarTurnedUptoRow : OpenClaim := { program := "ytiacbfphlgbiiaa", sum := "caec58c486cac606f0fdefee05b6b5263ba590301a7a6b08bcffb9e500387be8", func := "smithy/smithylaw01.ScalarTurned", spec := "scalarTurned", inPlace := ["math.Float64frombits", "math.Float64bits", "math.archTrunc"], apart := false, narrowed := true }
def ScalarTurnedUptoSaid : Prop := scalarTurnedUptoRow.holds Try.pinned (OpenSpec.upto scalarTurnedSpec)

/-- 'smithylaw01.ScalarShifts', WHERE WHAT IT READS IS OF BULK AT MOST 1048576: true; the input reads as it did. -/
def scalarShiftsUptoRow : OpenClaim := { program := "ytiacbfphlgbiiaa", sum := "caec58c486cac606f0fdefee05b6b5263ba590301a7a6b08bcffb9e500387be8", func := "smithy/smithylaw01.ScalarShifts", spec := "scalarShifts", inPlace := ["math.Float64frombits", "math.Float64bits", "math.archTrunc"], apart := false, narrowed := true }
def ScalarShiftsUptoSaid : Prop := scalarShiftsUptoRow.holds Try.pinned (OpenSpec.upto scalarShiftsSpec)

/-- 'smithylaw01.ScalarTurns', WHERE WHAT IT READS IS OF BULK AT MOST 1048576: true; the input reads as it did. -/
def scalarTurnsUptoRow : OpenClaim := { program := "ytiacbfphlgbiiaa", sum := "caec58c486cac606f0fdefee05b6b5263ba590301a7a6b08bcffb9e500387be8", func := "smithy/smithylaw01.ScalarTurns", spec := "scalarTurns", inPlace := ["math.Float64frombits", "math.archTrunc", "math.Float64bits"], apart := false, narrowed := true }
def ScalarTurnsUptoSaid : Prop := scalarTurnsUptoRow.holds Try.pinned (OpenSpec.upto scalarTurnsSpec)

/-- 'smithylaw01.ScalarNumbers', WHERE WHAT IT READS IS OF BULK AT MOST 1048576: true; the input reads as it did. -/
def scalarNumbersUptoRow : OpenClaim := { program := "ytiacbfphlgbiiaa", sum := "caec58c486cac606f0fdefee05b6b5263ba590301a7a6b08bcffb9e500387be8", func := "smithy/smithylaw01.ScalarNumbers", spec := "scalarNumbers", inPlace := ["math.Float64bits", "math.Float64frombits", "math.archTrunc"], apart := false, narrowed := true }
def ScalarNumbersUptoSaid : Prop := scalarNumbersUptoRow.holds Try.pinned (OpenSpec.upto scalarNumbersSpec)

end Rows
end Go.Proofs.Ytiacbfphlgbiiaa
