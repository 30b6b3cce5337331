/-
  NARROWER THAN 'FOR EVERY INPUT', by the rows' own cells (each row's printed sentence says how): CodeSounds: laid · CodePuts: laid · CodeNumbers: laid · CodeBack: laid · CodeSame: laid.
  DERIVED. THE GIVEN ROWS OF THIS SEAT. 5 by the template 'for every input the law returns true; each argument reads behind the call as it read before'; 0 by the template 'total and deterministic' (their statements: YthpbodnnbjdnlaaDoorTotals.lean).
  GIVEN WITH THE SEED: the statements are not yours to turn. If you find one false, say at which input.
  Laid BY PROGRAM, IN A SANDBOX (cutbox-rows.mjs): the forced cells as the released guide's own fill.sh prints them over the translation 5fa406841dadcad3… (all of the seat's roots in one cut). By AI agents, Wed Nov 11 2026. No macro, syntax, notation, axiom, sorry.
-/
import Derived.Test.YthpbodnnbjdnlaaDoorChecked
import GoSem.Claim
import GoSem.ClaimJoined
import GoSem.ClaimMapViews
import Derived.JoinedTies
import Derived.KernelRfl
namespace Go.Proofs.YthpbodnnbjdnlaaDoor
/- THE CELL 'sum', in the pinned program and in every row, IS THE sha256 OF THE DUMP (.gsa) THAT YthpbodnnbjdnlaaDoorProg.lean LOADS. Nothing in Lean hashes anything: it is a label: what it is worth is what the hold of that sum in a sandbox is worth. -/
noncomputable def Tryd.pinned : Pinned := { name := "ythpbodnnbjdnlaadoor", sum := "5fa406841dadcad3d4e5ec28a22572d015e0a8388e0ec14c1e77b035a15c4d77", checked := Tryd.checked }
namespace Rows
def none {H : Type} : Left H := { results := [], args := [] }

/- WHAT THE LISTED PACKAGE-LEVEL VARIABLES READ AS WHEN THE CALL BEGINS. Each datum BY PROGRAM (the guide's laid-datum.mjs) off the statement by which the dump's own 'gosem.cut.vars' lays the variable. In a bare row this is a premise. The card (YthpbodnnbjdnlaaDoorCards.lean) ties it to the program's text. -/
def laid_smithy_code_forms {H : Type} : DataW H := .agg [.agg [.lit (.int .u8 0), .lit (.int .u8 0), .lit (.int .u8 0), .lit (.bool false), .lit (.bool false), .lit (.bool false), .lit (.bool false), .lit (.bool false), .lit (.bool false)], .agg [.lit (.int .u8 1), .lit (.int .u8 0), .lit (.int .u8 0), .lit (.bool false), .lit (.bool false), .lit (.bool false), .lit (.bool false), .lit (.bool true), .lit (.bool false)], .agg [.lit (.int .u8 1), .lit (.int .u8 1), .lit (.int .u8 0), .lit (.bool false), .lit (.bool false), .lit (.bool false), .lit (.bool false), .lit (.bool false), .lit (.bool false)], .agg [.lit (.int .u8 1), .lit (.int .u8 1), .lit (.int .u8 7), .lit (.bool true), .lit (.bool true), .lit (.bool false), .lit (.bool false), .lit (.bool false), .lit (.bool false)], .agg [.lit (.int .u8 1), .lit (.int .u8 1), .lit (.int .u8 0), .lit (.bool false), .lit (.bool true), .lit (.bool true), .lit (.bool false), .lit (.bool false), .lit (.bool false)], .agg [.lit (.int .u8 1), .lit (.int .u8 2), .lit (.int .u8 0), .lit (.bool false), .lit (.bool false), .lit (.bool false), .lit (.bool false), .lit (.bool false), .lit (.bool false)], .agg [.lit (.int .u8 2), .lit (.int .u8 1), .lit (.int .u8 0), .lit (.bool false), .lit (.bool false), .lit (.bool false), .lit (.bool false), .lit (.bool false), .lit (.bool false)], .agg [.lit (.int .u8 1), .lit (.int .u8 1), .lit (.int .u8 0), .lit (.bool false), .lit (.bool false), .lit (.bool false), .lit (.bool false), .lit (.bool false), .lit (.bool true)], .agg [.lit (.int .u8 1), .lit (.int .u8 1), .lit (.int .u8 0), .lit (.bool false), .lit (.bool false), .lit (.bool false), .lit (.bool false), .lit (.bool false), .lit (.bool true)], .agg [.lit (.int .u8 0), .lit (.int .u8 0), .lit (.int .u8 0), .lit (.bool false), .lit (.bool false), .lit (.bool false), .lit (.bool false), .lit (.bool false), .lit (.bool true)], .agg [.lit (.int .u8 1), .lit (.int .u8 4), .lit (.int .u8 0), .lit (.bool false), .lit (.bool false), .lit (.bool false), .lit (.bool false), .lit (.bool false), .lit (.bool false)], .agg [.lit (.int .u8 5), .lit (.int .u8 1), .lit (.int .u8 0), .lit (.bool false), .lit (.bool false), .lit (.bool false), .lit (.bool false), .lit (.bool false), .lit (.bool false)], .agg [.lit (.int .u8 6), .lit (.int .u8 0), .lit (.int .u8 0), .lit (.bool false), .lit (.bool false), .lit (.bool false), .lit (.bool false), .lit (.bool false), .lit (.bool false)], .agg [.lit (.int .u8 1), .lit (.int .u8 0), .lit (.int .u8 0), .lit (.bool false), .lit (.bool true), .lit (.bool false), .lit (.bool false), .lit (.bool false), .lit (.bool false)], .agg [.lit (.int .u8 3), .lit (.int .u8 0), .lit (.int .u8 0), .lit (.bool false), .lit (.bool false), .lit (.bool false), .lit (.bool false), .lit (.bool false), .lit (.bool false)], .agg [.lit (.int .u8 1), .lit (.int .u8 3), .lit (.int .u8 3), .lit (.bool false), .lit (.bool false), .lit (.bool false), .lit (.bool false), .lit (.bool false), .lit (.bool false)], .agg [.lit (.int .u8 1), .lit (.int .u8 0), .lit (.int .u8 0), .lit (.bool false), .lit (.bool false), .lit (.bool false), .lit (.bool false), .lit (.bool false), .lit (.bool false)], .agg [.lit (.int .u8 0), .lit (.int .u8 0), .lit (.int .u8 0), .lit (.bool false), .lit (.bool false), .lit (.bool false), .lit (.bool true), .lit (.bool false), .lit (.bool false)]]

/-- 'smithylaw28.CodeSounds': WHATEVER THE INPUT: true; the input reads as it did. -/
def codeSoundsSpec : ChangeSpec := { name := "codeSounds", fn := fun _ => fun
  | [d1, d2] => { results := [.lit (.bool true)], args := [d1, d2] }
  | _ => none }
def codeSoundsRow : OpenClaim := { program := "ythpbodnnbjdnlaadoor", sum := "5fa406841dadcad3d4e5ec28a22572d015e0a8388e0ec14c1e77b035a15c4d77", func := "smithy/smithylaw28.CodeSounds", spec := "codeSounds", unfollowed := true, recurses := true, named := ["smithy/code.forms"], apart := false, laid := [("smithy/code.forms", laid_smithy_code_forms)] }
def CodeSoundsSaid : Prop := codeSoundsRow.holds Tryd.pinned (OpenSpec.ofChange codeSoundsSpec)

/-- ITS FALSE NEIGHBOUR: 'it returns false'. Refute it at one input. -/
def codeSoundsWrong : ChangeSpec := { name := "codeSounds", fn := fun _ => fun
  | [d1, d2] => { results := [.lit (.bool false)], args := [d1, d2] }
  | _ => none }
def CodeSoundsWrongFalsely : Prop := codeSoundsRow.holds Tryd.pinned (OpenSpec.ofChange codeSoundsWrong)

/-- 'smithylaw28.CodePuts': WHATEVER THE INPUT: true; the input reads as it did. -/
def codePutsSpec : ChangeSpec := { name := "codePuts", fn := fun _ => fun
  | [d1, d2] => { results := [.lit (.bool true)], args := [d1, d2] }
  | _ => none }
def codePutsRow : OpenClaim := { program := "ythpbodnnbjdnlaadoor", sum := "5fa406841dadcad3d4e5ec28a22572d015e0a8388e0ec14c1e77b035a15c4d77", func := "smithy/smithylaw28.CodePuts", spec := "codePuts", unfollowed := true, recurses := true, named := ["smithy/code.forms"], apart := false, laid := [("smithy/code.forms", laid_smithy_code_forms)] }
def CodePutsSaid : Prop := codePutsRow.holds Tryd.pinned (OpenSpec.ofChange codePutsSpec)

/-- ITS FALSE NEIGHBOUR: 'it returns false'. Refute it at one input. -/
def codePutsWrong : ChangeSpec := { name := "codePuts", fn := fun _ => fun
  | [d1, d2] => { results := [.lit (.bool false)], args := [d1, d2] }
  | _ => none }
def CodePutsWrongFalsely : Prop := codePutsRow.holds Tryd.pinned (OpenSpec.ofChange codePutsWrong)

/-- 'smithylaw28.CodeNumbers': WHATEVER THE INPUT: true; the input reads as it did. -/
def codeNumbersSpec : ChangeSpec := { name := "codeNumbers", fn := fun _ => fun
  | [] => { results := [.lit (.bool true)], args := [] }
  | _ => none }
def codeNumbersRow : OpenClaim := { program := "ythpbodnnbjdnlaadoor", sum := "5fa406841dadcad3d4e5ec28a22572d015e0a8388e0ec14c1e77b035a15c4d77", func := "smithy/smithylaw28.CodeNumbers", spec := "codeNumbers", unfollowed := true, recurses := true, named := ["smithy/code.forms"], apart := false, laid := [("smithy/code.forms", laid_smithy_code_forms)] }
def CodeNumbersSaid : Prop := codeNumbersRow.holds Tryd.pinned (OpenSpec.ofChange codeNumbersSpec)

/-- ITS FALSE NEIGHBOUR: 'it returns false'. Refute it at one input. -/
def codeNumbersWrong : ChangeSpec := { name := "codeNumbers", fn := fun _ => fun
  | [] => { results := [.lit (.bool false)], args := [] }
  | _ => none }
def CodeNumbersWrongFalsely : Prop := codeNumbersRow.holds Tryd.pinned (OpenSpec.ofChange codeNumbersWrong)

/-- 'smithylaw28.CodeBack': WHATEVER THE INPUT: true; the input reads as it did. -/
def codeBackSpec : ChangeSpec := { name := "codeBack", fn := fun _ => fun
  | [d1, d2, d3, d4] => { results := [.lit (.bool true)], args := [d1, d2, d3, d4] }
  | _ => none }
def codeBackRow : OpenClaim := { program := "ythpbodnnbjdnlaadoor", sum := "5fa406841dadcad3d4e5ec28a22572d015e0a8388e0ec14c1e77b035a15c4d77", func := "smithy/smithylaw28.CodeBack", spec := "codeBack", unfollowed := true, recurses := true, named := ["smithy/code.forms"], apart := false, laid := [("smithy/code.forms", laid_smithy_code_forms)] }
def CodeBackSaid : Prop := codeBackRow.holds Tryd.pinned (OpenSpec.ofChange codeBackSpec)

/-- ITS FALSE NEIGHBOUR: 'it returns false'. Refute it at one input. -/
def codeBackWrong : ChangeSpec := { name := "codeBack", fn := fun _ => fun
  | [d1, d2, d3, d4] => { results := [.lit (.bool false)], args := [d1, d2, d3, d4] }
  | _ => none }
def CodeBackWrongFalsely : Prop := codeBackRow.holds Tryd.pinned (OpenSpec.ofChange codeBackWrong)

/-- 'smithylaw28.CodeSame': WHATEVER THE INPUT: true; the input reads as it did. -/
def codeSameSpec : ChangeSpec := { name := "codeSame", fn := fun _ => fun
  | [d1, d2, d3, d4] => { results := [.lit (.bool true)], args := [d1, d2, d3, d4] }
  | _ => none }
def codeSameRow : OpenClaim := { program := "ythpbodnnbjdnlaadoor", sum := "5fa406841dadcad3d4e5ec28a22572d015e0a8388e0ec14c1e77b035a15c4d77", func := "smithy/smithylaw28.CodeSame", spec := "codeSame", unfollowed := true, recurses := true, named := ["smithy/code.forms"], apart := false, laid := [("smithy/code.forms", laid_smithy_code_forms)] }
def CodeSameSaid : Prop := codeSameRow.holds Tryd.pinned (OpenSpec.ofChange codeSameSpec)

/-- ITS FALSE NEIGHBOUR: 'it returns false'. Refute it at one input. -/
def codeSameWrong : ChangeSpec := { name := "codeSame", fn := fun _ => fun
  | [d1, d2, d3, d4] => { results := [.lit (.bool false)], args := [d1, d2, d3, d4] }
  | _ => none }
def CodeSameWrongFalsely : Prop := codeSameRow.holds Tryd.pinned (OpenSpec.ofChange codeSameWrong)

/- THE SECOND FORM. 'bulk': how many values and letters a reading holds, each counted each time it is reached (what is shared counts as often as it is met; a slice's spare places count too). A statement '..UptoSaid' is the law's where the arguments, and the package variables that the reading takes, are together of bulk at most 1048576: NARROWER than '..Said'. Prove '..Said' where nothing that the law and all that it calls make is longer than what came in: it says more and counts as full. Else prove '..UptoSaid'. A law counts once. -/
mutual
def uptoBulk {H : Type} : DataW H → Nat
  | .lit (.string bytes) => bytes.length + 1
  | .lit _ => 1
  | .nil => 1
  | .ptr d => uptoBulk d + 1
  | .slice elems spare => uptoBulkAll elems + uptoBulkAll spare + 1
  | .agg parts => uptoBulkAll parts + 1
  | .iface _ d => uptoBulk d + 1
  | .map entries => uptoBulkEntries entries + 1
  | .held _ => 1
def uptoBulkAll {H : Type} : List (DataW H) → Nat
  | [] => 0
  | d :: r => uptoBulk d + uptoBulkAll r
def uptoBulkEntries {H : Type} : List (Lit × DataW H) → Nat
  | [] => 0
  | x :: r => uptoBulkEntry x + uptoBulkEntries r
def uptoBulkEntry {H : Type} : Lit × DataW H → Nat
  | (.string bytes, d) => bytes.length + uptoBulk d + 1
  | (_, d) => uptoBulk d + 1
 end
def uptoSmall : (H : Type) → List (DataW H) → Bool := fun _ ds => decide (uptoBulkAll ds ≤ 1048576)
def OpenSpec.upto (s : _root_.Go.ChangeSpec) : _root_.Go.OpenSpec := { _root_.Go.OpenSpec.ofChange s with cond := some uptoSmall }

/-- 'smithylaw28.CodeSounds', WHERE WHAT IT READS IS OF BULK AT MOST 1048576: true; the input reads as it did. -/
def codeSoundsUptoRow : OpenClaim := { program := "ythpbodnnbjdnlaadoor", sum := "5fa406841dadcad3d4e5ec28a22572d015e0a8388e0ec14c1e77b035a15c4d77", func := "smithy/smithylaw28.CodeSounds", spec := "codeSounds", unfollowed := true, recurses := true, named := ["smithy/code.forms"], apart := false, laid := [("smithy/code.forms", laid_smithy_code_forms)], narrowed := true }
def CodeSoundsUptoSaid : Prop := codeSoundsUptoRow.holds Tryd.pinned (OpenSpec.upto codeSoundsSpec)

/-- 'smithylaw28.CodePuts', WHERE WHAT IT READS IS OF BULK AT MOST 1048576: true; the input reads as it did. -/
def codePutsUptoRow : OpenClaim := { program := "ythpbodnnbjdnlaadoor", sum := "5fa406841dadcad3d4e5ec28a22572d015e0a8388e0ec14c1e77b035a15c4d77", func := "smithy/smithylaw28.CodePuts", spec := "codePuts", unfollowed := true, recurses := true, named := ["smithy/code.forms"], apart := false, laid := [("smithy/code.forms", laid_smithy_code_forms)], narrowed := true }
def CodePutsUptoSaid : Prop := codePutsUptoRow.holds Tryd.pinned (OpenSpec.upto codePutsSpec)

/-- 'smithylaw28.CodeNumbers', WHERE WHAT IT READS IS OF BULK AT MOST 1048576: true; the input reads as it did. -/
def codeNumbersUptoRow : OpenClaim := { program := "ythpbodnnbjdnlaadoor", sum := "5fa406841dadcad3d4e5ec28a22572d015e0a8388e0ec14c1e77b035a15c4d77", func := "smithy/smithylaw28.CodeNumbers", spec := "codeNumbers", unfollowed := true, recurses := true, named := ["smithy/code.forms"], apart := false, laid := [("smithy/code.forms", laid_smithy_code_forms)], narrowed := true }
def CodeNumbersUptoSaid : Prop := codeNumbersUptoRow.holds Tryd.pinned (OpenSpec.upto codeNumbersSpec)

/-- 'smithylaw28.CodeBack', WHERE WHAT IT READS IS OF BULK AT MOST 1048576: true; the input reads as it did. -/
def codeBackUptoRow : OpenClaim := { program := "ythpbodnnbjdnlaadoor", sum := "5fa406841dadcad3d4e5ec28a22572d015e0a8388e0ec14c1e77b035a15c4d77", func := "smithy/smithylaw28.CodeBack", spec := "codeBack", unfollowed := true, recurses := true, named := ["smithy/code.forms"], apart := false, laid := [("smithy/code.forms", laid_smithy_code_forms)], narrowed := true }
def CodeBackUptoSaid : Prop := codeBackUptoRow.holds Tryd.pinned (OpenSpec.upto codeBackSpec)

/-- 'smithylaw28.CodeSame', WHERE WHAT IT READS IS OF BULK AT MOST 1048576: true; the input reads as it did. -/
def codeSameUptoRow : OpenClaim := { program := "ythpbodnnbjdnlaadoor", sum := "5fa406841dadcad3d4e5ec28a22572d015e0a8388e0ec14c1e77b035a15c4d77", func := "smithy/smithylaw28.CodeSame", spec := "codeSame", unfollowed := true, recurses := true, named := ["smithy/code.forms"], apart := false, laid := [("smithy/code.forms", laid_smithy_code_forms)], narrowed := true }
def CodeSameUptoSaid : Prop := codeSameUptoRow.holds Tryd.pinned (OpenSpec.upto codeSameSpec)

end Rows
end Go.Proofs.YthpbodnnbjdnlaaDoor
