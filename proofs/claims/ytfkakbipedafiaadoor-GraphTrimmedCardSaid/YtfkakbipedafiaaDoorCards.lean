/-
  DERIVED. GIVEN WITH THE SEED: THE CARDS: each row of YtfkakbipedafiaaDoorRows.lean that lists a variable, with what it lists TIED to the program's text (the seventh form; the later family's looks); each row that meets fmt, with fmt's text TOLD by the authors' own Lean function (tested against real Go, not proved from fmt's source: count such statements apart). THE CARD IS WHAT COUNTS. Prove the row's statement (the work); the ties are given (YtfkakbipedafiaaDoorTie.lean); close each card by the builder's one call (the guide's Derived/Test/ToyasCard.lean, 'card_holds'). Laid BY PROGRAM, IN A SANDBOX (cutbox-door.mjs). By AI agents, Wed Nov 11 2026. No macro, syntax, notation, axiom, sorry.
-/
import Derived.Test.YtfkakbipedafiaaDoorRows
import GoSem.ClaimSeven
namespace Go.Proofs.YtfkakbipedafiaaDoor
namespace Rows

/-- THE TIED CARD OF 'smithylaw07.GraphChecks'. -/
def graphChecksCard : Claim7 := { stood := { row := graphChecksRow, standIns := [], harness := (true, "39f2bc0137007fa2ebc5a760321a9653afb46018c3413890223f2d19d7f660e3"), looks := false }, kinds := [], alts := [], laidByText := true, laidKinds := [.data], laidTests := true, laidLooks := .later }
def GraphChecksCardSaid : Prop := Claim7.holds Tryd.pinned (.plain (OpenSpec.ofChange graphChecksSpec)) graphChecksCard

/-- THE TIED CARD OF 'smithylaw07.GraphEdges'. -/
def graphEdgesCard : Claim7 := { stood := { row := graphEdgesRow, standIns := [], harness := (true, "39f2bc0137007fa2ebc5a760321a9653afb46018c3413890223f2d19d7f660e3"), looks := false }, kinds := [], alts := [], laidByText := true, laidKinds := [.data], laidTests := true, laidLooks := .later }
def GraphEdgesCardSaid : Prop := Claim7.holds Tryd.pinned (.plain (OpenSpec.ofChange graphEdgesSpec)) graphEdgesCard

/-- THE TIED CARD OF 'smithylaw07.GraphShapes'. -/
def graphShapesCard : Claim7 := { stood := { row := graphShapesRow, standIns := [], harness := (true, "39f2bc0137007fa2ebc5a760321a9653afb46018c3413890223f2d19d7f660e3"), looks := false }, kinds := [], alts := [], laidByText := true, laidKinds := [.data], laidTests := true, laidLooks := .later }
def GraphShapesCardSaid : Prop := Claim7.holds Tryd.pinned (.plain (OpenSpec.ofChange graphShapesSpec)) graphShapesCard

/-- THE TIED CARD OF 'smithylaw07.GraphNumbers'. -/
def graphNumbersCard : Claim7 := { stood := { row := graphNumbersRow, standIns := [], harness := (true, "39f2bc0137007fa2ebc5a760321a9653afb46018c3413890223f2d19d7f660e3"), looks := false }, kinds := [], alts := [], laidByText := true, laidKinds := [.data], laidTests := true, laidLooks := .later }
def GraphNumbersCardSaid : Prop := Claim7.holds Tryd.pinned (.plain (OpenSpec.ofChange graphNumbersSpec)) graphNumbersCard

/-- THE TIED CARD OF 'smithylaw07.GraphTrimmed'. -/
def graphTrimmedCard : Claim7 := { stood := { row := graphTrimmedRow, standIns := [], harness := (true, "39f2bc0137007fa2ebc5a760321a9653afb46018c3413890223f2d19d7f660e3"), looks := false }, kinds := [], alts := [], laidByText := true, laidKinds := [.data], laidTests := true, laidLooks := .later }
def GraphTrimmedCardSaid : Prop := Claim7.holds Tryd.pinned (.plain (OpenSpec.ofChange graphTrimmedSpec)) graphTrimmedCard

/-- THE SECOND FORM's CARD OF 'smithylaw07.GraphChecks'. -/
def graphChecksUptoCard : Claim7 := { stood := { row := graphChecksUptoRow, standIns := [], harness := (true, "39f2bc0137007fa2ebc5a760321a9653afb46018c3413890223f2d19d7f660e3"), looks := false }, kinds := [], alts := [], laidByText := true, laidKinds := [.data], laidTests := true, laidLooks := .later }
def GraphChecksUptoCardSaid : Prop := Claim7.holds Tryd.pinned (.plain (OpenSpec.upto graphChecksSpec)) graphChecksUptoCard

/-- THE SECOND FORM's CARD OF 'smithylaw07.GraphEdges'. -/
def graphEdgesUptoCard : Claim7 := { stood := { row := graphEdgesUptoRow, standIns := [], harness := (true, "39f2bc0137007fa2ebc5a760321a9653afb46018c3413890223f2d19d7f660e3"), looks := false }, kinds := [], alts := [], laidByText := true, laidKinds := [.data], laidTests := true, laidLooks := .later }
def GraphEdgesUptoCardSaid : Prop := Claim7.holds Tryd.pinned (.plain (OpenSpec.upto graphEdgesSpec)) graphEdgesUptoCard

/-- THE SECOND FORM's CARD OF 'smithylaw07.GraphShapes'. -/
def graphShapesUptoCard : Claim7 := { stood := { row := graphShapesUptoRow, standIns := [], harness := (true, "39f2bc0137007fa2ebc5a760321a9653afb46018c3413890223f2d19d7f660e3"), looks := false }, kinds := [], alts := [], laidByText := true, laidKinds := [.data], laidTests := true, laidLooks := .later }
def GraphShapesUptoCardSaid : Prop := Claim7.holds Tryd.pinned (.plain (OpenSpec.upto graphShapesSpec)) graphShapesUptoCard

/-- THE SECOND FORM's CARD OF 'smithylaw07.GraphNumbers'. -/
def graphNumbersUptoCard : Claim7 := { stood := { row := graphNumbersUptoRow, standIns := [], harness := (true, "39f2bc0137007fa2ebc5a760321a9653afb46018c3413890223f2d19d7f660e3"), looks := false }, kinds := [], alts := [], laidByText := true, laidKinds := [.data], laidTests := true, laidLooks := .later }
def GraphNumbersUptoCardSaid : Prop := Claim7.holds Tryd.pinned (.plain (OpenSpec.upto graphNumbersSpec)) graphNumbersUptoCard

/-- THE SECOND FORM's CARD OF 'smithylaw07.GraphTrimmed'. -/
def graphTrimmedUptoCard : Claim7 := { stood := { row := graphTrimmedUptoRow, standIns := [], harness := (true, "39f2bc0137007fa2ebc5a760321a9653afb46018c3413890223f2d19d7f660e3"), looks := false }, kinds := [], alts := [], laidByText := true, laidKinds := [.data], laidTests := true, laidLooks := .later }
def GraphTrimmedUptoCardSaid : Prop := Claim7.holds Tryd.pinned (.plain (OpenSpec.upto graphTrimmedSpec)) graphTrimmedUptoCard
end Rows
end Go.Proofs.YtfkakbipedafiaaDoor
