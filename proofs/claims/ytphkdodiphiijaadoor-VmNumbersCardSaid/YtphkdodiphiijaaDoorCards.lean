/-
  DERIVED. GIVEN WITH THE SEED: THE CARDS: each row of YtphkdodiphiijaaDoorRows.lean that lists a variable, with what it lists TIED to the program's text (the seventh form; the later family's looks); each row that meets fmt, with fmt's text TOLD by the authors' own Lean function (tested against real Go, not proved from fmt's source: count such statements apart). THE CARD IS WHAT COUNTS. Prove the row's statement (the work); the ties are given (YtphkdodiphiijaaDoorTie.lean); close each card by the builder's one call (the guide's Derived/Test/ToyasCard.lean, 'card_holds'). Laid BY PROGRAM, IN A SANDBOX (cutbox-door.mjs). By AI agents, Wed Nov 11 2026. No macro, syntax, notation, axiom, sorry.
-/
import Derived.Test.YtphkdodiphiijaaDoorRows
import GoSem.ClaimSeven
namespace Go.Proofs.YtphkdodiphiijaaDoor
namespace Rows

/-- THE TIED CARD OF 'smithylaw29.VmNumbers'. -/
def vmNumbersCard : Claim7 := { stood := { row := vmNumbersRow, standIns := [], harness := (true, "7ca4a040f3ba3234adae3fad0981edef3f1b80a43c6dc9e0f3a2019635778373"), looks := false }, kinds := [], alts := [], laidByText := true, laidKinds := [.data], laidTests := true, laidLooks := .later }
def VmNumbersCardSaid : Prop := Claim7.holds Tryd.pinned (.plain (OpenSpec.ofChange vmNumbersSpec)) vmNumbersCard

/-- THE TIED CARD OF 'smithylaw29.VmNil'. -/
def vmNilCard : Claim7 := { stood := { row := vmNilRow, standIns := [], harness := (true, "7ca4a040f3ba3234adae3fad0981edef3f1b80a43c6dc9e0f3a2019635778373"), looks := false }, kinds := [], alts := [], laidByText := true, laidKinds := [.data], laidTests := true, laidLooks := .later }
def VmNilCardSaid : Prop := Claim7.holds Tryd.pinned (.plain (OpenSpec.ofChange vmNilSpec)) vmNilCard

/-- THE SECOND FORM's CARD OF 'smithylaw29.VmNumbers'. -/
def vmNumbersUptoCard : Claim7 := { stood := { row := vmNumbersUptoRow, standIns := [], harness := (true, "7ca4a040f3ba3234adae3fad0981edef3f1b80a43c6dc9e0f3a2019635778373"), looks := false }, kinds := [], alts := [], laidByText := true, laidKinds := [.data], laidTests := true, laidLooks := .later }
def VmNumbersUptoCardSaid : Prop := Claim7.holds Tryd.pinned (.plain (OpenSpec.upto vmNumbersSpec)) vmNumbersUptoCard

/-- THE SECOND FORM's CARD OF 'smithylaw29.VmNil'. -/
def vmNilUptoCard : Claim7 := { stood := { row := vmNilUptoRow, standIns := [], harness := (true, "7ca4a040f3ba3234adae3fad0981edef3f1b80a43c6dc9e0f3a2019635778373"), looks := false }, kinds := [], alts := [], laidByText := true, laidKinds := [.data], laidTests := true, laidLooks := .later }
def VmNilUptoCardSaid : Prop := Claim7.holds Tryd.pinned (.plain (OpenSpec.upto vmNilSpec)) vmNilUptoCard
end Rows
end Go.Proofs.YtphkdodiphiijaaDoor
