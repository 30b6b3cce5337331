/- The statement of VmNil, of a row's arguments. -/
import Derived.Test.YtphkdodiphiijaaDoorVmnIr
import Derived.Test.YtphkdodiphiijaaDoorEngU
import Derived.Test.YtphkdodiphiijaaDoorEngQ
namespace Go.Eng.Vmn
open Go Go.Eng
set_option linter.unusedSectionVars false
set_option linter.unusedVariables false
set_option maxRecDepth 100000
theorem vmNil_yes (n : Int) : yes (exF T 60 4 [.int .i64 n] []) = true := by kernel_rfl
theorem law_VmNil {B0 n0 : Nat} {u0 : V} (g0 : u0.isAg = agOf Go.Proofs.Tryd.prog 3) (w0 : WfT Go.Proofs.Tryd.prog B0 n0 3 u0.cells) : Fn T 4 [u0] [] (fun r h => r = .bool true) := by
  obtain ⟨n, rfl, _⟩ := (dec_int (P := Go.Proofs.Tryd.prog) (t := 3) (k := .i64) (by kernel_rfl)).get g0 w0
  obtain ⟨h', hr⟩ := yes_spec (vmNil_yes n)
  exact ⟨60, _, h', hr, rfl⟩
end Go.Eng.Vmn
