/- A closed statement, reckoned piece by piece (lines written by a program of this session's; no condition). -/
import Derived.Test.YtphkdodiphiijaaDoorVmnNd
namespace Go.Eng.Vmn
open Go Go.Eng
set_option linter.unusedSectionVars false
set_option linter.unusedVariables false
set_option maxRecDepth 100000
theorem z3 : (exec (exF T 200) 200 .ret f3_26 g3_26).bind (fun r => if r.1 == .ret || r.1 == .nrm then some (resV i3.res r.2.1) else none) = some (.bool true) := by kernel_rfl
end Go.Eng.Vmn
