/- A closed statement, reckoned piece by piece (lines written by a program of this session's; no condition). -/
import Derived.Test.YtphkdodiphiijaaDoorVmnNd
namespace Go.Eng.Vmn
open Go Go.Eng
set_option linter.unusedSectionVars false
set_option linter.unusedVariables false
set_option maxRecDepth 100000
theorem s3_17 : (exec (exF T 200) 200 i3n28 f3_16 g3_16).map (fun r => (r.1 == .nrm, clrEnv [0, 19, 20, 136, 137, 138, 139, 140, 141, 142, 143, 144, 145, 146, 147, 148, 149, 150, 151, 152, 153, 154, 155, 156, 157] r.2.1, r.2.2)) = some (true, f3_17, g3_17) := by kernel_rfl
end Go.Eng.Vmn
