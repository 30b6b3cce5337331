/- A closed statement, reckoned piece by piece (lines written by a program of this session's; no condition). -/
import Derived.Test.YtphkdodiphiijaaDoorVmnNd
namespace Go.Eng.Vmn
open Go Go.Eng
set_option linter.unusedSectionVars false
set_option linter.unusedVariables false
set_option maxRecDepth 100000
theorem s3_24 : (exec (exF T 200) 200 i3n58 f3_23 g3_21).map (fun r => (r.1 == .nrm, clrEnv [0, 24, 25, 26, 214, 215, 216, 217, 218, 219, 220, 221, 222, 223, 224, 225, 226, 227, 228, 229, 230] r.2.1, r.2.2)) = some (true, f3_24, g3_21) := by kernel_rfl
end Go.Eng.Vmn
