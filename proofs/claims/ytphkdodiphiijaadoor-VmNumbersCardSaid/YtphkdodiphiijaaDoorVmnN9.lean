/- A closed statement, reckoned piece by piece (lines written by a program of this session's; no condition). -/
import Derived.Test.YtphkdodiphiijaaDoorVmnNd
namespace Go.Eng.Vmn
open Go Go.Eng
set_option linter.unusedSectionVars false
set_option linter.unusedVariables false
set_option maxRecDepth 100000
theorem s3_26 : (exec (exF T 200) 200 (.rgn i3r60) f3_25 g3_25).map (fun r => (r.1 == .nrm, clrEnv [27, 28, 236, 237, 238, 239, 240, 241, 242, 243, 244, 245, 246, 247, 248, 249, 250, 251, 252, 253, 254, 255, 256] r.2.1, r.2.2)) = some (true, f3_26, g3_26) := by kernel_rfl
end Go.Eng.Vmn
