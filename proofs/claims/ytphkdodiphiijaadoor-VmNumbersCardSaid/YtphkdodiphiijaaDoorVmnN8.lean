/- A closed statement, reckoned piece by piece (lines written by a program of this session's; no condition). -/
import Derived.Test.YtphkdodiphiijaaDoorVmnNd
namespace Go.Eng.Vmn
open Go Go.Eng
set_option linter.unusedSectionVars false
set_option linter.unusedVariables false
set_option maxRecDepth 100000
theorem s3_25 : (exec (exF T 200) 200 (.rgn i3r59) f3_24 g3_21).map (fun r => (r.1 == .nrm, clrEnv [21, 231, 232, 233, 234, 235] r.2.1, r.2.2)) = some (true, f3_25, g3_25) := by kernel_rfl
end Go.Eng.Vmn
