/- A closed statement, reckoned piece by piece (lines written by a program of this session's; no condition). -/
import Derived.Test.YtphkdodiphiijaaDoorVmnNd
namespace Go.Eng.Vmn
open Go Go.Eng
set_option linter.unusedSectionVars false
set_option linter.unusedVariables false
set_option maxRecDepth 100000
theorem s3_15 : (exec (exF T 200) 200 (.rgn i3r22) f3_14 g3_14).map (fun r => (r.1 == .nrm, clrEnv [127, 128, 129] r.2.1, r.2.2)) = some (true, f3_15, g3_15) := by kernel_rfl
theorem s3_16 : (exec (exF T 200) 200 (.rgn i3r23) f3_15 g3_15).map (fun r => (r.1 == .nrm, clrEnv [1, 130, 131, 132, 133, 134, 135] r.2.1, r.2.2)) = some (true, f3_16, g3_16) := by kernel_rfl
end Go.Eng.Vmn
