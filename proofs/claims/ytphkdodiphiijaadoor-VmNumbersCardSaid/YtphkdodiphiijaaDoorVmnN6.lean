/- A closed statement, reckoned piece by piece (lines written by a program of this session's; no condition). -/
import Derived.Test.YtphkdodiphiijaaDoorVmnNd
namespace Go.Eng.Vmn
open Go Go.Eng
set_option linter.unusedSectionVars false
set_option linter.unusedVariables false
set_option maxRecDepth 100000
theorem s3_21 : (exec (exF T 200) 200 (.rgn i3r36) f3_20 g3_20).map (fun r => (r.1 == .nrm, clrEnv [22, 190, 191] r.2.1, r.2.2)) = some (true, f3_21, g3_21) := by kernel_rfl
theorem s3_22 : (exec (exF T 200) 200 (.rgn i3r37) f3_21 g3_21).map (fun r => (r.1 == .nrm, clrEnv [192] r.2.1, r.2.2)) = some (true, f3_22, g3_21) := by kernel_rfl
theorem s3_23 : (exec (exF T 200) 200 i3n42 f3_22 g3_21).map (fun r => (r.1 == .nrm, clrEnv [0, 193, 194, 195, 196, 197, 198, 199, 200, 201, 202, 203, 204, 205, 206, 207, 208, 209, 210, 211, 212, 213] r.2.1, r.2.2)) = some (true, f3_23, g3_21) := by kernel_rfl
end Go.Eng.Vmn
