/- A closed statement, reckoned piece by piece (lines written by a program of this session's; no condition). -/
import Derived.Test.YtphkdodiphiijaaDoorVmnNd
namespace Go.Eng.Vmn
open Go Go.Eng
set_option linter.unusedSectionVars false
set_option linter.unusedVariables false
set_option maxRecDepth 100000
theorem s3_18 : (exec (exF T 200) 200 (.rgn i3r29) f3_17 g3_17).map (fun r => (r.1 == .nrm, clrEnv [158, 159, 160, 161, 162, 163, 164, 165, 166, 167, 168, 169, 170, 171, 172, 173, 174, 175, 176, 177] r.2.1, r.2.2)) = some (true, f3_18, g3_17) := by kernel_rfl
theorem s3_19 : (exec (exF T 200) 200 (.rgn i3r30) f3_18 g3_17).map (fun r => (r.1 == .nrm, clrEnv [178, 179, 180, 181, 182] r.2.1, r.2.2)) = some (true, f3_19, g3_19) := by kernel_rfl
theorem s3_20 : (exec (exF T 200) 200 i3n35 f3_19 g3_19).map (fun r => (r.1 == .nrm, clrEnv [0, 23, 183, 184, 185, 186, 187, 188, 189] r.2.1, r.2.2)) = some (true, f3_20, g3_20) := by kernel_rfl
end Go.Eng.Vmn
