/- A closed statement, reckoned piece by piece (lines written by a program of this session's; no condition). -/
import Derived.Test.YtphkdodiphiijaaDoorVmnNd
namespace Go.Eng.Vmn
open Go Go.Eng
set_option linter.unusedSectionVars false
set_option linter.unusedVariables false
set_option maxRecDepth 100000
theorem s3_1 : (exec (exF T 200) 200 (.rgn i3r0) f3_0 g3_0).map (fun r => (r.1 == .nrm, clrEnv [0] r.2.1, r.2.2)) = some (true, f3_1, g3_0) := by kernel_rfl
theorem s3_2 : (exec (exF T 200) 200 (.rgn i3r1) f3_1 g3_0).map (fun r => (r.1 == .nrm, clrEnv [29] r.2.1, r.2.2)) = some (true, f3_2, g3_2) := by kernel_rfl
theorem s3_3 : (exec (exF T 200) 200 (.rgn i3r2) f3_2 g3_2).map (fun r => (r.1 == .nrm, clrEnv [2, 30, 31, 32, 33, 34] r.2.1, r.2.2)) = some (true, f3_3, g3_2) := by kernel_rfl
theorem s3_4 : (exec (exF T 200) 200 (.rgn i3r3) f3_3 g3_2).map (fun r => (r.1 == .nrm, clrEnv [4, 35, 36, 37, 38, 39, 40] r.2.1, r.2.2)) = some (true, f3_4, g3_2) := by kernel_rfl
theorem s3_5 : (exec (exF T 200) 200 (.rgn i3r4) f3_4 g3_2).map (fun r => (r.1 == .nrm, clrEnv [6, 41, 42, 43, 44, 45, 46] r.2.1, r.2.2)) = some (true, f3_5, g3_2) := by kernel_rfl
theorem s3_6 : (exec (exF T 200) 200 (.rgn i3r5) f3_5 g3_2).map (fun r => (r.1 == .nrm, clrEnv [8, 47, 48, 49, 50, 51, 52] r.2.1, r.2.2)) = some (true, f3_6, g3_2) := by kernel_rfl
theorem s3_7 : (exec (exF T 200) 200 (.rgn i3r6) f3_6 g3_2).map (fun r => (r.1 == .nrm, clrEnv [10, 53, 54, 55, 56, 57, 58] r.2.1, r.2.2)) = some (true, f3_7, g3_2) := by kernel_rfl
end Go.Eng.Vmn
