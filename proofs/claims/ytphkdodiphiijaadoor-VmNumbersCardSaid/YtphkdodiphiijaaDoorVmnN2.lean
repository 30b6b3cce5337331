/- A closed statement, reckoned piece by piece (lines written by a program of this session's; no condition). -/
import Derived.Test.YtphkdodiphiijaaDoorVmnNd
namespace Go.Eng.Vmn
open Go Go.Eng
set_option linter.unusedSectionVars false
set_option linter.unusedVariables false
set_option maxRecDepth 100000
theorem s3_8 : (exec (exF T 200) 200 (.rgn i3r7) f3_7 g3_2).map (fun r => (r.1 == .nrm, clrEnv [12, 59, 60, 61, 62, 63] r.2.1, r.2.2)) = some (true, f3_8, g3_8) := by kernel_rfl
theorem s3_9 : (exec (exF T 200) 200 (.rgn i3r8) f3_8 g3_8).map (fun r => (r.1 == .nrm, clrEnv [64] r.2.1, r.2.2)) = some (true, f3_9, g3_9) := by kernel_rfl
theorem s3_10 : (exec (exF T 200) 200 (.rgn i3r9) f3_9 g3_9).map (fun r => (r.1 == .nrm, clrEnv [65, 66, 67, 68, 69] r.2.1, r.2.2)) = some (true, f3_10, g3_10) := by kernel_rfl
theorem s3_11 : (exec (exF T 200) 200 (.rgn i3r10) f3_10 g3_10).map (fun r => (r.1 == .nrm, clrEnv [14, 15, 70, 71, 72, 73, 74, 75] r.2.1, r.2.2)) = some (true, f3_11, g3_10) := by kernel_rfl
theorem s3_12 : (exec (exF T 200) 200 i3n15 f3_11 g3_10).map (fun r => (r.1 == .nrm, clrEnv [0, 3, 5, 7, 9, 11, 13, 16, 76, 77, 78, 79, 80, 81, 82, 83, 84, 85, 86, 87, 88, 89, 90, 91, 92, 93, 94, 95, 96, 97, 98, 99, 100, 101] r.2.1, r.2.2)) = some (true, f3_12, g3_10) := by kernel_rfl
theorem s3_13 : (exec (exF T 200) 200 (.rgn i3r16) f3_12 g3_10).map (fun r => (r.1 == .nrm, clrEnv [102, 103, 104, 105, 106, 107] r.2.1, r.2.2)) = some (true, f3_13, g3_13) := by kernel_rfl
theorem s3_14 : (exec (exF T 200) 200 i3n21 f3_13 g3_13).map (fun r => (r.1 == .nrm, clrEnv [0, 17, 18, 108, 109, 110, 111, 112, 113, 114, 115, 116, 117, 118, 119, 120, 121, 122, 123, 124, 125, 126] r.2.1, r.2.2)) = some (true, f3_14, g3_14) := by kernel_rfl
end Go.Eng.Vmn
