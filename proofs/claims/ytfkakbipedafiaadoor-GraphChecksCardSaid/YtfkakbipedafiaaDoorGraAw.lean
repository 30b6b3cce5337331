/- The law's awake, by the kernel over the plain functions (no condition). -/
import Derived.Test.YtfkakbipedafiaaDoorGagF
namespace Go.Eng.Gra
open Go Go.Eng
set_option linter.unusedVariables false
set_option linter.unusedSimpArgs false
set_option linter.unusedSectionVars false
theorem awake9 : F9 = some true := by kernel_rfl
end Go.Eng.Gra
