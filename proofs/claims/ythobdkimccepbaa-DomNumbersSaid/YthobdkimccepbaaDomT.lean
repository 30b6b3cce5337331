/- Functions of this seat, run on unknown values by the rules of the small machine (no condition beyond those stated). -/
import Derived.Test.YthobdkimccepbaaDomIr
namespace Go.Eng.Dom
open Go Go.Eng
theorem awake_yes : yes (exF T 100 9 [] []) = true := by decide +kernel
end Go.Eng.Dom
