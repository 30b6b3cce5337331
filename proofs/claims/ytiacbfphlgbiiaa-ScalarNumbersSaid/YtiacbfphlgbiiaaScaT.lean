/- Functions of this seat, run on unknown values by the rules of the small machine (no condition beyond those stated). -/
import Derived.Test.YtiacbfphlgbiiaaScaIr
import Derived.Test.YtiacbfphlgbiiaaEngR
import Derived.Test.YtiacbfphlgbiiaaEngU
namespace Go.Eng.Sca
open Go Go.Eng
theorem awake_yes : yes (exF T 100 15 [] []) = true := by decide +kernel
theorem awakeY (H : Heap) : PC T H 15 [] (.bool true) := PC.yes rfl awake_yes
end Go.Eng.Sca
