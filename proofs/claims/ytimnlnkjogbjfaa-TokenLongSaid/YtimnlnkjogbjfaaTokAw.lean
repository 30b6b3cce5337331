/- The law's awake, by the kernel (no condition). -/
import Derived.Test.YtimnlnkjogbjfaaTokIr
import Derived.Test.YtimnlnkjogbjfaaEngU
namespace Go.Eng.Tok
open Go Go.Eng
theorem awake_yes : yes (exF T 200 10 [] []) = true := by decide +kernel
theorem awakeC (H : Heap) : PC T H 10 [] (.bool true) := PC.yes rfl awake_yes
end Go.Eng.Tok
