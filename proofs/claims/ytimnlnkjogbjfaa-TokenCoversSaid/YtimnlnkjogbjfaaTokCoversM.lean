/- The statement of TokenCovers, of a row's arguments. -/
import Derived.Test.YtimnlnkjogbjfaaTokCoversL
namespace Go.Eng.Tok
open Go Go.Eng
set_option linter.unusedVariables false
theorem law_TokenCovers {B0 n0 : Nat} {u0 : V} (g0 : u0.isAg = agOf Go.Proofs.Try.prog 9) (w0 : WfT Go.Proofs.Try.prog B0 n0 9 u0.cells) : Fn T 6 [u0] [] (fun r h => r = .bool true) := by
  obtain ⟨s0, rfl, h0⟩ := WfT.str (by kernel_rfl) (by rw [g0]; decide +kernel) w0
  have e0 : s0.data.toList.length = s0.size := Array.length_toList
  exact tokCovers s0.data.toList (by rw [e0]; omega)
end Go.Eng.Tok
