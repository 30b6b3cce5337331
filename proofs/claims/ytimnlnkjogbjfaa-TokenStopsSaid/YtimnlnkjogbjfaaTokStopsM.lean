/- The statement of TokenStops, of a row's arguments. -/
import Derived.Test.YtimnlnkjogbjfaaTokStopsL
namespace Go.Eng.Tok
open Go Go.Eng
set_option linter.unusedVariables false
theorem law_TokenStops {B0 B1 n0 n1 : Nat} {u0 u1 : V} (g0 : u0.isAg = agOf Go.Proofs.Try.prog 9) (w0 : WfT Go.Proofs.Try.prog B0 n0 9 u0.cells) (g1 : u1.isAg = agOf Go.Proofs.Try.prog 9) (w1 : WfT Go.Proofs.Try.prog B1 n1 9 u1.cells) : Fn T 8 [u0, u1] [] (fun r h => r = .bool true) := by
  obtain ⟨s0, rfl, h0⟩ := WfT.str (by kernel_rfl) (by rw [g0]; decide +kernel) w0
  obtain ⟨s1, rfl, h1⟩ := WfT.str (by kernel_rfl) (by rw [g1]; decide +kernel) w1
  have e0 : s0.data.toList.length = s0.size := Array.length_toList
  have e1 : s1.data.toList.length = s1.size := Array.length_toList
  exact tokStops s0.data.toList s1.data.toList (by rw [e0]; omega) (by rw [e1]; omega)
end Go.Eng.Tok
