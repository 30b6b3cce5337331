/- The statement of TokenJoined, of a row's arguments. -/
import Derived.Test.YtimnlnkjogbjfaaTokJoinedL
import Derived.Test.YtimnlnkjogbjfaaEngQ
namespace Go.Eng.Tok
open Go Go.Eng
set_option linter.unusedVariables false
theorem law_TokenJoined {B0 B1 n0 n1 : Nat} {u0 u1 : V} (g0 : u0.isAg = agOf Go.Proofs.Try.prog 9) (w0 : WfT Go.Proofs.Try.prog B0 n0 9 u0.cells) (g1 : u1.isAg = agOf Go.Proofs.Try.prog 4) (w1 : WfT Go.Proofs.Try.prog B1 n1 4 u1.cells) : Fn T 7 [u0, u1] [] (fun r h => r = .bool true) := by
  obtain ⟨l, rfl, _⟩ := (dec_str (P := Go.Proofs.Try.prog) (t := 9) (by kernel_rfl)).get g0 w0
  obtain ⟨b, rfl, _⟩ := (dec_bool (P := Go.Proofs.Try.prog) (t := 4) (by kernel_rfl)).get g1 w1
  exact (w7 (tokJoined l b) HP.nil).mono fun v h hv => hv.1
end Go.Eng.Tok
