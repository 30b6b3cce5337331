/- The statement of GraphEdges, of a row's arguments. -/
import Derived.Test.YtfkakbipedafiaaDoorGreE3
import Derived.Test.YtfkakbipedafiaaDoorGreDec
namespace Go.Eng.Gra
open Go Go.Eng
set_option linter.unusedSectionVars false
set_option linter.unusedVariables false
theorem sz_of {B n : Nat} (h : n ≤ min B 140737488355328) : n ≤ 140737488355328 := Nat.le_trans h (Nat.min_le_right _ _)
theorem szG_of {B : Nat} {g : T_Graph} (h : Q_Graph B g) : SzG g := by
  obtain ⟨_, h1, _, h2, h3, h4⟩ := h
  refine ⟨sz_of h1.1, sz_of h2.1, sz_of h3.1, sz_of h4.1, fun b hb => sz_of (h4.2 b hb).1.1, fun b hb x hx => ?_, fun b hb x hx => ?_⟩
  · obtain ⟨_, _, _, h5, _⟩ := (h4.2 b hb).1.2 x hx
    exact sz_of h5.1
  · obtain ⟨_, _, _, _, h5, _⟩ := (h4.2 b hb).1.2 x hx
    have e0 : IntKind.u64.min = 0 := by decide
    have e1 : IntKind.u64.max = 18446744073709551615 := by decide
    have h6 : IntKind.u64.min ≤ x.fBits ∧ x.fBits ≤ IntKind.u64.max := h5
    omega
theorem law_GraphEdges {B0 n0 : Nat} {u0 : V} (g0 : u0.isAg = agOf Go.Proofs.Tryd.prog 34) (w0 : WfT Go.Proofs.Tryd.prog B0 n0 34 u0.cells) : Fn T 4 [u0] [] (fun r h => r = .bool true) := by
  obtain ⟨g, rfl, h1⟩ := dec34.get g0 w0
  exact (w4 (edges g (szG_of h1)) HP.nil).mono fun v h hv => hv.1
end Go.Eng.Gra
