/- The statement of GraphChecks, of a row's arguments. -/
import Derived.Test.YtfkakbipedafiaaDoorGraP9
import Derived.Test.YtfkakbipedafiaaDoorGraDec
namespace Go.Eng.Gra
open Go Go.Eng
set_option linter.unusedSectionVars false
set_option linter.unusedVariables false
theorem sz_of {B n : Nat} (h : n ≤ min B 140737488355328) : n ≤ 140737488355328 := Nat.le_trans h (Nat.min_le_right _ _)
theorem szG_of {B : Nat} {g : T_Graph} (h : Q_Graph B g) : SzG g := by
  obtain ⟨_, h1, _, h2, h3, h4⟩ := h
  refine ⟨sz_of h1.1, sz_of h2.1, sz_of h3.1, sz_of h4.1, fun b hb => sz_of (h4.2 b hb).1.1, fun b hb x hx => ?_, fun b hb x hx => ?_⟩
  · obtain ⟨_, _, _, h5, _⟩ := (h4.2 b hb).1.2 x hx
    exact sz_of h5.1
  · obtain ⟨_, _, _, _, h5, _⟩ := (h4.2 b hb).1.2 x hx
    have e0 : IntKind.u64.min = 0 := by decide
    have e1 : IntKind.u64.max = 18446744073709551615 := by decide
    have h6 : IntKind.u64.min ≤ x.fBits ∧ x.fBits ≤ IntKind.u64.max := h5
    omega
theorem law_GraphChecks {B0 n0 : Nat} {u0 : V} (g0 : u0.isAg = agOf Go.Proofs.Tryd.prog 22) (w0 : WfT Go.Proofs.Tryd.prog B0 n0 22 u0.cells) : Fn T 3 [u0] [] (fun r h => r = .bool true) := by
  obtain ⟨p, rfl, h1, h2⟩ := dec22.get g0 w0
  exact (w3 (checks p (sz_of h1) (fun g hg => szG_of (h2 g hg))) HP.nil).mono fun v h hv => hv.1
end Go.Eng.Gra
