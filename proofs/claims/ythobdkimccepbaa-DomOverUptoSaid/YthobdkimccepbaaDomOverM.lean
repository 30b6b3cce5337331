/- Functions of this seat, run on unknown values by the rules of the small machine (no condition beyond those stated). -/
import Derived.Test.YthobdkimccepbaaDomOverL
namespace Go.Eng.Dom
open Go Go.Eng DomMath
set_option linter.unusedVariables false
set_option linter.unusedSimpArgs false
theorem law_DomOver {B0 B1 B2 B3 n0 n1 n2 n3 : Nat} {u0 u1 u2 u3 : V} (hB : B0 ≤ 1048576) (g0 : u0.isAg = agOf Go.Proofs.Try.prog 22) (w0 : WfT Go.Proofs.Try.prog B0 n0 22 u0.cells) (g1 : u1.isAg = agOf Go.Proofs.Try.prog 3) (w1 : WfT Go.Proofs.Try.prog B1 n1 3 u1.cells)
    (g2 : u2.isAg = agOf Go.Proofs.Try.prog 3) (w2 : WfT Go.Proofs.Try.prog B2 n2 3 u2.cells) (g3 : u3.isAg = agOf Go.Proofs.Try.prog 3) (w3 : WfT Go.Proofs.Try.prog B3 n3 3 u3.cells) : Fn T 6 [u0, u1, u2, u3] [] (fun r h => r = .bool true) := by
  obtain ⟨l, rfl, h1, h2⟩ := WfT.rows (k := .i64) (e := 25) (i := 3) (by kernel_rfl) (by kernel_rfl) (by kernel_rfl) (by rw [g0]; decide +kernel) w0
  obtain ⟨a, rfl, _⟩ := WfT.int (k := .i64) (by kernel_rfl) (by rw [g1]; decide +kernel) w1
  obtain ⟨b, rfl, _⟩ := WfT.int (k := .i64) (by kernel_rfl) (by rw [g2]; decide +kernel) w2
  obtain ⟨c, rfl, _⟩ := WfT.int (k := .i64) (by kernel_rfl) (by rw [g3]; decide +kernel) w3
  exact domOver (rows_of l) ⟨by omega, fun r hr => by have := (h2 r hr).1; omega⟩ a b c
end Go.Eng.Dom
