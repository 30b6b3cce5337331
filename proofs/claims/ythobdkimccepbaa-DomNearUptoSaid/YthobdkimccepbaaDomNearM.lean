/- Functions of this seat, run on unknown values by the rules of the small machine (no condition beyond those stated). -/
import Derived.Test.YthobdkimccepbaaDomNearL
namespace Go.Eng.Dom
open Go Go.Eng DomMath
set_option linter.unusedVariables false
set_option linter.unusedSimpArgs false
theorem law_DomNear {B0 n0 : Nat} {u0 : V} (hB : B0 ≤ 1048576) (g0 : u0.isAg = agOf Go.Proofs.Try.prog 22) (w0 : WfT Go.Proofs.Try.prog B0 n0 22 u0.cells) : Fn T 7 [u0] [] (fun r h => r = .bool true) := by
  obtain ⟨l, rfl, h1, h2⟩ := WfT.rows (k := .i64) (e := 25) (i := 3) (by kernel_rfl) (by kernel_rfl) (by kernel_rfl) (by rw [g0]; decide +kernel) w0
  exact domNear (rows_of l) ⟨by omega, fun r hr => by have := (h2 r hr).1; omega⟩
end Go.Eng.Dom
