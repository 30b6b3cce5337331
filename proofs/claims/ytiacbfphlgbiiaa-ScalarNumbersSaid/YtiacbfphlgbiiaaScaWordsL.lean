/- The statement of ScalarWords in the small machine (no condition beyond those of its arguments). -/
import Derived.Test.YtiacbfphlgbiiaaScaL3
import Derived.Test.YtiacbfphlgbiiaaScaM
namespace Go.Eng.Sca
open Go Go.Eng
theorem wd_of {m : Int} (h0 : IntKind.u64.min ≤ m) (h1 : m ≤ IntKind.u64.max) : Wd m := by
  have e0 : IntKind.u64.min = 0 := by decide
  have e1 : IntKind.u64.max = 18446744073709551615 := by decide
  exact ⟨by omega, by omega⟩
theorem law_ScalarWords {B0 n0 : Nat} {u0 : V} (g0 : u0.isAg = agOf Go.Proofs.Try.prog 22) (w0 : WfT Go.Proofs.Try.prog B0 n0 22 u0.cells)
    {B1 n1 : Nat} {u1 : V} (g1 : u1.isAg = agOf Go.Proofs.Try.prog 23) (w1 : WfT Go.Proofs.Try.prog B1 n1 23 u1.cells) : Fn T 3 [u0, u1] [] (fun r h => r = .bool true) := by
  obtain ⟨t, rfl, t0, t1⟩ := WfT.int (k := .u8) (by kernel_rfl) (by rw [g0]; decide +kernel) w0
  obtain ⟨w, rfl, a0, a1⟩ := WfT.int (k := .u64) (by kernel_rfl) (by rw [g1]; decide +kernel) w1
  have h := wd_of a0 a1
  exact (w3 t w (by rw [f11_12 h]; simp) (by rw [f13_14 h]; simp) []).mono fun r h hr => hr.1
end Go.Eng.Sca
