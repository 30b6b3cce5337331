/- The statement of ScalarOps in the small machine (no condition beyond those of its arguments). -/
import Derived.Test.YtiacbfphlgbiiaaScaL5
import Derived.Test.YtiacbfphlgbiiaaScaN
namespace Go.Eng.Sca
open Go Go.Eng
set_option linter.unusedVariables false
theorem wd_in {m : Int} (h0 : IntKind.u64.min ≤ m) (h1 : m ≤ IntKind.u64.max) : Wd m := by
  have e0 : IntKind.u64.min = 0 := by decide
  have e1 : IntKind.u64.max = 18446744073709551615 := by decide
  exact ⟨by omega, by omega⟩
theorem law_ScalarOps {B0 n0 : Nat} {u0 : V} (g0 : u0.isAg = agOf Go.Proofs.Try.prog 29) (w0 : WfT Go.Proofs.Try.prog B0 n0 29 u0.cells)
    {B1 n1 : Nat} {u1 : V} (g1 : u1.isAg = agOf Go.Proofs.Try.prog 22) (w1 : WfT Go.Proofs.Try.prog B1 n1 22 u1.cells)
    {B2 n2 : Nat} {u2 : V} (g2 : u2.isAg = agOf Go.Proofs.Try.prog 23) (w2 : WfT Go.Proofs.Try.prog B2 n2 23 u2.cells)
    {B3 n3 : Nat} {u3 : V} (g3 : u3.isAg = agOf Go.Proofs.Try.prog 23) (w3 : WfT Go.Proofs.Try.prog B3 n3 23 u3.cells) : Fn T 5 [u0, u1, u2, u3] [] (fun r h => r = .bool true) := by
  obtain ⟨op, rfl, _, _⟩ := WfT.int (k := .u8) (by kernel_rfl) (by rw [g0]; decide +kernel) w0
  obtain ⟨t, rfl, _, _⟩ := WfT.int (k := .u8) (by kernel_rfl) (by rw [g1]; decide +kernel) w1
  obtain ⟨a, rfl, a0, a1⟩ := WfT.int (k := .u64) (by kernel_rfl) (by rw [g2]; decide +kernel) w2
  obtain ⟨b, rfl, b0, b1⟩ := WfT.int (k := .u64) (by kernel_rfl) (by rw [g3]; decide +kernel) w3
  have ha := wd_in a0 a1
  have hb := wd_in b0 b1
  have ha' : Wd (f14 t a) := f14_nn ha
  have hb' : Wd (f14 t b) := f14_nn hb
  exact (w5 op t a b ha.1 hb.2 hb.1 ha.2 (by rw [of_eq]; simp) (by rw [of_eq]; simp) (by rw [two_eq op t ha hb]; simp) (by rw [two_eq op t ha hb]; simp)
    (by rw [one_eq op t ha]; simp) (by rw [one_eq op t ha]; simp) (by rw [stops_eq]; simp) (by rw [two_eq op t ha' hb']; simp) (by rw [two_eq op t ha' hb']; simp)
    (by rw [one_eq op t ha']; simp) (by rw [one_eq op t ha']; simp) (by rw [stops_eq]; simp) []).mono fun r h hr => hr.1
end Go.Eng.Sca
