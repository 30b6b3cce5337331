/- The statement of TokenLong, of a row's arguments. -/
import Derived.Test.YtimnlnkjogbjfaaTokLongL
import Derived.Test.YtimnlnkjogbjfaaEngQ
namespace Go.Eng.Tok
open Go Go.Eng
set_option linter.unusedVariables false
theorem law_TokenLong {B0 B1 n0 n1 : Nat} {u0 u1 : V} (g0 : u0.isAg = agOf Go.Proofs.Try.prog 3) (w0 : WfT Go.Proofs.Try.prog B0 n0 3 u0.cells) (g1 : u1.isAg = agOf Go.Proofs.Try.prog 5) (w1 : WfT Go.Proofs.Try.prog B1 n1 5 u1.cells) : Fn T 5 [u0, u1] [] (fun r h => r = .bool true) := by
  obtain ⟨m, rfl, _⟩ := (dec_int (P := Go.Proofs.Try.prog) (t := 3) (k := .i64) (by kernel_rfl)).get g0 w0
  obtain ⟨b, rfl, hb0, hb1⟩ := (dec_int (P := Go.Proofs.Try.prog) (t := 5) (k := .u8) (by kernel_rfl)).get g1 w1
  have e0 : IntKind.u8.min = 0 := by decide
  have e1 : IntKind.u8.max = 255 := by decide
  have hb : b = ((UInt8.ofNat b.toNat).toNat : Int) := by
    rw [UInt8.toNat_ofNat_of_lt' (by show b.toNat < 256; omega)]; omega
  rw [hb]
  exact (w5 (tokLong m _) HP.nil).mono fun v h hv => hv.1
end Go.Eng.Tok
