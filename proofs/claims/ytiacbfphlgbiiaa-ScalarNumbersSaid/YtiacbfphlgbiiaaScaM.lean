/- Words of types, in plain numbers: the program's and the document's are one (no condition beyond those stated). -/
import Derived.Test.YtiacbfphlgbiiaaScaD
import Derived.Test.YtiacbfphlgbiiaaScaH
namespace Go.Eng.Sca
open Go Go.Eng
set_option linter.unusedVariables false
set_option linter.unusedSimpArgs false

def Wd (w : Int) : Prop := 0 ≤ w ∧ w < 18446744073709551616
theorem bits64 : IntKind.u64.bits = 64 := rfl
theorem ofI {w : Int} (h : Wd w) : (BitVec.ofInt IntKind.u64.bits w).toNat = w.toNat := by
  show (BitVec.ofInt 64 w).toNat = w.toNat
  rw [BitVec.toNat_ofInt]
  obtain ⟨h0, h1⟩ := h
  congr 1
  omega
theorem ofI_any (w : Int) : (BitVec.ofInt IntKind.u64.bits w).toNat = (w % 18446744073709551616).toNat := by
  show (BitVec.ofInt 64 w).toNat = _
  rw [BitVec.toNat_ofInt]; rfl
theorem mask {w : Int} (h : Wd w) (k : Nat) (m : Int) (hm : m = 2 ^ k - 1) (hk : k ≤ 63) :
    IntKind.u64.wrap ((BitVec.ofInt IntKind.u64.bits w &&& BitVec.ofInt IntKind.u64.bits m).toNat : Int) = w % 2 ^ k := by
  have h2 : (2 : Int) ^ k ≤ 2 ^ 63 := by
    have := Nat.pow_le_pow_right (show 0 < 2 by decide) hk
    exact_mod_cast this
  have h3 : (1 : Int) ≤ 2 ^ k := by
    have := Nat.pow_le_pow_right (show 0 < 2 by decide) (Nat.zero_le k)
    exact_mod_cast this
  have hmw : Wd m := ⟨by omega, by subst hm; omega⟩
  have e : (BitVec.ofInt IntKind.u64.bits w &&& BitVec.ofInt IntKind.u64.bits m).toNat = (w % 2 ^ k).toNat := by
    rw [BitVec.toNat_and, ofI h, ofI hmw]
    have e1 : m.toNat = 2 ^ k - 1 := by
      subst hm
      have : ((2 : Int) ^ k - 1) = ((2 ^ k - 1 : Nat) : Int) := by
        rw [Int.natCast_sub (Nat.one_le_two_pow)]; simp
      rw [this]; rfl
    rw [e1, Nat.and_two_pow_sub_one_eq_mod]
    obtain ⟨n, rfl⟩ := Int.eq_ofNat_of_zero_le h.1
    have : ((n : Int) % 2 ^ k) = ((n % 2 ^ k : Nat) : Int) := by simp
    rw [this]; rfl
  have h4 := Int.emod_nonneg w (show (2 : Int) ^ k ≠ 0 by omega)
  have h5 := Int.emod_lt_of_pos w (show (0 : Int) < 2 ^ k by omega)
  rw [e, IntKind.wrap_u64]
  omega
theorem tmodp {w : Int} (h : 0 ≤ w) (m : Int) : w.tmod m = w % m := Int.tmod_eq_emod_of_nonneg h
theorem tdivp {w : Int} (h : 0 ≤ w) (m : Int) : w.tdiv m = w / m := Int.tdiv_eq_ediv_of_nonneg h

theorem f13_14 {t w : Int} (h : Wd w) : f13 t w = f14 t w := by
  have h0 := h.1
  have h1 := h.2
  unfold f13 f14 f37
  rw [mask h 1 1 (by decide) (by decide), tmodp h0, tmodp h0, tmodp h0]
  simp only [IntKind.wrap_u64, IntKind.wrap_u8, IntKind.wrap_i64, IntKind.wrap_i32]
  repeat' split
  all_goals first | rfl | omega | (simp_all; done) | skip
  all_goals (simp_all; try omega)
theorem f14_nn {t w : Int} (h : Wd w) : Wd (f14 t w) := by
  obtain ⟨h0, h1⟩ := h
  unfold f14 Wd
  rw [tmodp h0, tmodp h0, tmodp h0]
  simp only [IntKind.wrap_u64]
  repeat' split
  all_goals omega
theorem f13_nn {t w : Int} (h : Wd w) : Wd (f13 t w) := by rw [f13_14 h]; exact f14_nn h
theorem f11_12 {t w : Int} (h : Wd w) : f11 t w = f12 t w := by unfold f11 f12; rw [f13_14 h]
theorem canon_eq (x : Option Nat) (h : ∀ b, x = some b → b < 18446744073709551616) : canon13 x = canon14 x := by
  cases x with
  | none => rfl
  | some b => have := h b rfl; exact f13_14 ⟨by omega, by omega⟩
end Go.Eng.Sca
