/- Whole numbers of a type, in plain numbers (no condition beyond those stated). -/
import Derived.Test.YtiacbfphlgbiiaaScaI
import Derived.Test.YtiacbfphlgbiiaaScaN
namespace Go.Eng.Sca
open Go Go.Eng
set_option linter.unusedVariables false
set_option linter.unusedSimpArgs false
set_option maxRecDepth 20000
set_option maxHeartbeats 4000000

def Wh (t : Int) : Prop := t = 2 ∨ t = 3 ∨ t = 4
def Mt (t : Int) : Int := if t = 2 then 256 else if t = 3 then 4294967296 else 18446744073709551616
def lo (t : Int) : Int := if t = 2 then 0 else if t = 3 then -2147483648 else -9223372036854775808
def hi (t : Int) : Int := if t = 2 then 256 else if t = 3 then 2147483648 else 9223372036854775808
/-- a number as a word of a type -/
def enc (t z : Int) : Int := if t = 2 then z % 256 else if t = 3 then ((z + 2147483648) % 4294967296 - 2147483648) % 18446744073709551616 else z % 18446744073709551616
theorem f16_wh {k : Int} (h : 0 ≤ k ∧ k ≤ 255) : Wh (f16 k) := by
  unfold f16 Wh
  rw [tmodp h.1, IntKind.wrap_u8]; omega
theorem f13_enc {t : Int} (ht : Wh t) (z : Int) : f13 t (IntKind.u64.wrap z) = enc t z := by
  rcases ht with rfl | rfl | rfl
  · show IntKind.u64.wrap (IntKind.u8.wrap (IntKind.u64.wrap z)) = z % 256
    simp only [IntKind.wrap_u64, IntKind.wrap_u8]; omega
  · show IntKind.u64.wrap (IntKind.i64.wrap (IntKind.i32.wrap (IntKind.u64.wrap z))) = ((z + 2147483648) % 4294967296 - 2147483648) % 18446744073709551616
    simp only [IntKind.wrap_u64, IntKind.wrap_i64, IntKind.wrap_i32]; omega
  · show IntKind.u64.wrap z = z % 18446744073709551616
    exact IntKind.wrap_u64 z
theorem enc_mod {t : Int} (ht : Wh t) (z : Int) : enc t z % Mt t = z % Mt t := by
  rcases ht with rfl | rfl | rfl
  · show z % 256 % 256 = z % 256; omega
  · show ((z + 2147483648) % 4294967296 - 2147483648) % 18446744073709551616 % 4294967296 = z % 4294967296; omega
  · show z % 18446744073709551616 % 18446744073709551616 = _; exact Int.emod_emod_of_dvd z (Int.dvd_refl _)
theorem enc_congr {t : Int} (ht : Wh t) {x y : Int} (h : x % Mt t = y % Mt t) : enc t x = enc t y := by
  rcases ht with rfl | rfl | rfl
  · exact h
  · replace h : x % 4294967296 = y % 4294967296 := h
    show ((x + 2147483648) % 4294967296 - 2147483648) % 18446744073709551616 = ((y + 2147483648) % 4294967296 - 2147483648) % 18446744073709551616
    omega
  · exact h
theorem enc_wd {t : Int} (ht : Wh t) (z : Int) : Wd (enc t z) := by
  rcases ht with rfl | rfl | rfl
  · show 0 ≤ z % 256 ∧ z % 256 < _; omega
  · show 0 ≤ ((z + 2147483648) % 4294967296 - 2147483648) % 18446744073709551616 ∧ ((z + 2147483648) % 4294967296 - 2147483648) % 18446744073709551616 < 18446744073709551616; omega
  · show 0 ≤ z % 18446744073709551616 ∧ z % 18446744073709551616 < 18446744073709551616; omega
theorem S_enc {t : Int} (ht : Wh t) {v : Int} (h0 : lo t ≤ v) (h1 : v < hi t) : IntKind.i64.wrap (enc t v) = v := by
  rcases ht with rfl | rfl | rfl
  · replace h0 : (0 : Int) ≤ v := h0
    replace h1 : v < 256 := h1
    show IntKind.i64.wrap (v % 256) = v
    rw [IntKind.wrap_i64]; omega
  · replace h0 : (-2147483648 : Int) ≤ v := h0
    replace h1 : v < 2147483648 := h1
    show IntKind.i64.wrap (((v + 2147483648) % 4294967296 - 2147483648) % 18446744073709551616) = v
    rw [IntKind.wrap_i64]; omega
  · replace h0 : (-9223372036854775808 : Int) ≤ v := h0
    replace h1 : v < 9223372036854775808 := h1
    show IntKind.i64.wrap (v % 18446744073709551616) = v
    rw [IntKind.wrap_i64]; omega
/-- each word of a type is a number's -/
theorem word_num {t w : Int} (ht : Wh t) (h : Wd w) : ∃ a, f13 t w = enc t a ∧ lo t ≤ a ∧ a < hi t := by
  have e : f13 t w = enc t w := by
    have := f13_enc ht w
    rwa [show IntKind.u64.wrap w = w by rw [IntKind.wrap_u64]; have := h.1; have := h.2; omega] at this
  rw [e]
  rcases ht with rfl | rfl | rfl
  · exact ⟨w % 256, by show w % 256 = w % 256 % 256; omega, by show (0 : Int) ≤ _; omega, by show _ < (256 : Int); omega⟩
  · refine ⟨(w + 2147483648) % 4294967296 - 2147483648, ?_, by show (-2147483648 : Int) ≤ _; omega, by show _ < (2147483648 : Int); omega⟩
    show ((w + 2147483648) % 4294967296 - 2147483648) % 18446744073709551616 = (((w + 2147483648) % 4294967296 - 2147483648 + 2147483648) % 4294967296 - 2147483648) % 18446744073709551616
    omega
  · refine ⟨(w + 9223372036854775808) % 18446744073709551616 - 9223372036854775808, ?_, by show (-9223372036854775808 : Int) ≤ _; omega, by show _ < (9223372036854775808 : Int); omega⟩
    show w % 18446744073709551616 = ((w + 9223372036854775808) % 18446744073709551616 - 9223372036854775808) % 18446744073709551616
    omega
theorem enc_right {t : Int} (ht : Wh t) (z : Int) : f13 t (enc t z) = enc t z := by
  have hw := enc_wd ht z
  have := f13_enc ht (enc t z)
  rw [show IntKind.u64.wrap (enc t z) = enc t z by rw [IntKind.wrap_u64]; have := hw.1; have := hw.2; omega] at this
  rw [this]
  exact enc_congr ht (enc_mod ht z)
theorem enc_f11 {t : Int} (ht : Wh t) (z : Int) : f11 t (enc t z) = true := by
  unfold f11
  rw [enc_right ht]
  rcases ht with rfl | rfl | rfl <;> simp
theorem add_enc {t : Int} (ht : Wh t) (x y : Int) : enc t (enc t x + y) = enc t (x + y) := enc_congr ht (by rw [Int.add_emod, enc_mod ht, ← Int.add_emod])
theorem add_enc' {t : Int} (ht : Wh t) (x y : Int) : enc t (x + enc t y) = enc t (x + y) := enc_congr ht (by rw [Int.add_emod, enc_mod ht, ← Int.add_emod])
theorem sub_enc {t : Int} (ht : Wh t) (x y : Int) : enc t (enc t x - y) = enc t (x - y) := enc_congr ht (by rw [Int.sub_emod, enc_mod ht, ← Int.sub_emod])
theorem sub_enc' {t : Int} (ht : Wh t) (x y : Int) : enc t (x - enc t y) = enc t (x - y) := enc_congr ht (by rw [Int.sub_emod, enc_mod ht, ← Int.sub_emod])
theorem mul_enc {t : Int} (ht : Wh t) (x y : Int) : enc t (enc t x * y) = enc t (x * y) := enc_congr ht (by rw [Int.mul_emod, enc_mod ht, ← Int.mul_emod])
theorem mul_enc' {t : Int} (ht : Wh t) (x y : Int) : enc t (x * enc t y) = enc t (x * y) := enc_congr ht (by rw [Int.mul_emod, enc_mod ht, ← Int.mul_emod])
theorem S_mod {t : Int} (ht : Wh t) (z : Int) : enc t (IntKind.i64.wrap z) = enc t z := by
  refine enc_congr ht ?_
  rw [IntKind.wrap_i64]
  rcases ht with rfl | rfl | rfl
  · show _ % 256 = _ % 256; omega
  · show _ % 4294967296 = _ % 4294967296; omega
  · show _ % 18446744073709551616 = _ % 18446744073709551616; omega

/-- an operation that makes a word of the same type -/
theorem f17_op {t : Int} (ht : Wh t) {op : Int} (ho : f19 op t = (t, true)) (h1 : (op == 17) = false) (h2 : (op == 18) = false) (a b : Int) :
    f17 op t (enc t a) (enc t b) = f13 t (f41 op t (enc t a) (enc t b)) := by
  have h5 : (t == 5) = false := by rcases ht with rfl | rfl | rfl <;> rfl
  have e : f21 op t (enc t a) (enc t b) = (f13 t (f41 op t (enc t a) (enc t b)), true) := by
    unfold f21
    simp only [ho, h1, h2, h5, enc_f11 ht, Bool.not_true, Bool.false_eq_true, if_false]
  unfold f17
  rw [e]; rfl
theorem of_t {t : Int} (ht : Wh t) : f19 1 t = (t, true) ∧ f19 2 t = (t, true) ∧ f19 3 t = (t, true) ∧ f19 4 t = (t, true) ∧ f19 5 t = (t, true) ∧ f19 9 t = (t, true) ∧ f19 10 t = (t, true) ∧ f19 17 t = (t, true) ∧ f19 18 t = (t, true) := by
  rcases ht with rfl | rfl | rfl <;> decide
theorem o_add {t : Int} (ht : Wh t) (a b : Int) : f17 1 t (enc t a) (enc t b) = enc t (a + b) := by
  rw [f17_op ht (of_t ht).1 rfl rfl]
  show f13 t (IntKind.u64.wrap (enc t a + enc t b)) = _
  rw [f13_enc ht, add_enc ht, add_enc' ht]
theorem o_sub {t : Int} (ht : Wh t) (a b : Int) : f17 2 t (enc t a) (enc t b) = enc t (a - b) := by
  rw [f17_op ht (of_t ht).2.1 rfl rfl]
  show f13 t (IntKind.u64.wrap (enc t a - enc t b)) = _
  rw [f13_enc ht, sub_enc ht, sub_enc' ht]
theorem o_mul {t : Int} (ht : Wh t) (a b : Int) : f17 3 t (enc t a) (enc t b) = enc t (a * b) := by
  rw [f17_op ht (of_t ht).2.2.1 rfl rfl]
  show f13 t (IntKind.u64.wrap (enc t a * enc t b)) = _
  rw [f13_enc ht, mul_enc ht, mul_enc' ht]
theorem enc_0 {t : Int} (ht : Wh t) : enc t 0 = 0 := by rcases ht with rfl | rfl | rfl <;> rfl
theorem f13_0 {t : Int} (ht : Wh t) : f13 t 0 = 0 := by rcases ht with rfl | rfl | rfl <;> decide
theorem o_div {t : Int} (ht : Wh t) {a b : Int} (ha : lo t ≤ a ∧ a < hi t) (hb : lo t ≤ b ∧ b < hi t) : f17 4 t (enc t a) (enc t b) = if b = 0 then 0 else enc t (a.tdiv b) := by
  rw [f17_op ht (of_t ht).2.2.2.1 rfl rfl]
  show f13 t (if (IntKind.i64.wrap (enc t b) == (0 : Int)) then (0 : Int) else (IntKind.u64.wrap (IntKind.i64.wrap ((IntKind.i64.wrap (enc t a)).tdiv (IntKind.i64.wrap (enc t b)))))) = _
  rw [S_enc ht ha.1 ha.2, S_enc ht hb.1 hb.2]
  by_cases c : b = 0
  · subst c; simp only [beq_self_eq_true, if_true]; exact f13_0 ht
  · rw [if_neg (by simpa using c), if_neg c, f13_enc ht, S_mod ht]
theorem o_rem {t : Int} (ht : Wh t) {a b : Int} (ha : lo t ≤ a ∧ a < hi t) (hb : lo t ≤ b ∧ b < hi t) : f17 5 t (enc t a) (enc t b) = if b = 0 then 0 else enc t (a.tmod b) := by
  rw [f17_op ht (of_t ht).2.2.2.2.1 rfl rfl]
  show f13 t (if (IntKind.i64.wrap (enc t b) == (0 : Int)) then (0 : Int) else (IntKind.u64.wrap ((IntKind.i64.wrap (enc t a)).tmod (IntKind.i64.wrap (enc t b))))) = _
  rw [S_enc ht ha.1 ha.2, S_enc ht hb.1 hb.2]
  by_cases c : b = 0
  · subst c; simp only [beq_self_eq_true, if_true]; exact f13_0 ht
  · rw [if_neg (by simpa using c), if_neg c, f13_enc ht]
theorem o_neg {t : Int} (ht : Wh t) (b : Int) : f23 17 t (enc t b) = (enc t (0 - b), true) := by
  have h5 : (t == 5) = false := by rcases ht with rfl | rfl | rfl <;> rfl
  unfold f23
  simp only [(of_t ht).2.2.2.2.2.2.2.1, enc_f11 ht, h5, Bool.not_true, Bool.false_eq_true, if_false, show ((17 : Int) != 17) = false from rfl, show ((17 : Int) == 18) = false from rfl]
  rw [f13_enc ht, sub_enc' ht]
theorem not_of {w : Int} (h : Wd w) : (IntKind.u64.wrap ((BitVec.ofInt IntKind.u64.bits (if IntKind.u64.signed then -1 else IntKind.u64.max) ^^^ BitVec.ofInt IntKind.u64.bits w).toNat : Int)) = IntKind.u64.wrap (-1 - w) := by
  have e1 : BitVec.ofInt IntKind.u64.bits (if IntKind.u64.signed then -1 else IntKind.u64.max) = BitVec.allOnes 64 := by
    have e : (if IntKind.u64.signed then -1 else IntKind.u64.max : Int) = 18446744073709551615 := by decide
    rw [e]
    show BitVec.ofInt 64 18446744073709551615 = BitVec.allOnes 64
    decide
  have e2 : (BitVec.allOnes 64 ^^^ BitVec.ofInt 64 w).toNat = 2 ^ 64 - 1 - w.toNat := by
    have := ofI h
    replace this : (BitVec.ofInt 64 w).toNat = w.toNat := this
    rw [BitVec.allOnes_xor, BitVec.toNat_not, this]
  have e3 : (BitVec.ofInt IntKind.u64.bits (if IntKind.u64.signed then -1 else IntKind.u64.max) ^^^ BitVec.ofInt IntKind.u64.bits w).toNat = 2 ^ 64 - 1 - w.toNat := by rw [e1]; exact e2
  obtain ⟨h0, h1⟩ := h
  rw [e3, IntKind.wrap_u64, IntKind.wrap_u64]; omega
theorem o_not {t : Int} (ht : Wh t) (b : Int) : f23 18 t (enc t b) = (enc t (-1 - b), true) := by
  unfold f23
  simp only [(of_t ht).2.2.2.2.2.2.2.2, enc_f11 ht, Bool.not_true, Bool.false_eq_true, if_false, if_true, show ((18 : Int) != 17) = true from rfl, show ((18 : Int) != 18) = false from rfl, show ((18 : Int) == 18) = true from rfl]
  rw [not_of (enc_wd ht b), f13_enc ht, sub_enc' ht]
theorem stops_of {t b : Int} (ht : Wh t) : f25 4 t b = (b == 0) ∧ f25 5 t b = (b == 0) := by
  rcases ht with rfl | rfl | rfl <;> exact ⟨rfl, rfl⟩
theorem U_enc' {t v : Int} (ht : Wh t) (h0 : lo t ≤ v) (h1 : v < hi t) : IntKind.u64.wrap v = enc t v := by
  rw [IntKind.wrap_u64]
  rcases ht with rfl | rfl | rfl
  · replace h0 : (0 : Int) ≤ v := h0
    replace h1 : v < 256 := h1
    show _ = v % 256; omega
  · replace h0 : (-2147483648 : Int) ≤ v := h0
    replace h1 : v < 2147483648 := h1
    show _ = ((v + 2147483648) % 4294967296 - 2147483648) % 18446744073709551616; omega
  · rfl
/-- the size of what a word says -/
theorem size_enc {t v : Int} (ht : Wh t) (h0 : lo t ≤ v) (h1 : v < hi t) : f27 (enc t v) = (v.natAbs : Int) := by
  have hS := S_enc ht h0 h1
  have hw := enc_wd ht v
  obtain ⟨w0, w1⟩ := hw
  unfold f27
  rw [hS]
  rw [IntKind.wrap_i64] at hS
  by_cases c : v < 0
  · rw [if_pos (by simpa using c), IntKind.wrap_u64]; omega
  · rw [if_neg (by simpa using c)]; omega
theorem rng_num {t v : Int} (ht : Wh t) : lo t ≤ 0 ∧ 0 < hi t ∧ lo t ≥ -9223372036854775808 ∧ hi t ≤ 9223372036854775808 := by
  rcases ht with rfl | rfl | rfl <;> decide
theorem enc_inj0 {t v : Int} (ht : Wh t) (h0 : lo t ≤ v) (h1 : v < hi t) : (enc t v == 0) = (v == 0) := by
  have := S_enc ht h0 h1
  rw [Bool.eq_iff_iff]; simp only [beq_iff_eq]
  constructor
  · intro h; rw [h] at this; rw [← this]; decide
  · rintro rfl; exact enc_0 ht
end Go.Eng.Sca
