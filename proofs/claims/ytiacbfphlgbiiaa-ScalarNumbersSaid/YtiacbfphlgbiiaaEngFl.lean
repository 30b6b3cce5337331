/- Whole numbers as floats, in plain numbers (no condition beyond those stated). -/
import Derived.Test.YtiacbfphlgbiiaaEngU
namespace Go.Eng
open Go
set_option linter.unusedVariables false
set_option linter.unusedSimpArgs false

theorem D_sw : Ieee.double.signWeight = 9223372036854775808 := by decide
theorem D_bin : Ieee.double.binade = 4503599627370496 := by decide
theorem D_inf : Ieee.double.infRung = 9218868437227405312 := by decide
theorem D_least : Ieee.double.leastPlace = -1074 := by decide
theorem D_frac : Ieee.double.fractionBits = 52 := rfl

def sg (s : Bool) (m : Nat) : Int := if s then -(m : Int) else (m : Int)
theorem signed_eq (s : Bool) (m k : Nat) : Ieee.signed s m k = sg s m * 2 ^ k := by
  unfold Ieee.signed sg
  rw [Nat.shiftLeft_eq]
  cases s <;> simp [Int.neg_mul]
theorem sg_mul (s : Bool) (m k : Nat) : sg s (m * k) = sg s m * k := by unfold sg; cases s <;> simp [Int.neg_mul]

/-- a datum that is a whole number -/
def IsI (d : Ieee.Datum) (z : Int) : Prop := ∃ s K l M, d = .number s K l ∧ K * 2 ^ l.toNat = M * 2 ^ (-l).toNat ∧ z = sg s M

theorem cut_zero (s : Bool) (n drop : Nat) : Ieee.Toward.zero.cut s n drop = n / 2 ^ drop := by
  unfold Ieee.Toward.cut
  simp only [Bool.toNat_false, Nat.add_zero, Nat.shiftLeft_eq, Nat.one_mul]
  by_cases c : drop ≤ n.log2 + 2
  · rw [Nat.min_eq_left c]
  · rw [Nat.min_eq_right (by omega)]
    have h : n < 2 ^ (n.log2 + 1) := Nat.lt_log2_self
    have h1 : 2 ^ (n.log2 + 1) ≤ 2 ^ (n.log2 + 2) := Nat.pow_le_pow_right (by decide) (by omega)
    have h2 : 2 ^ (n.log2 + 2) ≤ 2 ^ drop := Nat.pow_le_pow_right (by decide) (by omega)
    rw [Nat.div_eq_of_lt (by omega), Nat.div_eq_of_lt (by omega)]

theorem IsI.int {d : Ieee.Datum} {z : Int} (h : IsI d z) : d.toInt .zero = some z := by
  obtain ⟨s, K, l, M, rfl, h1, rfl⟩ := h
  unfold Ieee.Datum.toInt Ieee.Datum.integral
  simp only [cut_zero, Nat.shiftLeft_eq, signed_eq, Int.pow_zero, Int.mul_one]
  rw [h1, Nat.mul_div_cancel _ (Nat.two_pow_pos _)]

theorem cmp_scale (x y p : Int) (hp : 0 < p) : compare (x * p) (y * p) = compare x y := by
  have h : ∀ a b : Int, compare a b = if a < b then .lt else if a = b then .eq else .gt := fun a b => rfl
  rw [h, h]
  by_cases c : x < y
  · rw [if_pos c, if_pos (Int.mul_lt_mul_of_pos_right c hp)]
  · rw [if_neg c]
    by_cases e : x = y
    · rw [if_pos e, e, if_neg (Int.lt_irrefl _), if_pos rfl]
    · have : y < x := by omega
      have := Int.mul_lt_mul_of_pos_right this hp
      rw [if_neg e, if_neg (by omega), if_neg (by omega)]
/-- at a common place -/
theorem at_base {K M : Nat} {l base : Int} (h : K * 2 ^ l.toNat = M * 2 ^ (-l).toNat) (hb : base ≤ l) :
    K * 2 ^ (l - base).toNat * 2 ^ base.toNat = M * 2 ^ (-base).toNat := by
  by_cases c : 0 ≤ base
  · have e1 : l.toNat = (l - base).toNat + base.toNat := by omega
    have e2 : (-l).toNat = 0 := by omega
    have e3 : (-base).toNat = 0 := by omega
    rw [e1, e2, Nat.pow_add, ← Nat.mul_assoc] at h
    rw [e3]; exact h
  · have e0 : base.toNat = 0 := by omega
    rw [e0, Nat.pow_zero, Nat.mul_one]
    by_cases c2 : 0 ≤ l
    · have e1 : (l - base).toNat = l.toNat + (-base).toNat := by omega
      have e2 : (-l).toNat = 0 := by omega
      rw [e2, Nat.pow_zero, Nat.mul_one] at h
      rw [e1, Nat.pow_add, ← Nat.mul_assoc, h]
    · have e1 : l.toNat = 0 := by omega
      have e2 : (-base).toNat = (-l).toNat + (l - base).toNat := by omega
      rw [e1, Nat.pow_zero, Nat.mul_one] at h
      rw [h, e2, Nat.pow_add, Nat.mul_assoc]
theorem sg_at {K M : Nat} {l base : Int} (s : Bool) (h : K * 2 ^ l.toNat = M * 2 ^ (-l).toNat) (hb : base ≤ l) :
    Ieee.signed s K (l - base).toNat * 2 ^ base.toNat = sg s M * 2 ^ (-base).toNat := by
  have := at_base h hb
  rw [signed_eq]
  have e : sg s (K * 2 ^ (l - base).toNat * 2 ^ base.toNat) = sg s (M * 2 ^ (-base).toNat) := by rw [this]
  rw [sg_mul, sg_mul, sg_mul] at e
  simpa using e
theorem pow_pos' (n : Nat) : (0 : Int) < 2 ^ n := by have := Nat.two_pow_pos n; exact_mod_cast this
theorem IsI.cmp {d e : Ieee.Datum} {z y : Int} (h : IsI d z) (h' : IsI e y) : d.order e = some (compare z y) := by
  obtain ⟨s, K, i, M, rfl, h1, rfl⟩ := h
  obtain ⟨t, N, j, M', rfl, h2, rfl⟩ := h'
  show some (compare (Ieee.signed s K (i - min i j).toNat) (Ieee.signed t N (j - min i j).toNat)) = _
  have a := sg_at s h1 (Int.min_le_left i j)
  have b := sg_at t h2 (Int.min_le_right i j)
  rw [← cmp_scale _ _ _ (pow_pos' (min i j).toNat), a, b, cmp_scale _ _ _ (pow_pos' _)]

/-- a size that a float has -/
def Rep (M : Nat) : Prop := M = 0 ∨ (M ≠ 0 ∧ M.log2 ≤ 1023 ∧ 2 ^ (M.log2 - 52) ∣ M)
theorem cut_even_none (s : Bool) (n : Nat) : Ieee.Toward.even.cut s n 0 = n := by
  unfold Ieee.Toward.cut
  simp only [Nat.zero_min, Nat.shiftLeft_zero, Nat.div_one, Nat.mod_one, Nat.mul_zero]
  rfl
theorem cut_even_all {s : Bool} {n drop : Nat} (hd : drop ≤ n.log2) (h : 2 ^ drop ∣ n) : Ieee.Toward.even.cut s n drop = n / 2 ^ drop := by
  unfold Ieee.Toward.cut
  dsimp only
  rw [Nat.min_eq_left (by omega), Nat.shiftLeft_eq, Nat.one_mul, Nat.mod_eq_zero_of_dvd h]
  have h2 := Nat.two_pow_pos drop
  have e : ((2 : Nat) ^ drop == 2 * 0) = false := by
    rw [beq_eq_false_iff_ne]; omega
  simp [e]
theorem read_rung {s : Bool} {l : Int} {K : Nat} (h0 : 4503599627370496 ≤ K) (h1 : K < 9007199254740992) (hl : -1074 ≤ l) (hl2 : l ≤ 971) :
    Ieee.double.read (Ieee.double.word s (min ((l - Ieee.double.leastPlace).toNat * Ieee.double.binade + K) Ieee.double.infRung)) = .number s K l := by
  have hr : (l - Ieee.double.leastPlace).toNat * Ieee.double.binade + K < Ieee.double.infRung := by rw [D_least, D_bin, D_inf]; omega
  rw [Nat.min_eq_left (Nat.le_of_lt hr)]
  unfold Ieee.Format.read Ieee.Format.word
  simp only [D_sw, D_bin, D_inf, D_least] at hr ⊢
  have hw : (if s = true then 9223372036854775808 + ((l - -1074).toNat * 4503599627370496 + K) else (l - -1074).toNat * 4503599627370496 + K) % 9223372036854775808 = (l - -1074).toNat * 4503599627370496 + K := by
    cases s <;> simp only [Bool.false_eq_true, if_false, if_true] <;> omega
  have hn : ((if s = true then 9223372036854775808 + ((l - -1074).toNat * 4503599627370496 + K) else (l - -1074).toNat * 4503599627370496 + K) / 9223372036854775808 % 2 == 1) = s := by
    cases s with
    | false =>
      simp only [Bool.false_eq_true, if_false]
      rw [Nat.div_eq_of_lt (by omega)]; rfl
    | true =>
      simp only [if_true]
      have : (9223372036854775808 + ((l - -1074).toNat * 4503599627370496 + K)) / 9223372036854775808 = 1 := by omega
      rw [this]; rfl
  rw [hw, hn, if_neg (by omega), if_pos hr]
  have e1 : ((l - -1074).toNat * 4503599627370496 + K) % 4503599627370496 = K - 4503599627370496 := by omega
  have e2 : ((l - -1074).toNat * 4503599627370496 + K) / 4503599627370496 = (l - -1074).toNat + 1 := by omega
  have e3 : 4503599627370496 + (K - 4503599627370496) = K := by omega
  have e4 : (-1074 : Int) + (((l - -1074).toNat + 1 - 1 : Nat) : Int) = l := by omega
  rw [e1, e2, e3, e4]
theorem read_write {M : Nat} (s : Bool) (h : Rep M) : IsI (Ieee.double.read (Ieee.double.write (.number s M 0))) (sg s M) := by
  show IsI (Ieee.double.read (Ieee.double.nearest s M 0)) (sg s M)
  unfold Ieee.Format.nearest
  rcases h with rfl | ⟨hM, hL, hd⟩
  · rw [if_pos rfl]
    refine ⟨s, 0, -1074, 0, ?_, by rw [Nat.zero_mul, Nat.zero_mul], by cases s <;> rfl⟩
    cases s <;> decide
  rw [if_neg hM]
  have h0 := Nat.log2_self_le hM
  have h1 : M < 2 ^ (M.log2 + 1) := Nat.lt_log2_self
  simp only [D_frac]
  have hlast : max ((0 : Int) + (M.log2 : Nat) - (52 : Nat)) Ieee.double.leastPlace = (M.log2 : Int) - 52 := by rw [D_least]; omega
  rw [hlast]
  by_cases c : M.log2 ≤ 52
  · have e1 : ((0 : Int) - ((M.log2 : Int) - 52)).toNat = 52 - M.log2 := by omega
    have e2 : ((M.log2 : Int) - 52 - 0).toNat = 0 := by omega
    rw [e1, e2, cut_even_none, Nat.shiftLeft_eq]
    have k0 : 4503599627370496 ≤ M * 2 ^ (52 - M.log2) := by
      have : 2 ^ M.log2 * 2 ^ (52 - M.log2) ≤ M * 2 ^ (52 - M.log2) := Nat.mul_le_mul_right _ h0
      rw [← Nat.pow_add, show M.log2 + (52 - M.log2) = 52 by omega] at this
      exact this
    have k1 : M * 2 ^ (52 - M.log2) < 9007199254740992 := by
      have : M * 2 ^ (52 - M.log2) < 2 ^ (M.log2 + 1) * 2 ^ (52 - M.log2) := Nat.mul_lt_mul_of_pos_right h1 (Nat.two_pow_pos _)
      rw [← Nat.pow_add, show M.log2 + 1 + (52 - M.log2) = 53 by omega] at this
      exact this
    rw [read_rung k0 k1 (by omega) (by omega)]
    refine ⟨s, _, _, M, rfl, ?_, rfl⟩
    rw [show ((M.log2 : Int) - 52).toNat = 0 by omega, show (-((M.log2 : Int) - 52)).toNat = 52 - M.log2 by omega, Nat.pow_zero, Nat.mul_one]
  · have e1 : ((0 : Int) - ((M.log2 : Int) - 52)).toNat = 0 := by omega
    have e2 : ((M.log2 : Int) - 52 - 0).toNat = M.log2 - 52 := by omega
    rw [e1, e2, Nat.shiftLeft_zero, cut_even_all (by omega) hd]
    obtain ⟨q, hq⟩ := hd
    have hp := Nat.two_pow_pos (M.log2 - 52)
    have eq : M / 2 ^ (M.log2 - 52) = q := Nat.div_eq_of_eq_mul_right hp hq
    rw [eq]
    have k0 : 4503599627370496 ≤ q := by
      rw [← eq]
      have : 4503599627370496 * 2 ^ (M.log2 - 52) ≤ M := by
        have e : (4503599627370496 : Nat) = 2 ^ 52 := by decide
        rw [e, ← Nat.pow_add, show 52 + (M.log2 - 52) = M.log2 by omega]; exact h0
      exact (Nat.le_div_iff_mul_le hp).2 this
    have k1 : q < 9007199254740992 := by
      rw [← eq]
      refine (Nat.div_lt_iff_lt_mul hp).2 ?_
      have e : (9007199254740992 : Nat) = 2 ^ 53 := by decide
      rw [e, ← Nat.pow_add, show 53 + (M.log2 - 52) = M.log2 + 1 by omega]; exact h1
    rw [read_rung k0 k1 (by omega) (by omega)]
    refine ⟨s, _, _, M, rfl, ?_, rfl⟩
    rw [show ((M.log2 : Int) - 52).toNat = M.log2 - 52 by omega, show (-((M.log2 : Int) - 52)).toNat = 0 by omega, Nat.pow_zero, Nat.mul_one, Nat.mul_comm]
    exact hq.symm

/-- what words stand for -/
theorem read_is (b : Nat) : (∃ s m p, Ieee.double.read b = .number s m p ∧ m < 9007199254740992 ∧ -1074 ≤ p ∧ p ≤ 971) ∨ (∃ s, Ieee.double.read b = .infinity s) ∨ (Ieee.double.read b).isNaN = true := by
  unfold Ieee.Format.read
  simp only [D_sw, D_bin, D_inf, D_least]
  generalize b % 9223372036854775808 = r
  by_cases h1 : r < 4503599627370496
  · left; rw [if_pos h1]; exact ⟨_, _, _, rfl, by omega, by omega, by omega⟩
  · rw [if_neg h1]
    by_cases h2 : r < 9218868437227405312
    · left; rw [if_pos h2]; exact ⟨_, _, _, rfl, by omega, by omega, by omega⟩
    · rw [if_neg h2]
      by_cases h3 : r = 9218868437227405312
      · right; left; rw [if_pos h3]; exact ⟨_, rfl⟩
      · right; right; rw [if_neg h3]; rfl
/-- the whole part of a size is one that a float has -/
theorem rep_part {m : Nat} {p : Int} (hm : m < 9007199254740992) (hp : p ≤ 971) : Rep (m * 2 ^ p.toNat / 2 ^ (-p).toNat) := by
  by_cases c : 0 ≤ p
  · rw [show (-p).toNat = 0 by omega, Nat.pow_zero, Nat.div_one]
    by_cases h0 : m = 0
    · left; rw [h0, Nat.zero_mul]
    · right
      have h2 := Nat.two_pow_pos p.toNat
      have hne : m * 2 ^ p.toNat ≠ 0 := by
        intro h; rcases Nat.mul_eq_zero.1 h with h | h
        · exact h0 h
        · omega
      have hlt : m.log2 < 53 := by
        rw [Nat.log2_lt h0]; exact hm
      have hl : (m * 2 ^ p.toNat).log2 = m.log2 + p.toNat := by
        rw [Nat.log2_eq_iff hne]
        have a := Nat.log2_self_le h0
        have b : m < 2 ^ (m.log2 + 1) := Nat.lt_log2_self
        constructor
        · rw [Nat.pow_add]; exact Nat.mul_le_mul_right _ a
        · rw [show m.log2 + p.toNat + 1 = (m.log2 + 1) + p.toNat by omega, Nat.pow_add]; exact Nat.mul_lt_mul_of_pos_right b h2
      refine ⟨hne, by omega, ?_⟩
      have : 2 ^ ((m * 2 ^ p.toNat).log2 - 52) ∣ 2 ^ p.toNat := Nat.pow_dvd_pow _ (by omega)
      exact Nat.dvd_trans this (Nat.dvd_mul_left _ _)
  · rw [show p.toNat = 0 by omega, Nat.pow_zero, Nat.mul_one]
    have hle : m / 2 ^ (-p).toNat ≤ m := Nat.div_le_self _ _
    by_cases h0 : m / 2 ^ (-p).toNat = 0
    · left; exact h0
    · right
      have hlt : (m / 2 ^ (-p).toNat).log2 < 53 := by rw [Nat.log2_lt h0]; exact Nat.lt_of_le_of_lt hle hm
      refine ⟨h0, by omega, ?_⟩
      rw [show (m / 2 ^ (-p).toNat).log2 - 52 = 0 by omega, Nat.pow_zero]; exact Nat.one_dvd _
theorem rep_small {M : Nat} (h : M < 9007199254740992) : Rep M := by
  have := rep_part (m := M) (p := 0) h (by decide)
  simpa using this
theorem integral_num (s : Bool) (m : Nat) (p : Int) : (Ieee.Datum.number s m p).integral .zero = .number s (m * 2 ^ p.toNat / 2 ^ (-p).toNat) 0 := by
  unfold Ieee.Datum.integral
  simp only [cut_zero, Nat.shiftLeft_eq]
/-- a float's whole part, again as a float -/
theorem trunc_is {b : Nat} {s : Bool} {m : Nat} {p : Int} (h : Ieee.double.read b = .number s m p) (hm : m < 9007199254740992) (hp : p ≤ 971) :
    ∃ t, truncB b = some t ∧ IsI (Ieee.double.read t) (sg s (m * 2 ^ p.toNat / 2 ^ (-p).toNat)) ∧ (Ieee.double.read b).toInt .zero = some (sg s (m * 2 ^ p.toNat / 2 ^ (-p).toNat)) := by
  unfold truncB
  rw [h]
  refine ⟨_, rfl, ?_, ?_⟩
  · rw [integral_num]; exact read_write s (rep_part hm hp)
  · unfold Ieee.Datum.toInt
    rw [integral_num]
    simp only [signed_eq, Int.pow_zero, Int.mul_one]
end Go.Eng
