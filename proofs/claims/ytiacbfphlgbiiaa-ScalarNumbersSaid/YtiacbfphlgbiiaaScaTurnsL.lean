/- The statement of ScalarTurns in the small machine (no condition beyond those of its arguments). -/
import Derived.Test.YtiacbfphlgbiiaaScaL9
namespace Go.Eng.Sca
open Go Go.Eng
set_option linter.unusedVariables false
set_option linter.unusedSimpArgs false
set_option maxHeartbeats 4000000

theorem u64_in9 {m : Int} (h0 : IntKind.u64.min ≤ m) (h1 : m ≤ IntKind.u64.max) : Wd m := by
  have e0 : IntKind.u64.min = 0 := by decide
  have e1 : IntKind.u64.max = 18446744073709551615 := by decide
  exact ⟨by omega, by omega⟩
/-- the parts of a float's bits -/
theorem bits_of {b : Nat} (hb : b < 18446744073709551616) : ∃ (neg : Bool) (E F : Nat), (b = (if neg then 9223372036854775808 else 0) + E * 4503599627370496 + F) ∧ E < 2048 ∧ F < 4503599627370496 ∧
    (E = 0 → Ieee.double.read b = .number neg F (-1074)) ∧ (1 ≤ E → E ≤ 2046 → Ieee.double.read b = .number neg (4503599627370496 + F) ((E : Int) - 1075)) ∧
    (E = 2047 → (∃ s, Ieee.double.read b = .infinity s) ∨ (Ieee.double.read b).isNaN = true) := by
  refine ⟨decide (9223372036854775808 ≤ b), b % 9223372036854775808 / 4503599627370496, b % 4503599627370496, ?_, by omega, by omega, ?_, ?_, ?_⟩
  · by_cases c : 9223372036854775808 ≤ b
    · simp only [c, decide_true, if_true]; omega
    · simp only [c, decide_false, Bool.false_eq_true, if_false]; omega
  all_goals
    unfold Ieee.Format.read
    simp only [D_sw, D_bin, D_inf, D_least]
    have hn : (b / 9223372036854775808 % 2 == 1) = decide (9223372036854775808 ≤ b) := by
      rw [Bool.eq_iff_iff]; simp only [beq_iff_eq, decide_eq_true_eq]; omega
  · intro h
    rw [if_pos (by omega), hn]
    congr 1; omega
  · intro h1 h2
    rw [if_neg (by omega), if_pos (by omega), hn]
    congr 1
    · omega
    · omega
  · intro h
    rw [if_neg (by omega), if_neg (by omega)]
    by_cases c : b % 9223372036854775808 = 9218868437227405312
    · left; rw [if_pos c]; exact ⟨_, rfl⟩
    · right; rw [if_neg c]; rfl
theorem sh_by (k : Nat) (hk : k ≤ 64) (e : Int) (he : e = (k : Int)) : min e.toNat IntKind.u64.bits = k := by
  subst he
  show min _ 64 = k
  rw [Int.toNat_natCast]; omega
/-- the whole part of a finite float, if it is below 2 to the power 64 -/
theorem part_of {w : Int} (h : Wd w) {neg : Bool} {E F : Nat} (hb : w = ((if neg then 9223372036854775808 else 0 : Int)) + E * 4503599627370496 + F) (hE : E < 2048) (hF : F < 4503599627370496) :
    f59 w = if E = 0 then ((0 : Int), true) else if E ≤ 1022 then (0, true) else if E ≤ 1075 then ((((4503599627370496 + F) / 2 ^ (1075 - E) : Nat) : Int), true) else if 1086 < E then (0, false) else ((((4503599627370496 + F) * 2 ^ (E - 1075) : Nat) : Int), true) := by
  have f52 : w.fdiv (2 ^ (min (52 : Int).toNat IntKind.u64.bits)) = w / 4503599627370496 := by
    rw [show (2 : Int) ^ (min (52 : Int).toNat IntKind.u64.bits) = 4503599627370496 from by decide, Int.fdiv_eq_ediv_of_nonneg _ (by decide)]
  obtain ⟨w0, w1⟩ := h
  have hq : (w / 4503599627370496).tmod 2048 = (E : Int) := by
    rw [tmodp (by omega)]
    cases neg <;> simp only [Bool.false_eq_true, if_false, if_true] at hb <;> omega
  have hr : w.tmod 4503599627370496 = (F : Int) := by
    rw [tmodp w0]
    cases neg <;> simp only [Bool.false_eq_true, if_false, if_true] at hb <;> omega
  have ex : IntKind.i64.wrap (IntKind.i64.wrap ((w.fdiv (2 ^ (min (52 : Int).toNat IntKind.u64.bits))).tmod 2048) - 1075) = (E : Int) - 1075 := by
    rw [f52, hq]; simp only [IntKind.wrap_i64]; omega
  have em : IntKind.u64.wrap (w.tmod 4503599627370496 + 4503599627370496) = ((4503599627370496 + F : Nat) : Int) := by
    rw [hr, IntKind.wrap_u64]; omega
  unfold f59
  rw [ex, em]
  by_cases c0 : E = 0
  · rw [if_pos c0, if_pos (decide_eq_true (by omega))]
  · rw [if_neg c0, ite_f (decide_eq_false (by omega))]
    by_cases c1 : E ≤ 1022
    · rw [if_pos c1, if_pos (decide_eq_true (by omega))]
    · rw [if_neg c1, ite_f (decide_eq_false (by omega))]
      by_cases c2 : E ≤ 1075
      · rw [if_pos c2, if_pos (decide_eq_true (by omega))]
        have e1 : IntKind.u64.wrap (IntKind.i64.wrap (0 - ((E : Int) - 1075))) = ((1075 - E : Nat) : Int) := by simp only [IntKind.wrap_u64, IntKind.wrap_i64]; omega
        have e2 : (2 : Int) ^ (1075 - E) = ((2 ^ (1075 - E) : Nat) : Int) := by simp
        have e3 : (0 : Int) ≤ ((2 ^ (1075 - E) : Nat) : Int) := Int.natCast_nonneg _
        rw [sh_by (1075 - E) (by omega) _ e1, e2, Int.fdiv_eq_ediv_of_nonneg _ e3]; rfl
      · rw [if_neg c2, ite_f (decide_eq_false (by omega))]
        by_cases c3 : 1086 < E
        · rw [if_pos c3, if_pos (decide_eq_true (by omega))]
        · rw [if_neg c3, ite_f (decide_eq_false (by omega))]
          have e1 : IntKind.u64.wrap ((E : Int) - 1075) = ((E - 1075 : Nat) : Int) := by rw [IntKind.wrap_u64]; omega
          have e2 : ((4503599627370496 + F : Nat) : Int) * 2 ^ (E - 1075) = (((4503599627370496 + F) * 2 ^ (E - 1075) : Nat) : Int) := by simp
          have e3 : (4503599627370496 + F) * 2 ^ (E - 1075) < 18446744073709551616 := by
            have h1 : 2 ^ (E - 1075) ≤ 2 ^ 11 := Nat.pow_le_pow_right (by decide) (by omega)
            have h2 : (4503599627370496 + F) * 2 ^ (E - 1075) ≤ (4503599627370496 + F) * 2048 := Nat.mul_le_mul_left _ h1
            omega
          rw [sh_by (E - 1075) (by omega) _ e1, e2, IntKind.wrap_u64]
          generalize (4503599627370496 + F) * 2 ^ (E - 1075) = q at e3
          have e4 : ((q : Nat) : Int) % 18446744073709551616 = q := by omega
          rw [e4]
/-- a size of a whole type, with its sign -/
def fitS (to : Int) (neg : Bool) (M : Nat) : Int × Bool := if lo to ≤ sg neg M ∧ sg neg M < hi to then (IntKind.u64.wrap (sg neg M), true) else (0, false)
theorem f47_of {to w : Int} (ht : Wh to) {neg : Bool} {M : Nat} (hM : M < 18446744073709551616) (hw : (9223372036854775808 ≤ w) ↔ neg = true) (h59 : f59 w = ((M : Int), true)) (h37 : f37 w = false) : f47 to w = fitS to neg M := by
  have sN : sg true M = -(M : Int) := rfl
  have sP : sg false M = (M : Int) := rfl
  unfold f47 fitS
  simp only [h59, h37, Bool.not_true, Bool.false_eq_true, if_false]
  cases neg with
  | true =>
    have hw' : decide (w ≥ 9223372036854775808) = true := decide_eq_true (by have := hw.2 rfl; omega)
    rw [sN]
    rcases ht with rfl | rfl | rfl
    · simp only [beq_self_eq_true, if_true, hw', show ((2 : Int) != 2) = false from rfl, Bool.false_eq_true, if_false, lo, hi]
      by_cases c : (M : Int) > 0
      · rw [if_pos (decide_eq_true c), if_neg (by omega)]
      · rw [if_neg (by simpa using c), if_pos (by omega), Int.zero_sub]
    · simp only [show ((3 : Int) == 2) = false from rfl, beq_self_eq_true, if_true, hw', show ((3 : Int) != 2) = true from rfl, Bool.false_eq_true, if_false, lo, hi, show ¬ ((3 : Int) = 2) by decide, show IntKind.u64.wrap ((2147483647 : Int) + 1) = 2147483648 by decide]
      by_cases c : (M : Int) > 2147483648
      · rw [if_pos (decide_eq_true c), if_neg (by omega)]
      · rw [if_neg (by simpa using c), if_pos (by omega), Int.zero_sub]
    · simp only [show ((4 : Int) == 2) = false from rfl, show ((4 : Int) == 3) = false from rfl, beq_self_eq_true, if_true, hw', show ((4 : Int) != 2) = true from rfl, Bool.false_eq_true, if_false, lo, hi, show ¬ ((4 : Int) = 2) by decide, show ¬ ((4 : Int) = 3) by decide, show IntKind.u64.wrap ((9223372036854775807 : Int) + 1) = 9223372036854775808 by decide]
      by_cases c : (M : Int) > 9223372036854775808
      · rw [if_pos (decide_eq_true c), if_neg (by omega)]
      · rw [if_neg (by simpa using c), if_pos (by omega), Int.zero_sub]
  | false =>
    have hw' : decide (w ≥ 9223372036854775808) = false := decide_eq_false (fun c => by have := hw.1 (by omega); cases this)
    have hU : IntKind.u64.wrap (M : Int) = M := by rw [IntKind.wrap_u64]; omega
    rw [sP, hU]
    rcases ht with rfl | rfl | rfl
    · simp only [beq_self_eq_true, if_true, hw', show ((2 : Int) == 3) = false from rfl, show ((2 : Int) == 4) = false from rfl, Bool.false_eq_true, if_false, lo, hi]
      by_cases c : (M : Int) > 255
      · rw [if_pos (decide_eq_true c), if_neg (by omega)]
      · rw [if_neg (by simpa using c), if_pos (by omega)]
    · simp only [show ((3 : Int) == 2) = false from rfl, beq_self_eq_true, if_true, hw', Bool.false_eq_true, if_false, lo, hi, show ¬ ((3 : Int) = 2) by decide]
      by_cases c : (M : Int) > 2147483647
      · rw [if_pos (decide_eq_true c), if_neg (by omega)]
      · rw [if_neg (by simpa using c), if_pos (by omega)]
    · simp only [show ((4 : Int) == 2) = false from rfl, show ((4 : Int) == 3) = false from rfl, beq_self_eq_true, if_true, hw', Bool.false_eq_true, if_false, lo, hi, show ¬ ((4 : Int) = 2) by decide, show ¬ ((4 : Int) = 3) by decide]
      by_cases c : (M : Int) > 9223372036854775807
      · rw [if_pos (decide_eq_true c), if_neg (by omega)]
      · rw [if_neg (by simpa using c), if_pos (by omega)]
/-- fits, and its word -/
theorem fits_eq {to w : Int} (ht : Wh to) (h : Wd w) : f47 to w = if f44 to (some w.toNat) = true then (IntKind.u64.wrap (f2iI (some w.toNat)), true) else (0, false) := by
  obtain ⟨w0, w1⟩ := h
  obtain ⟨neg, E, F, hb, hE, hF, r0, r1, r2⟩ := bits_of (b := w.toNat) (by omega)
  have hbi : w = ((if neg then 9223372036854775808 else 0 : Int)) + E * 4503599627370496 + F := by cases neg <;> simp only [Bool.false_eq_true, if_false, if_true] at hb ⊢ <;> omega
  have hneg : (9223372036854775808 ≤ w) ↔ neg = true := by cases neg <;> simp only [Bool.false_eq_true, if_false, if_true, iff_true, iff_false] at hbi ⊢ <;> omega
  have hp := part_of ⟨w0, w1⟩ hbi hE hF
  -- what is no number
  by_cases c47 : E = 2047
  · have hr := r2 c47
    rw [if_neg (by omega), if_neg (by omega), if_neg (by omega), if_pos (by omega)] at hp
    rw [f44_not (fun b hb => by cases hb; exact hr)]
    unfold f47
    simp only [hp, Bool.not_false, if_true, Bool.false_eq_true, if_false]
  -- a number
  obtain ⟨m, p, hrd, hm, hp0, hp1⟩ : ∃ m p, Ieee.double.read w.toNat = .number neg m p ∧ m < 9007199254740992 ∧ -1074 ≤ p ∧ p ≤ 971 := by
    by_cases c0 : E = 0
    · exact ⟨_, _, r0 c0, by omega, by omega, by omega⟩
    · exact ⟨_, _, r1 (by omega) (by omega), by omega, by omega, by omega⟩
  have h37 : f37 w = false := by
    show (flO (some w.toNat) (some w.toNat) != some .eq) = false
    show (!((Ieee.double.read w.toNat).order (Ieee.double.read w.toNat) == some .eq)) = false
    rw [hrd]
    show (!(some (compare (Ieee.signed neg m (p - min p p).toNat) (Ieee.signed neg m (p - min p p).toNat)) == some Ordering.eq)) = false
    generalize Ieee.signed neg m (p - min p p).toNat = x
    have : compare x x = Ordering.eq := Std.ReflCmp.compare_self
    rw [this]; rfl
  obtain ⟨tb, e1, e2, e3⟩ := trunc_is hrd hm hp1
  have h44 := f44_num (t := to) e1 e2
  have hf2 : f2iI (some w.toNat) = sg neg (m * 2 ^ p.toNat / 2 ^ (-p).toNat) := by
    show ((Ieee.double.read w.toNat).toInt .zero).getD 0 = _
    rw [e3]; rfl
  rw [h44, hf2]
  have key : ∀ M : Nat, m * 2 ^ p.toNat / 2 ^ (-p).toNat = M → M < 18446744073709551616 → f59 w = ((M : Int), true) → f47 to w = if decide (lo to ≤ sg neg (m * 2 ^ p.toNat / 2 ^ (-p).toNat) ∧ sg neg (m * 2 ^ p.toNat / 2 ^ (-p).toNat) < hi to) = true then (IntKind.u64.wrap (sg neg (m * 2 ^ p.toNat / 2 ^ (-p).toNat)), true) else (0, false) := by
    intro M hM hlt h59
    rw [hM, f47_of ht hlt hneg h59 h37]
    unfold fitS
    by_cases c : lo to ≤ sg neg M ∧ sg neg M < hi to
    · rw [if_pos c, if_pos (decide_eq_true c)]
    · rw [if_neg c, if_neg (by simpa using c)]
  have small : ∀ k : Nat, m < 2 ^ k → m / 2 ^ k = 0 := fun k hk => Nat.div_eq_of_lt hk
  by_cases c0 : E = 0
  · rw [if_pos c0] at hp
    have := r0 c0
    rw [hrd] at this
    obtain ⟨_, rfl, rfl⟩ := Ieee.Datum.number.inj this
    refine key 0 ?_ (by omega) hp
    rw [show ((-1074 : Int)).toNat = 0 by decide, Nat.pow_zero, Nat.mul_one]
    refine small _ ?_
    have : (2 : Nat) ^ 52 ≤ 2 ^ (-(-1074 : Int)).toNat := Nat.pow_le_pow_right (by decide) (by decide)
    have e52 : (2 : Nat) ^ 52 = 4503599627370496 := by decide
    omega
  · rw [if_neg c0] at hp
    have := r1 (by omega) (by omega)
    rw [hrd] at this
    obtain ⟨_, rfl, rfl⟩ := Ieee.Datum.number.inj this
    by_cases c1 : E ≤ 1022
    · rw [if_pos c1] at hp
      refine key 0 ?_ (by omega) hp
      rw [show ((E : Int) - 1075).toNat = 0 by omega, Nat.pow_zero, Nat.mul_one]
      refine small _ ?_
      have : (2 : Nat) ^ 53 ≤ 2 ^ (-((E : Int) - 1075)).toNat := Nat.pow_le_pow_right (by decide) (by omega)
      have e53 : (2 : Nat) ^ 53 = 9007199254740992 := by decide
      omega
    · rw [if_neg c1] at hp
      by_cases c2 : E ≤ 1075
      · rw [if_pos c2] at hp
        refine key _ ?_ ?_ hp
        · rw [show ((E : Int) - 1075).toNat = 0 by omega, show (-((E : Int) - 1075)).toNat = 1075 - E by omega, Nat.pow_zero, Nat.mul_one]
        · exact Nat.lt_of_le_of_lt (Nat.div_le_self _ _) (by omega)
      · rw [if_neg c2] at hp
        have hpp : ((E : Int) - 1075).toNat = E - 1075 := by omega
        have hpn : (-((E : Int) - 1075)).toNat = 0 := by omega
        by_cases c3 : 1086 < E
        · rw [if_pos c3] at hp
          have hbig : 18446744073709551616 ≤ (4503599627370496 + F) * 2 ^ (E - 1075) := by
            have h1 : 2 ^ 12 ≤ 2 ^ (E - 1075) := Nat.pow_le_pow_right (by decide) (by omega)
            have h2 : 4503599627370496 * 4096 ≤ (4503599627370496 + F) * 2 ^ (E - 1075) := Nat.mul_le_mul (by omega) h1
            omega
          rw [hpp, hpn, Nat.pow_zero, Nat.div_one]
          have hr := lo_hi to
          have hno : ¬ (lo to ≤ sg neg ((4503599627370496 + F) * 2 ^ (E - 1075)) ∧ sg neg ((4503599627370496 + F) * 2 ^ (E - 1075)) < hi to) := by
            generalize (4503599627370496 + F) * 2 ^ (E - 1075) = q at hbig
            unfold sg
            cases neg <;> simp only [Bool.false_eq_true, if_false, if_true] <;> omega
          rw [if_neg (by simpa using hno)]
          unfold f47
          simp only [hp, Bool.not_false, if_true]
        · rw [if_neg c3] at hp
          refine key _ ?_ ?_ hp
          · rw [hpp, hpn, Nat.pow_zero, Nat.div_one]
          · have h1 : 2 ^ (E - 1075) ≤ 2 ^ 11 := Nat.pow_le_pow_right (by decide) (by omega)
            have h2 : (4503599627370496 + F) * 2 ^ (E - 1075) ≤ (4503599627370496 + F) * 2048 := Nat.mul_le_mul_left _ h1
            omega

theorem turns_eq (to from' : Int) : f34 to from' = f35 to from' := by
  have k38 : ∀ t : Int, f38 t = decide (2 ≤ t ∧ t ≤ 4) := by
    intro t
    unfold f38
    by_cases h2 : t = 2
    · subst h2; rfl
    by_cases h3 : t = 3
    · subst h3; rfl
    by_cases h4 : t = 4
    · subst h4; rfl
    have a2 : (t == 2) = false := by simpa using h2
    have a3 : (t == 3) = false := by simpa using h3
    have a4 : (t == 4) = false := by simpa using h4
    rw [a2, a3, a4, decide_eq_false (by omega)]; rfl
  have k5 : ∀ t : Int, (t == 5) = decide (t = 5) := fun t => rfl
  unfold f34 f35
  rw [k38, k38, k5, k5, Bool.eq_iff_iff]
  by_cases h1 : 2 ≤ to <;> by_cases h2 : to ≤ 4 <;> by_cases h3 : to = 5 <;> by_cases h4 : 2 ≤ from' <;> by_cases h5 : from' ≤ 4 <;> by_cases h6 : from' = 5 <;> simp [h1, h2, h3, h4, h5, h6] <;> omega
theorem turns_of {to from' : Int} (h : f35 to from' = true) : (Wh to ∨ to = 5) ∧ (Wh from' ∨ from' = 5) := by
  unfold f35 at h
  unfold Wh
  by_cases h1 : to ≥ 2 <;> by_cases h2 : to ≤ 5 <;> by_cases h3 : from' ≥ 2 <;> by_cases h4 : from' ≤ 5 <;> simp [h1, h2, h3, h4] at h <;> omega
theorem turn_eq (to from' : Int) {w : Int} (hw : Wd w) : f28 to from' w = f33 to from' w := by
  unfold f28 f33
  rw [turns_eq, f11_12 hw]
  cases ht : f35 to from' with
  | false => rfl
  | true =>
    obtain ⟨hto, hfr⟩ := turns_of ht
    simp only [Bool.not_true, Bool.false_eq_true, if_false]
    cases hr : f12 from' w with
    | false => rfl
    | true =>
      simp only [Bool.not_true, Bool.false_eq_true, if_false]
      have hcut : f13 from' w = w := by
        rw [← f11_12 hw] at hr
        unfold f11 at hr
        split at hr
        · split at hr
          · simpa using hr
          · cases hr
        · cases hr
      rcases hfr with hf | rfl
      · have f5 : (from' == 5) = false := by rcases hf with rfl | rfl | rfl <;> rfl
        have f5' : (from' != 5) = true := by rcases hf with rfl | rfl | rfl <;> rfl
        rcases hto with ht | rfl
        · have t5 : (to == 5) = false := by rcases ht with rfl | rfl | rfl <;> rfl
          simp only [f5, t5, Bool.false_eq_true, if_false]
          by_cases c : from' = to
          · subst c; simp only [beq_self_eq_true, if_true]; rw [hcut]
          · rw [if_neg (by simpa using c), f13_14 hw]
        · have c : (from' == (5 : Int)) = false := f5
          simp only [f5, f5', beq_self_eq_true, Bool.false_eq_true, if_false, if_true]; rfl
      · rcases hto with ht | rfl
        · have t5 : (to == 5) = false := by rcases ht with rfl | rfl | rfl <;> rfl
          have t5' : (to != 5) = true := by rcases ht with rfl | rfl | rfl <;> rfl
          have t5'' : ((5 : Int) == to) = false := by rcases ht with rfl | rfl | rfl <;> rfl
          simp only [beq_self_eq_true, if_true, t5, t5', t5'', Bool.false_eq_true, if_false]
          rw [fits_eq ht hw]
          cases f44 to (some w.toNat) <;> rfl
        · simp only [beq_self_eq_true, if_true, show ((5 : Int) != 5) = false from rfl, Bool.false_eq_true, if_false]
          rw [hcut]
theorem fitsb_eq (to from' : Int) {w : Int} (hw : Wd w) : f30 to from' w = f36 to from' w := by
  unfold f30 f36
  rw [turns_eq, f11_12 hw]
  cases ht : f35 to from' with
  | false => rfl
  | true =>
    obtain ⟨hto, hfr⟩ := turns_of ht
    rcases hto with ht | rfl
    · rw [fits_eq ht hw]
      have e : (if f44 to (some w.toNat) = true then (IntKind.u64.wrap (f2iI (some w.toNat)), true) else ((0 : Int), false)).2 = f44 to (some w.toNat) := by cases f44 to (some w.toNat) <;> rfl
      rw [e]
    · simp only [beq_self_eq_true, if_true]
theorem law_ScalarTurns {B0 n0 : Nat} {u0 : V} (g0 : u0.isAg = agOf Go.Proofs.Try.prog 22) (w0 : WfT Go.Proofs.Try.prog B0 n0 22 u0.cells)
    {B1 n1 : Nat} {u1 : V} (g1 : u1.isAg = agOf Go.Proofs.Try.prog 22) (w1 : WfT Go.Proofs.Try.prog B1 n1 22 u1.cells)
    {B2 n2 : Nat} {u2 : V} (g2 : u2.isAg = agOf Go.Proofs.Try.prog 23) (w2 : WfT Go.Proofs.Try.prog B2 n2 23 u2.cells) : Fn T 9 [u0, u1, u2] [] (fun r h => r = .bool true) := by
  obtain ⟨to, rfl, _, _⟩ := WfT.int (k := .u8) (by kernel_rfl) (by rw [g0]; decide +kernel) w0
  obtain ⟨from', rfl, _, _⟩ := WfT.int (k := .u8) (by kernel_rfl) (by rw [g1]; decide +kernel) w1
  obtain ⟨w, rfl, a0, a1⟩ := WfT.int (k := .u64) (by kernel_rfl) (by rw [g2]; decide +kernel) w2
  have hw := u64_in9 a0 a1
  have hw' : Wd (f14 from' w) := f14_nn hw
  exact (w9 to from' w hw (by rw [turn_eq to from' hw]; simp) (by rw [turn_eq to from' hw]; simp) (by rw [turns_eq]; simp) (by rw [fitsb_eq to from' hw]; simp)
    (by rw [turn_eq to from' hw']; simp) (by rw [turn_eq to from' hw']; simp) (by rw [fitsb_eq to from' hw']; simp) []).mono fun r h hr => hr.1
end Go.Eng.Sca
