/- A float times a power of two, by its parts (no condition beyond those stated). -/
import Derived.Test.YtiacbfphlgbiiaaScaQ2
namespace Go.Eng.Sca
open Go Go.Eng
set_option linter.unusedVariables false
set_option linter.unusedSimpArgs false
set_option maxHeartbeats 4000000

def LdOk (N e : Int) : Prop := 4503599627370496 ≤ N ∧ N ≤ 9007199254740992 ∧ -52 ≤ e ∧ e ≤ 11
def ldN (N e : Int) : Nat := ((e + 1074) * 4503599627370496 + N).toNat

theorem read_pos {l : Int} {K : Nat} (h0 : 4503599627370496 ≤ K) (h1 : K < 9007199254740992) (hl : -1074 ≤ l) (hl2 : l ≤ 971) :
    Ieee.double.read (((l + 1074) * 4503599627370496 + K).toNat) = .number false K l := by
  have := read_rung (s := false) h0 h1 hl hl2
  have e : Ieee.double.word false (min ((l - Ieee.double.leastPlace).toNat * Ieee.double.binade + K) Ieee.double.infRung) = ((l + 1074) * 4503599627370496 + K).toNat := by
    unfold Ieee.Format.word
    rw [D_least, D_bin, D_inf]
    simp only [Bool.false_eq_true, if_false]
    omega
  rwa [e] at this
/-- a size and a place -/
theorem parts {N : Int} (h0 : 4503599627370496 ≤ N) (h1 : N ≤ 9007199254740992) : ∃ (K : Nat) (l : Int), (l = 0 ∨ l = 1) ∧ 4503599627370496 ≤ K ∧ K < 9007199254740992 ∧ ∀ e : Int, (e + 1074) * 4503599627370496 + N = (l + e + 1074) * 4503599627370496 + K := by
  by_cases c : N < 9007199254740992
  · exact ⟨N.toNat, 0, .inl rfl, by omega, by omega, fun e => by omega⟩
  · exact ⟨4503599627370496, 1, .inr rfl, by omega, by omega, fun e => by omega⟩
theorem log2_of {n k : Nat} (h0 : 2 ^ k ≤ n) (h1 : n < 2 ^ (k + 1)) : n.log2 = k := by
  have hn : n ≠ 0 := by have := Nat.two_pow_pos k; omega
  exact (Nat.log2_eq_iff hn).2 ⟨h0, h1⟩
theorem word_min {l : Int} {K : Nat} (h1 : K < 9007199254740992) (hl : -1074 ≤ l) (hl2 : l ≤ 971) :
    Ieee.double.word false (min ((l - Ieee.double.leastPlace).toNat * Ieee.double.binade + K) Ieee.double.infRung) = ((l + 1074) * 4503599627370496 + K).toNat := by
  unfold Ieee.Format.word
  rw [D_least, D_bin, D_inf]
  simp only [Bool.false_eq_true, if_false]
  omega
/-- a whole number of 53 digits as a float -/
theorem flt53 {N : Int} (h0 : 4503599627370496 ≤ N) (h1 : N ≤ 9007199254740992) : Ieee.double.write (.number (N < 0) N.natAbs 0) = ldN N 0 := by
  have hs : decide (N < 0) = false := decide_eq_false (by omega)
  rw [hs]
  show Ieee.double.nearest false N.natAbs 0 = _
  unfold Ieee.Format.nearest
  rw [if_neg (by omega)]
  simp only [D_frac]
  by_cases c : N < 9007199254740992
  · have hl : N.natAbs.log2 = 52 := log2_of (by show 4503599627370496 ≤ _; omega) (by show _ < 9007199254740992; omega)
    rw [hl]
    have e : max ((0 : Int) + (52 : Nat) - (52 : Nat)) Ieee.double.leastPlace = 0 := by rw [D_least]; decide
    rw [e, show ((0 : Int) - 0).toNat = 0 by decide, cut_even_none, Nat.shiftLeft_zero, word_min (by omega) (by decide) (by decide)]
    unfold ldN; omega
  · have hN : N = 9007199254740992 := by omega
    subst hN; decide
theorem one_mul_fl {l : Int} {K : Nat} (h0 : 4503599627370496 ≤ K) (h1 : K < 9007199254740992) (hl : -1000 ≤ l) (hl2 : l ≤ 900) :
    flA Ieee.double.mul (some 4607182418800017408) (some (((l + 1074) * 4503599627370496 + K).toNat)) = some (((l + 1074) * 4503599627370496 + K).toNat) := by
  show ((Ieee.double.read 4607182418800017408).product (Ieee.double.read (((l + 1074) * 4503599627370496 + K).toNat))).map Ieee.double.write = _
  rw [read_pos h0 h1 (by omega) (by omega), show Ieee.double.read 4607182418800017408 = .number false 4503599627370496 (-52) by decide]
  show some (Ieee.double.nearest (false ^^ false) (4503599627370496 * K) (-52 + l)) = _
  congr 1
  have hm : 4503599627370496 * K ≠ 0 := by omega
  have hlog : (4503599627370496 * K).log2 = 104 := by
    refine log2_of ?_ ?_
    · have : 4503599627370496 * 4503599627370496 ≤ 4503599627370496 * K := Nat.mul_le_mul_left _ h0
      exact this
    · have : 4503599627370496 * K < 4503599627370496 * 9007199254740992 := Nat.mul_lt_mul_of_pos_left h1 (by decide)
      exact this
  unfold Ieee.Format.nearest
  rw [if_neg hm]
  simp only [D_frac, hlog]
  have e : max (-52 + l + (104 : Nat) - (52 : Nat)) Ieee.double.leastPlace = l := by rw [D_least]; omega
  rw [e, show (-52 + l - l).toNat = 0 by omega, show (l - (-52 + l)).toNat = 52 by omega, Nat.shiftLeft_zero]
  have hd : 2 ^ 52 ∣ 4503599627370496 * K := ⟨K, rfl⟩
  rw [cut_even_all (by rw [hlog]; decide) hd, show 4503599627370496 * K / 2 ^ 52 = K from Nat.mul_div_cancel_left K (by decide)]
  exact word_min h1 (by omega) (by omega)
theorem and_low {X : Nat} (h : X < 9223372036854775808) : (BitVec.ofInt IntKind.u64.bits ((X : Nat) : Int) &&& ~~~(BitVec.ofInt IntKind.u64.bits (9218868437227405312 : Int))).toNat = X % 4503599627370496 := by
  have e1 : (BitVec.ofInt IntKind.u64.bits ((X : Nat) : Int)).toNat = X := by
    have := ofI (w := (X : Int)) ⟨by omega, by omega⟩
    rw [this]; rfl
  have e2 : (~~~(BitVec.ofInt IntKind.u64.bits (9218868437227405312 : Int))).toNat = 2 ^ 63 ||| (2 ^ 52 - 1) := by decide
  rw [BitVec.toNat_and, e1, e2]
  apply Nat.eq_of_testBit_eq
  intro i
  rw [Nat.testBit_and, Nat.testBit_or, Nat.testBit_two_pow_sub_one, show (4503599627370496 : Nat) = 2 ^ 52 from rfl, Nat.testBit_mod_two_pow, Nat.testBit_two_pow]
  by_cases c : 63 = i
  · subst c
    have : X.testBit 63 = false := Nat.testBit_lt_two_pow h
    simp [this]
  · simp [c, Bool.and_comm]
theorem abs_same {X : Nat} (h : X < 9223372036854775808) : f57 X = some X := by
  unfold f57
  have e1 : (BitVec.ofInt IntKind.u64.bits ((X : Nat) : Int)).toNat = X := by
    have := ofI (w := (X : Int)) ⟨by omega, by omega⟩
    rw [this]; rfl
  have e2 : (~~~(BitVec.ofInt IntKind.u64.bits (9223372036854775808 : Int))).toNat = 2 ^ 63 - 1 := by decide
  have e : (BitVec.ofInt IntKind.u64.bits ((X : Nat) : Int) &&& ~~~(BitVec.ofInt IntKind.u64.bits (9223372036854775808 : Int))).toNat = X := by
    rw [BitVec.toNat_and, e1, e2, Nat.and_two_pow_sub_one_eq_mod, Nat.mod_eq_of_lt h]
  rw [e, IntKind.wrap_u64]
  congr 1
theorem or_high {F G : Nat} (hF : F < 4503599627370496) (hG : G < 4096) : (BitVec.ofInt IntKind.u64.bits ((F : Nat) : Int) ||| BitVec.ofInt IntKind.u64.bits (((G * 4503599627370496 : Nat)) : Int)).toNat = G * 4503599627370496 + F := by
  have e1 : (BitVec.ofInt IntKind.u64.bits ((F : Nat) : Int)).toNat = F := by
    have := ofI (w := (F : Int)) ⟨by omega, by omega⟩
    rw [this]; rfl
  have e2 : (BitVec.ofInt IntKind.u64.bits (((G * 4503599627370496 : Nat)) : Int)).toNat = G * 4503599627370496 := by
    have := ofI (w := ((G * 4503599627370496 : Nat) : Int)) ⟨by omega, by omega⟩
    rw [this]; rfl
  rw [BitVec.toNat_or, e1, e2, Nat.or_comm]
  have := Nat.two_pow_add_eq_or_of_lt (i := 52) (b := F) hF G
  rw [show (2 : Nat) ^ 52 = 4503599627370496 from rfl] at this
  rw [Nat.mul_comm G, ← this]

theorem ld64 {N e : Int} (h : LdOk N e) (H : Heap) : PC T H 64 [.fl (some (ldN N 0)), .int .i64 e] (.fl (some (ldN N e))) := by
  obtain ⟨h0, h1, e0, e1⟩ := h
  obtain ⟨K, l, hl, k0, k1, hp⟩ := parts h0 h1
  have hl2 : 0 ≤ l ∧ l ≤ 1 := by omega
  have hX : ldN N 0 = ((l + 1074) * 4503599627370496 + K).toNat := by
    unfold ldN; rw [hp 0]; congr 3; omega
  have hR : ldN N e = ((l + e + 1074) * 4503599627370496 + K).toNat := by unfold ldN; rw [hp e]
  have rX : Ieee.double.read (ldN N 0) = .number false K l := by rw [hX]; exact read_pos k0 k1 (by omega) (by omega)
  have xlt : ldN N 0 < 9223372036854775808 := by rw [hX]; omega
  have q1 : ∀ n : Nat, 1 ≤ 2 ^ n := fun n => Nat.one_le_two_pow
  have n0 : (flO (f57 (ldN N 0)) (some 4503599627370496) == some .lt) = false := by
    rw [abs_same xlt]
    have : flO (some (ldN N 0)) (some 4503599627370496) = some (compare (Ieee.signed false K (l - min l (-1074)).toNat) (Ieee.signed false 4503599627370496 (-1074 - min l (-1074)).toNat)) := by
      show (Ieee.double.read (ldN N 0)).order (Ieee.double.read 4503599627370496) = _
      rw [rX, show Ieee.double.read 4503599627370496 = .number false 4503599627370496 (-1074) by decide]; rfl
    rw [this, show min l (-1074) = -1074 by omega, show ((-1074 : Int) - -1074).toNat = 0 by decide, signed_eq, signed_eq, Int.pow_zero, Int.mul_one]
    have e : sg false K * (2 : Int) ^ (l - -1074).toNat = ((K * 2 ^ (l - -1074).toNat : Nat) : Int) := by unfold sg; simp
    have hge : K ≤ K * 2 ^ (l - -1074).toNat := Nat.le_mul_of_pos_right _ (q1 _)
    rw [e]
    generalize K * 2 ^ (l - -1074).toNat = q at hge
    show (some (compare (q : Int) ((4503599627370496 : Nat) : Int)) == some Ordering.lt) = false
    rw [cmp_int, if_neg (by omega)]
    split <;> rfl
  have o0 : (flO (some (ldN N 0)) (some 0) == some .eq) = false := by
    have : flO (some (ldN N 0)) (some 0) = some (compare (Ieee.signed false K (l - min l (-1074)).toNat) (Ieee.signed false 0 (-1074 - min l (-1074)).toNat)) := by
      show (Ieee.double.read (ldN N 0)).order (Ieee.double.read 0) = _
      rw [rX, show Ieee.double.read 0 = .number false 0 (-1074) by decide]; rfl
    rw [this, show min l (-1074) = -1074 by omega, show ((-1074 : Int) - -1074).toNat = 0 by decide, signed_eq, signed_eq, Int.pow_zero, Int.mul_one]
    have e : sg false K * (2 : Int) ^ (l - -1074).toNat = ((K * 2 ^ (l - -1074).toNat : Nat) : Int) := by unfold sg; simp
    have hge : K ≤ K * 2 ^ (l - -1074).toNat := Nat.le_mul_of_pos_right _ (q1 _)
    rw [e]
    generalize K * 2 ^ (l - -1074).toNat = q at hge
    show (some (compare (q : Int) ((0 : Nat) : Int)) == some Ordering.eq) = false
    rw [cmp_int, if_neg (by omega), if_neg (by omega)]; rfl
  have o1 : f65 (ldN N 0) 0 = false := by
    show (flO (f57 (ldN N 0)) (some 9218868437227405311) == some .gt) = false
    rw [abs_same xlt]
    have : flO (some (ldN N 0)) (some 9218868437227405311) = some (compare (Ieee.signed false K (l - min l 971).toNat) (Ieee.signed false 9007199254740991 (971 - min l 971).toNat)) := by
      show (Ieee.double.read (ldN N 0)).order (Ieee.double.read 9218868437227405311) = _
      rw [rX, show Ieee.double.read 9218868437227405311 = .number false 9007199254740991 971 by decide]; rfl
    rw [this, show min l 971 = l by omega, show (l - l).toNat = 0 by omega, signed_eq, signed_eq, Int.pow_zero, Int.mul_one]
    have e : sg false 9007199254740991 * (2 : Int) ^ (971 - l).toNat = ((9007199254740991 * 2 ^ (971 - l).toNat : Nat) : Int) := by unfold sg; simp
    have hge : 9007199254740991 ≤ 9007199254740991 * 2 ^ (971 - l).toNat := Nat.le_mul_of_pos_right _ (q1 _)
    rw [e]
    generalize 9007199254740991 * 2 ^ (971 - l).toNat = q at hge
    show (some (compare (K : Int) (q : Int)) == some Ordering.gt) = false
    rw [cmp_int]
    by_cases c : (K : Int) < q
    · rw [if_pos c]; rfl
    · rw [if_neg c, if_pos (by omega)]; rfl
  have o2 : f66 (ldN N 0) = false := by
    show (flO (some (ldN N 0)) (some (ldN N 0)) != some .eq) = false
    have : flO (some (ldN N 0)) (some (ldN N 0)) = some (compare (Ieee.signed false K (l - min l l).toNat) (Ieee.signed false K (l - min l l).toNat)) := by
      show (Ieee.double.read (ldN N 0)).order (Ieee.double.read (ldN N 0)) = _
      rw [rX]; rfl
    rw [this]
    generalize Ieee.signed false K (l - min l l).toNat = x
    have : compare x x = Ordering.eq := Std.ReflCmp.compare_self
    rw [this]; rfl
  -- the place's digits
  have fdv : (((ldN N 0 : Nat)) : Int).fdiv (2 ^ (min (52 : Int).toNat IntKind.u64.bits)) = l + 1075 := by
    rw [show (2 : Int) ^ (min (52 : Int).toNat IntKind.u64.bits) = 4503599627370496 from by decide, Int.fdiv_eq_ediv_of_nonneg _ (by decide), hX]
    omega
  have ex : (IntKind.i64.wrap ((BitVec.ofInt IntKind.i64.bits (IntKind.i64.wrap (((ldN N 0 : Nat) : Int).fdiv (2 ^ (min (52 : Int).toNat IntKind.u64.bits)))) &&& BitVec.ofInt IntKind.i64.bits (2047 : Int)).toNat : Int)) = l + 1075 := by
    rw [fdv]
    rcases hl with rfl | rfl <;> decide
  have ee : (IntKind.i64.wrap ((IntKind.i64.wrap (e + (0 : Int))) + (IntKind.i64.wrap ((IntKind.i64.wrap ((BitVec.ofInt IntKind.i64.bits (IntKind.i64.wrap (((ldN N 0 : Nat) : Int).fdiv (2 ^ (min (52 : Int).toNat IntKind.u64.bits)))) &&& BitVec.ofInt IntKind.i64.bits (2047 : Int)).toNat : Int)) - (1023 : Int))))) = e + l + 52 := by
    rw [ex]
    simp only [IntKind.wrap_i64]; omega
  have w := c64 (ldN N 0) e n0 o0 o1 o2 (by rw [ee]; exact decide_eq_false (by omega)) (by rw [ee]; exact decide_eq_false (by omega)) (by rw [ee]; exact decide_eq_false (by omega)) H
  have em : IntKind.u64.wrap (IntKind.i64.wrap (e + l + 52 + (1023 : Int))) = ((e + l + 1075).toNat : Int) := by
    simp only [IntKind.wrap_u64, IntKind.wrap_i64]; omega
  have p52 : (2 : Int) ^ (min (52 : Int).toNat IntKind.u64.bits) = 4503599627370496 := by decide
  have eg : IntKind.u64.wrap (((e + l + 1075).toNat : Int) * 4503599627370496) = (((e + l + 1075).toNat * 4503599627370496 : Nat) : Int) := by
    rw [IntKind.wrap_u64]; omega
  have el : IntKind.u64.wrap ((BitVec.ofInt IntKind.u64.bits ((ldN N 0 : Nat) : Int) &&& ~~~(BitVec.ofInt IntKind.u64.bits (9218868437227405312 : Int))).toNat : Int) = ((ldN N 0 % 4503599627370496 : Nat) : Int) := by
    rw [and_low xlt, IntKind.wrap_u64]; omega
  have hlow := Nat.mod_lt (ldN N 0) (show 0 < 4503599627370496 by decide)
  have eo := or_high (F := ldN N 0 % 4503599627370496) (G := (e + l + 1075).toNat) hlow (by omega)
  rw [ee, em, p52, eg, el, eo] at w
  have hF : ldN N 0 % 4503599627370496 = K - 4503599627370496 := by
    have : ldN N 0 = (l + 1075).toNat * 4503599627370496 + (K - 4503599627370496) := by rw [hX]; omega
    rw [this, Nat.add_comm, Nat.add_mul_mod_self_right, Nat.mod_eq_of_lt (by omega)]
  have fin : (IntKind.u64.wrap (((e + l + 1075).toNat * 4503599627370496 + ldN N 0 % 4503599627370496 : Nat) : Int)).toNat = ((l + e + 1074) * 4503599627370496 + K).toNat := by
    rw [hF]
    have key : (((e + l + 1075).toNat * 4503599627370496 + (K - 4503599627370496) : Nat) : Int) = (l + e + 1074) * 4503599627370496 + K := by
      rw [Int.natCast_add, Int.natCast_mul, Int.natCast_sub k0, Int.toNat_of_nonneg (by omega)]
      show (e + l + 1075) * (4503599627370496 : Int) + ((K : Int) - 4503599627370496) = _
      omega
    rw [key, IntKind.wrap_u64, Int.emod_eq_of_lt (by omega) (by omega)]
  rw [fin, one_mul_fl k0 k1 (by omega) (by omega), ← hR] at w
  exact w
theorem w61 {N e : Int} (h : LdOk N e) (H : Heap) : Fn T 61 [.fl (some (ldN N 0)), .int .i64 e] H (fun r h => r = .fl (some (ldN N e)) ∧ h = H) := by
  refine Fn.enter t61 ?_; simp only [i61, List.length_cons, List.length_nil, Nat.reduceAdd, Nat.reduceSub, List.replicate_succ, List.replicate_zero, List.cons_append, List.nil_append]
  refine Run.seqr ?_; simp only [i61r0, exOps_nil, exOps_cons, bindO_some, mapQ_some, mapW_some, x_mov, x_pick, x_bin, x_un, x_cvt, x_ld, x_b2s, x_idxa, x_idxs, x_fld, x_flda, x_boxf, x_boxr, x_bld, x_bslf, x_slc, x_len, x_ext, x_nchk, x_mkf, x_mki, x_fbin, x_fneg, x_i2f, x_f2i, x_xc, x_eqs, xl_ld, xl_b2s, x_st, x_boxh, x_alloc, x_bslh, x_mks, x_app, exOp_gt, exOp_gf, exOp_gf2, exOp_gs, put_some, put_none, ev_t, ev_c, List.getD_cons_zero, List.getD_cons_succ, List.set_cons_zero, List.set_cons_succ, Option.map_some, Option.map_none, optB_some, if_true, Bool.false_eq_true, if_false, ne_eq, reduceCtorEq, not_false_eq_true, not_true_eq_false, Bool.true_eq_false, len_vis, lenV_fz, lenV_sl, lenV_nils, lenV_str, binV, intB, unV, ld_fp_int, ld_fp_bool, ld_fp_str, ld_fp_fz, ld_fp_vis, ld_fp_sl, ld_fp_nils, ld_fp_ptr, ld_fp_fpp, ld_fp_nilp, ld_bx_int, ld_bx_bool, ld_bx_str, ld_bx_fz, ld_bx_vis, ld_bx_sl, ld_bx_nils, ld_bx_ptr, ld_bx_fpp, ld_bx_nilp, List.length_cons, List.length_nil, beq_self_eq_true, Bool.and_self, Bool.and_true, Bool.true_and]
  refine Run.seq (Run.ite (by rfl) (fun h => by cases h) (fun _ => ?_))
  refine Run.skip ?_
  show Run T _ _ _ _
  refine Run.seq (Run.rgn ?_)
  refine RunO.pre 2 ?_; simp only [i61r4, List.take_succ_cons, List.take_zero, List.drop_succ_cons, List.drop_zero, exOps_nil, exOps_cons, bindO_some, mapQ_some, mapW_some, x_mov, x_pick, x_bin, x_un, x_cvt, x_ld, x_b2s, x_idxa, x_idxs, x_fld, x_flda, x_boxf, x_boxr, x_bld, x_bslf, x_slc, x_len, x_ext, x_nchk, x_mkf, x_mki, x_fbin, x_fneg, x_i2f, x_f2i, x_xc, x_eqs, xl_ld, xl_b2s, x_st, x_boxh, x_alloc, x_bslh, x_mks, x_app, exOp_gt, exOp_gf, exOp_gf2, exOp_gs, put_some, put_none, ev_t, ev_c, List.getD_cons_zero, List.getD_cons_succ, List.set_cons_zero, List.set_cons_succ, Option.map_some, Option.map_none, optB_some, if_true, Bool.false_eq_true, if_false, ne_eq, reduceCtorEq, not_false_eq_true, not_true_eq_false, Bool.true_eq_false, len_vis, lenV_fz, lenV_sl, lenV_nils, lenV_str, binV, intB, unV, ld_fp_int, ld_fp_bool, ld_fp_str, ld_fp_fz, ld_fp_vis, ld_fp_sl, ld_fp_nils, ld_fp_ptr, ld_fp_fpp, ld_fp_nilp, ld_bx_int, ld_bx_bool, ld_bx_str, ld_bx_fz, ld_bx_vis, ld_bx_sl, ld_bx_nils, ld_bx_ptr, ld_bx_fpp, ld_bx_nilp, List.length_cons, List.length_nil, beq_self_eq_true, Bool.and_self, Bool.and_true, Bool.true_and]
  refine RunO.c (ld64 h _) ?_
  refine RunO.all ?_; simp only [exOps_nil, exOps_cons, bindO_some, mapQ_some, mapW_some, x_mov, x_pick, x_bin, x_un, x_cvt, x_ld, x_b2s, x_idxa, x_idxs, x_fld, x_flda, x_boxf, x_boxr, x_bld, x_bslf, x_slc, x_len, x_ext, x_nchk, x_mkf, x_mki, x_fbin, x_fneg, x_i2f, x_f2i, x_xc, x_eqs, xl_ld, xl_b2s, x_st, x_boxh, x_alloc, x_bslh, x_mks, x_app, exOp_gt, exOp_gf, exOp_gf2, exOp_gs, put_some, put_none, ev_t, ev_c, List.getD_cons_zero, List.getD_cons_succ, List.set_cons_zero, List.set_cons_succ, Option.map_some, Option.map_none, optB_some, if_true, Bool.false_eq_true, if_false, ne_eq, reduceCtorEq, not_false_eq_true, not_true_eq_false, Bool.true_eq_false, len_vis, lenV_fz, lenV_sl, lenV_nils, lenV_str, binV, intB, unV, ld_fp_int, ld_fp_bool, ld_fp_str, ld_fp_fz, ld_fp_vis, ld_fp_sl, ld_fp_nils, ld_fp_ptr, ld_fp_fpp, ld_fp_nilp, ld_bx_int, ld_bx_bool, ld_bx_str, ld_bx_fz, ld_bx_vis, ld_bx_sl, ld_bx_nils, ld_bx_ptr, ld_bx_fpp, ld_bx_nilp, List.length_cons, List.length_nil, beq_self_eq_true, Bool.and_self, Bool.and_true, Bool.true_and]
  exact Run.ret ⟨rfl, rfl⟩
theorem c61n (N e : Int) (h : LdOk N e) (H : Heap) : PC T H 61 [.fl (some (Ieee.double.write (.number (N < 0) N.natAbs 0))), .int .i64 e] (.fl (some (ldN N e))) := by
  rw [flt53 h.1 h.2.1]
  exact PC.now rfl rfl (w61 h)
end Go.Eng.Sca
