/- The float nearest to a whole number: the document's way is the machine's (no condition beyond those stated). -/
import Derived.Test.YtiacbfphlgbiiaaScaR
import Derived.Test.YtiacbfphlgbiiaaScaLen
namespace Go.Eng.Sca
open Go Go.Eng
set_option linter.unusedVariables false
set_option linter.unusedSimpArgs false
set_option maxHeartbeats 4000000

def kept (n d : Nat) : Nat := n / 2 ^ d + (decide (2 ^ d < 2 * (n % 2 ^ d)) || (2 ^ d == 2 * (n % 2 ^ d) && (n / 2 ^ d) % 2 == 1)).toNat
theorem cut_even_eq {s : Bool} {n d : Nat} (h : d ≤ n.log2 + 2) : Ieee.Toward.even.cut s n d = kept n d := by
  unfold Ieee.Toward.cut kept
  dsimp only
  rw [Nat.min_eq_left h, Nat.shiftLeft_eq, Nat.one_mul]
theorem word_neg {x : Nat} (h : x < 9223372036854775808) : Ieee.double.word true x = x ^^^ 9223372036854775808 := by
  unfold Ieee.Format.word
  rw [D_sw, if_pos rfl]
  have e : 9223372036854775808 + x = 9223372036854775808 ||| x := by
    have := Nat.two_pow_add_eq_or_of_lt (i := 63) (b := x) h 1
    simpa using this
  rw [e]
  apply Nat.eq_of_testBit_eq
  intro i
  rw [Nat.testBit_or, Nat.testBit_xor, show (9223372036854775808 : Nat) = 2 ^ 63 from rfl, Nat.testBit_two_pow]
  by_cases c : 63 = i
  · subst c
    have : x.testBit 63 = false := Nat.testBit_lt_two_pow h
    simp [this]
  · simp [c]
/-- the nearest float, by its parts -/
theorem near_low {s : Bool} {n : Nat} (hn : n ≠ 0) (h : n.log2 ≤ 52) : Ieee.double.nearest s n 0 = Ieee.double.word s (((n.log2 : Int) - 52 + 1074) * 4503599627370496 + (n * 2 ^ (52 - n.log2) : Nat)).toNat ∧ 4503599627370496 ≤ n * 2 ^ (52 - n.log2) ∧ n * 2 ^ (52 - n.log2) < 9007199254740992 := by
  have h0 := Nat.log2_self_le hn
  have h1 : n < 2 ^ (n.log2 + 1) := Nat.lt_log2_self
  have k0 : 4503599627370496 ≤ n * 2 ^ (52 - n.log2) := by
    have : 2 ^ n.log2 * 2 ^ (52 - n.log2) ≤ n * 2 ^ (52 - n.log2) := Nat.mul_le_mul_right _ h0
    rw [← Nat.pow_add, show n.log2 + (52 - n.log2) = 52 by omega] at this
    exact this
  have k1 : n * 2 ^ (52 - n.log2) < 9007199254740992 := by
    have : n * 2 ^ (52 - n.log2) < 2 ^ (n.log2 + 1) * 2 ^ (52 - n.log2) := Nat.mul_lt_mul_of_pos_right h1 (Nat.two_pow_pos _)
    rw [← Nat.pow_add, show n.log2 + 1 + (52 - n.log2) = 53 by omega] at this
    exact this
  refine ⟨?_, k0, k1⟩
  unfold Ieee.Format.nearest
  rw [if_neg hn]
  simp only [D_frac]
  have hlast : max ((0 : Int) + (n.log2 : Nat) - (52 : Nat)) Ieee.double.leastPlace = (n.log2 : Int) - 52 := by rw [D_least]; omega
  rw [hlast, show ((0 : Int) - ((n.log2 : Int) - 52)).toNat = 52 - n.log2 by omega, show ((n.log2 : Int) - 52 - 0).toNat = 0 by omega, cut_even_none, Nat.shiftLeft_eq, D_least, D_bin, D_inf]
  congr 1
  generalize n * 2 ^ (52 - n.log2) = q at k0 k1
  omega
theorem near_high {s : Bool} {n : Nat} (hn : n ≠ 0) (h : 52 < n.log2) (h63 : n.log2 ≤ 63) : Ieee.double.nearest s n 0 = Ieee.double.word s (((n.log2 : Int) - 52 + 1074) * 4503599627370496 + (kept n (n.log2 - 52) : Nat)).toNat ∧ 4503599627370496 ≤ n / 2 ^ (n.log2 - 52) ∧ n / 2 ^ (n.log2 - 52) < 9007199254740992 := by
  have h0 := Nat.log2_self_le hn
  have h1 : n < 2 ^ (n.log2 + 1) := Nat.lt_log2_self
  have hp := Nat.two_pow_pos (n.log2 - 52)
  have k0 : 4503599627370496 ≤ n / 2 ^ (n.log2 - 52) := by
    refine (Nat.le_div_iff_mul_le hp).2 ?_
    have e : (4503599627370496 : Nat) = 2 ^ 52 := by decide
    rw [e, ← Nat.pow_add, show 52 + (n.log2 - 52) = n.log2 by omega]; exact h0
  have k1 : n / 2 ^ (n.log2 - 52) < 9007199254740992 := by
    refine (Nat.div_lt_iff_lt_mul hp).2 ?_
    have e : (9007199254740992 : Nat) = 2 ^ 53 := by decide
    rw [e, ← Nat.pow_add, show 53 + (n.log2 - 52) = n.log2 + 1 by omega]; exact h1
  refine ⟨?_, k0, k1⟩
  unfold Ieee.Format.nearest
  rw [if_neg hn]
  dsimp only
  rw [D_frac]
  have hlast : max ((0 : Int) + (n.log2 : Nat) - (52 : Nat)) Ieee.double.leastPlace = (n.log2 : Int) - 52 := by rw [D_least]; omega
  rw [hlast, show ((0 : Int) - ((n.log2 : Int) - 52)).toNat = 0 by omega, show ((n.log2 : Int) - 52 - 0).toNat = n.log2 - 52 by omega, Nat.shiftLeft_zero, cut_even_eq (by omega), D_least, D_bin, D_inf]
  have hk : kept n (n.log2 - 52) ≤ n / 2 ^ (n.log2 - 52) + 1 := by
    unfold kept
    have := Bool.toNat_le (decide (2 ^ (n.log2 - 52) < 2 * (n % 2 ^ (n.log2 - 52))) || (2 ^ (n.log2 - 52) == 2 * (n % 2 ^ (n.log2 - 52)) && (n / 2 ^ (n.log2 - 52)) % 2 == 1))
    omega
  congr 1
  generalize kept n (n.log2 - 52) = q at hk
  generalize n / 2 ^ (n.log2 - 52) = q' at hk k0 k1
  omega
theorem kept_rng {n d : Nat} (k0 : 4503599627370496 ≤ n / 2 ^ d) (k1 : n / 2 ^ d < 9007199254740992) : 4503599627370496 ≤ kept n d ∧ kept n d ≤ 9007199254740992 := by
  unfold kept
  have := Bool.toNat_le (decide (2 ^ d < 2 * (n % 2 ^ d)) || (2 ^ d == 2 * (n % 2 ^ d) && (n / 2 ^ d) % 2 == 1))
  omega
def flt' (n : Int) : Nat := Ieee.double.write (.number (n < 0) n.natAbs 0)
theorem pow_le12 {k : Nat} (h : k ≤ 11) : (2 : Int) ^ k ≤ 2048 := by
  have h1 : (2 : Nat) ^ k ≤ 2 ^ 11 := Nat.pow_le_pow_right (by decide) h
  have e : ((2 : Int) ^ k) = ((2 ^ k : Nat) : Int) := by simp
  have e2 : (2 : Nat) ^ 11 = 2048 := by decide
  rw [e]; omega
theorem near_ok {w : Int} (h : Wd w) (H : Heap) : PC T H 48 [.int .u64 w] (.int .u64 (flt' (IntKind.i64.wrap w) : Int)) := by
  have h60 := size_of h
  have hS := i64_of h
  obtain ⟨w0, w1⟩ := h
  -- size and sign
  obtain ⟨n, neg, hn, hnb, hf⟩ : ∃ (n : Nat) (neg : Bool), f60 w = ((n : Int), neg) ∧ n ≤ 9223372036854775808 ∧ flt' (IntKind.i64.wrap w) = Ieee.double.nearest neg n 0 := by
    by_cases c : 9223372036854775808 ≤ w
    · refine ⟨(18446744073709551616 - w).toNat, true, ?_, by omega, ?_⟩
      · rw [h60, if_pos c]; congr 1; omega
      · rw [hS, if_pos c]
        show Ieee.double.nearest (decide (w - 18446744073709551616 < 0)) (w - 18446744073709551616).natAbs 0 = _
        rw [decide_eq_true (by omega)]; congr 1; omega
    · refine ⟨w.toNat, false, ?_, by omega, ?_⟩
      · rw [h60, if_neg c]; congr 1; omega
      · rw [hS, if_neg c]
        show Ieee.double.nearest (decide (w < 0)) w.natAbs 0 = _
        rw [decide_eq_false (by omega)]; congr 1; omega
  rw [hf]
  by_cases hz : n = 0
  · subst hz
    have e : f48 w = (Ieee.double.nearest neg 0 0 : Int) → PC T H 48 [.int .u64 w] (.int .u64 (Ieee.double.nearest neg 0 0 : Int)) := fun e => by
      have c0 : ((f60 w).1 == 0) = true := by rw [hn]; rfl
      have hn0 : (f60 w).1 = 0 := by rw [hn]; rfl
      have := c48 w (fun c => by rw [hn0] at c; exact absurd c (by decide)) (fun c => by rw [c0] at c; cases c) (fun c => by rw [c0] at c; cases c) (fun c => by rw [c0] at c; cases c) (fun c => by rw [c0] at c; cases c) (fun c => by rw [c0] at c; cases c) H
      rwa [e] at this
    refine e ?_
    have hneg : neg = false := by
      by_cases c : 9223372036854775808 ≤ w
      · rw [h60, if_pos c] at hn
        have := congrArg Prod.fst hn
        simp only at this; omega
      · rw [h60, if_neg c] at hn
        have := congrArg Prod.snd hn
        exact this.symm
    have hn0 : (f60 w).1 = 0 := by rw [hn]; rfl
    rw [hneg]
    unfold f48
    rw [if_pos (by rw [hn0]; rfl)]; rfl
  have hL : n.log2 ≤ 63 := by
    have : n.log2 < 64 := (Nat.log2_lt hz).2 (by show n < 18446744073709551616; omega)
    omega
  have hbl : f32 (n : Int) = (n.log2 : Int) + 1 := by
    rw [len_bl ⟨by omega, by omega⟩]
    unfold bl
    rw [Int.toNat_natCast, if_neg hz]; omega
  have c0 : ((n : Int) == 0) = false := by
    have : (n : Int) ≠ 0 := by omega
    simpa using this
  have he : IntKind.i64.wrap (f32 (n : Int) - 53) = (n.log2 : Int) - 52 := by rw [hbl, IntKind.wrap_i64]; omega
  have sgn : ∀ N e : Int, LdOk N e → Ieee.double.nearest neg n 0 = Ieee.double.word neg ((e + 1074) * 4503599627370496 + N).toNat → (if neg then (((ldN N e ^^^ 9223372036854775808 : Nat)) : Int) else ((ldN N e : Nat) : Int)) = (Ieee.double.nearest neg n 0 : Int) := by
    intro N e hk e1
    have hlt : ((e + 1074) * 4503599627370496 + N).toNat < 9223372036854775808 := by
      obtain ⟨k0, k1, k2, k3⟩ := hk; omega
    rw [e1]
    cases neg with
    | true => rw [if_pos rfl, word_neg hlt]; rfl
    | false => rw [if_neg (by decide)]; rfl
  by_cases hl : n.log2 ≤ 52
  · obtain ⟨e1, k0, k1⟩ := near_low (s := neg) hz hl
    have ce : decide (IntKind.i64.wrap (f32 (n : Int) - 53) > 0) = false := by rw [he]; exact decide_eq_false (by omega)
    have hN : IntKind.u64.wrap ((n : Int) * 2 ^ (min (IntKind.u64.wrap (IntKind.i64.wrap (0 - IntKind.i64.wrap (f32 (n : Int) - 53)))).toNat IntKind.u64.bits)) = ((n * 2 ^ (52 - n.log2) : Nat) : Int) := by
      have a1 : IntKind.u64.wrap (IntKind.i64.wrap (0 - IntKind.i64.wrap (f32 (n : Int) - 53))) = ((52 - n.log2 : Nat) : Int) := by
        rw [he]; simp only [IntKind.wrap_u64, IntKind.wrap_i64]; omega
      have a2 : min ((52 - n.log2 : Nat) : Int).toNat IntKind.u64.bits = 52 - n.log2 := by
        show min _ 64 = _
        rw [Int.toNat_natCast]; omega
      have a3 : (n : Int) * 2 ^ (52 - n.log2) = ((n * 2 ^ (52 - n.log2) : Nat) : Int) := by simp
      rw [a1, a2, a3, IntKind.wrap_u64]
      generalize n * 2 ^ (52 - n.log2) = q at k0 k1
      omega
    have ok : LdOk ((n * 2 ^ (52 - n.log2) : Nat) : Int) ((n.log2 : Int) - 52) := by
      generalize n * 2 ^ (52 - n.log2) = q at k0 k1
      exact ⟨by omega, by omega, by omega, by omega⟩
    have c := c48 w (fun c => by rw [hn] at c; rw [ce] at c; cases c) (fun _ c => by rw [hn] at c; rw [ce] at c; cases c) (fun _ c => by rw [hn] at c; rw [ce] at c; cases c) (fun _ c => by rw [hn] at c; rw [ce] at c; cases c) (fun _ c => by rw [hn] at c; rw [ce] at c; cases c)
      (fun _ _ => by rw [hn]; dsimp only; rw [hN, he]; exact ok) H
    have ef : f48 w = (Ieee.double.nearest neg n 0 : Int) := by
      unfold f48
      rw [hn]
      dsimp only
      rw [ite_f c0, ite_f ce, hN, he]
      exact sgn _ _ ok e1
    rwa [ef] at c
  · obtain ⟨e1, k0, k1⟩ := near_high (s := neg) hz (by omega) hL
    obtain ⟨d, hd⟩ : ∃ d : Nat, n.log2 - 52 = d := ⟨_, rfl⟩
    have hd2 : (n.log2 : Int) - 52 = d := by omega
    have hd1 : 1 ≤ d ∧ d ≤ 11 := by omega
    rw [hd] at k0 k1
    rw [hd, hd2] at e1
    rw [hd2] at he
    obtain ⟨kr0, kr1⟩ := kept_rng k0 k1
    have ce : decide (IntKind.i64.wrap (f32 (n : Int) - 53) > 0) = true := by rw [he]; exact decide_eq_true (by omega)
    have hp := pow_le12 hd1.2
    have hp0 : (1 : Int) ≤ 2 ^ d := by have := Nat.one_le_two_pow (n := d); exact_mod_cast this
    have hpc : ((2 : Int) ^ d) = ((2 ^ d : Nat) : Int) := by simp
    have aU : IntKind.u64.wrap (d : Int) = (d : Int) := by rw [IntKind.wrap_u64]; omega
    have am : min (d : Int).toNat IntKind.u64.bits = d := by
      show min _ 64 = _
      rw [Int.toNat_natCast]; omega
    have gap : IntKind.u64.wrap (1 * 2 ^ (min (IntKind.u64.wrap (d : Int)).toNat IntKind.u64.bits)) = 2 ^ d := by
      rw [aU, am, Int.one_mul, IntKind.wrap_u64]; omega
    have quo : (n : Int).fdiv (2 ^ (min (IntKind.u64.wrap (d : Int)).toNat IntKind.u64.bits)) = ((n / 2 ^ d : Nat) : Int) := by
      rw [aU, am, Int.fdiv_eq_ediv_of_nonneg _ (by omega), hpc]; rfl
    have half : IntKind.u64.wrap (1 * 2 ^ (min (IntKind.u64.wrap (IntKind.i64.wrap ((d : Int) - 1))).toNat IntKind.u64.bits)) = 2 ^ (d - 1) := by
      have a1 : IntKind.u64.wrap (IntKind.i64.wrap ((d : Int) - 1)) = ((d - 1 : Nat) : Int) := by simp only [IntKind.wrap_u64, IntKind.wrap_i64]; omega
      have a2 : min ((d - 1 : Nat) : Int).toNat IntKind.u64.bits = d - 1 := by
        show min _ 64 = _
        rw [Int.toNat_natCast]; omega
      have := pow_le12 (k := d - 1) (by omega)
      have hq0 : (1 : Int) ≤ 2 ^ (d - 1) := by have := Nat.one_le_two_pow (n := d - 1); exact_mod_cast this
      rw [a1, a2, Int.one_mul, IntKind.wrap_u64]; omega
    have rest : (n : Int).tmod (2 ^ d) = ((n % 2 ^ d : Nat) : Int) := by rw [tmodp (by omega), hpc]; rfl
    have hh : (2 : Nat) ^ d = 2 * 2 ^ (d - 1) := by
      obtain ⟨j, rfl⟩ : ∃ j, d = j + 1 := ⟨d - 1, by omega⟩
      rw [Nat.pow_succ, Nat.add_sub_cancel]; omega
    have hhc : ((2 : Int) ^ (d - 1)) = ((2 ^ (d - 1) : Nat) : Int) := by simp
    have odd : (((n / 2 ^ d : Nat) : Int).tmod 2 == 1) = ((n / 2 ^ d) % 2 == 1) := by
      rw [tmodp (by omega), Bool.eq_iff_iff]; simp only [beq_iff_eq]; omega
    have up : IntKind.u64.wrap (((n / 2 ^ d : Nat) : Int) + 1) = ((n / 2 ^ d + 1 : Nat) : Int) := by rw [IntKind.wrap_u64]; omega
    have ok : ∀ N : Nat, 4503599627370496 ≤ N → N ≤ 9007199254740992 → LdOk (N : Int) (d : Int) := fun N a b => ⟨by omega, by omega, by omega, by omega⟩
    have okq := ok (n / 2 ^ d) k0 (by omega)
    have okq1 := ok (n / 2 ^ d + 1) (by omega) (by omega)
    have c := c48 w (fun _ => by rw [hn]; dsimp only; rw [he, gap]; omega) (fun _ _ _ => by rw [hn]; dsimp only; rw [he, quo, up]; exact okq1) (fun _ _ _ _ _ => by rw [hn]; dsimp only; rw [he, quo, up]; exact okq1)
      (fun _ _ _ _ _ => by rw [hn]; dsimp only; rw [he, quo]; exact okq) (fun _ _ _ _ => by rw [hn]; dsimp only; rw [he, quo]; exact okq) (fun _ c => by rw [hn] at c; rw [ce] at c; cases c) H
    have hkept : kept n d = n / 2 ^ d + (decide (2 ^ d < 2 * (n % 2 ^ d)) || (2 ^ d == 2 * (n % 2 ^ d) && (n / 2 ^ d) % 2 == 1)).toNat := rfl
    have ef : f48 w = (Ieee.double.nearest neg n 0 : Int) := by
      unfold f48
      rw [hn]
      dsimp only
      rw [ite_f c0, ite_t ce, he, gap, quo, half, rest, up, odd, hhc]
      by_cases a1 : ((n % 2 ^ d : Nat) : Int) > ((2 ^ (d - 1) : Nat) : Int)
      · rw [if_pos (decide_eq_true a1)]
        have : kept n d = n / 2 ^ d + 1 := by
          rw [hkept, decide_eq_true (show 2 ^ d < 2 * (n % 2 ^ d) by omega)]; rfl
        rw [this] at e1
        exact sgn _ _ okq1 e1
      · rw [ite_f (decide_eq_false a1)]
        have b1 : decide (2 ^ d < 2 * (n % 2 ^ d)) = false := decide_eq_false (by omega)
        by_cases a2 : n % 2 ^ d = 2 ^ (d - 1)
        · have b2 : (2 ^ d == 2 * (n % 2 ^ d)) = true := by rw [beq_iff_eq]; omega
          rw [if_pos (show (((n % 2 ^ d : Nat) : Int) == ((2 ^ (d - 1) : Nat) : Int)) = true by rw [beq_iff_eq, a2])]
          cases a3 : ((n / 2 ^ d) % 2 == 1) with
          | true =>
            rw [if_pos rfl]
            have : kept n d = n / 2 ^ d + 1 := by rw [hkept, b1, b2, a3]; rfl
            rw [this] at e1
            exact sgn _ _ okq1 e1
          | false =>
            rw [if_neg (by decide)]
            have : kept n d = n / 2 ^ d := by rw [hkept, b1, b2, a3]; rfl
            rw [this] at e1
            exact sgn _ _ okq e1
        · have b2 : (2 ^ d == 2 * (n % 2 ^ d)) = false := by rw [beq_eq_false_iff_ne]; omega
          have a2' : (((n % 2 ^ d : Nat) : Int) == ((2 ^ (d - 1) : Nat) : Int)) = false := by rw [beq_eq_false_iff_ne]; omega
          rw [ite_f a2']
          have : kept n d = n / 2 ^ d := by rw [hkept, b1, b2]; rfl
          rw [this] at e1
          exact sgn _ _ okq e1
    rwa [ef] at c
end Go.Eng.Sca
