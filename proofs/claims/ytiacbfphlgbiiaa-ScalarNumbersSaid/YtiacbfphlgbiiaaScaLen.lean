/- How many digits a word has (no condition beyond those stated). -/
import Derived.Test.YtiacbfphlgbiiaaScaJ
import Derived.Test.YtiacbfphlgbiiaaScaN
namespace Go.Eng.Sca
open Go Go.Eng
set_option linter.unusedVariables false
set_option linter.unusedSimpArgs false
set_option maxHeartbeats 4000000

/- ### how many digits -/
theorem bl_of {n k : Nat} (h0 : 2 ^ k ≤ n) (h1 : n < 2 ^ (k + 1)) : bl n = k + 1 := by
  have hn : n ≠ 0 := by have := Nat.two_pow_pos k; omega
  unfold bl
  rw [if_neg hn, (Nat.log2_eq_iff hn).2 ⟨h0, h1⟩]
theorem bl_has {n : Nat} (hn : n ≠ 0) : ∃ k, bl n = k + 1 ∧ 2 ^ k ≤ n ∧ n < 2 ^ (k + 1) := by
  refine ⟨n.log2, by unfold bl; rw [if_neg hn], ?_⟩
  exact (Nat.log2_eq_iff hn).1 rfl
theorem bl_div {n j : Nat} (h : 2 ^ j ≤ n) : bl (n / 2 ^ j) + j = bl n := by
  have h2 := Nat.two_pow_pos j
  have hq : n / 2 ^ j ≠ 0 := by
    have := (Nat.le_div_iff_mul_le h2 (x := 1) (y := n)).2 (by omega)
    omega
  obtain ⟨k, e, k0, k1⟩ := bl_has hq
  have a0 := (Nat.le_div_iff_mul_le h2).1 k0
  have a1 := (Nat.div_lt_iff_lt_mul h2).1 k1
  rw [← Nat.pow_add] at a0 a1
  have := bl_of (n := n) (k := k + j) a0 (by rw [show k + j + 1 = k + 1 + j by omega]; exact a1)
  omega
theorem bl_mono {a b : Nat} (h : a ≤ b) : bl a ≤ bl b := by
  by_cases ha : a = 0
  · subst ha; show 0 ≤ _; omega
  obtain ⟨k, e, k0, k1⟩ := bl_has ha
  obtain ⟨l, e', l0, l1⟩ := bl_has (show b ≠ 0 by omega)
  have : 2 ^ k < 2 ^ (l + 1) := by omega
  have := (Nat.pow_lt_pow_iff_right (show 1 < 2 by decide)).1 this
  omega
theorem fd (x : Int) (k : Nat) (m : Int) (hk : min (m.toNat) IntKind.u64.bits = k) : x.fdiv (2 ^ (min m.toNat IntKind.u64.bits)) = x / (2 ^ k : Nat) := by
  rw [hk, Int.fdiv_eq_ediv_of_nonneg]
  · simp
  · have := Nat.zero_le (2 ^ k); exact_mod_cast this
theorem toN (x : Int) (h : 0 ≤ x) (k : Nat) : (x / ((2 ^ k : Nat) : Int)).toNat = x.toNat / 2 ^ k := by
  obtain ⟨n, rfl⟩ := Int.eq_ofNat_of_zero_le h
  rw [← Int.natCast_ediv]; rfl
theorem len_bl {x : Int} (h : Wd x) : f32 x = (bl x.toNat : Int) := by
  obtain ⟨h0, h1⟩ := h
  have F32 : ∀ y : Int, y.fdiv (2 ^ (min ((32 : Int)).toNat IntKind.u64.bits)) = y / 4294967296 := fun y => by rw [fd y 32 32 (by decide)]; rfl
  have F16 : ∀ y : Int, y.fdiv (2 ^ (min ((16 : Int)).toNat IntKind.u64.bits)) = y / 65536 := fun y => by rw [fd y 16 16 (by decide)]; rfl
  have F8 : ∀ y : Int, y.fdiv (2 ^ (min ((8 : Int)).toNat IntKind.u64.bits)) = y / 256 := fun y => by rw [fd y 8 8 (by decide)]; rfl
  have leaf : ∀ (n : Int) (y : Int), 0 ≤ y → y < 256 → 0 ≤ n → n ≤ 64 → (IntKind.i64.wrap (n + IntKind.i64.wrap (tab8 (IntKind.u8.wrap y)))) = n + bl y.toNat := by
    intro n y y0 y1 n0 n1
    have : IntKind.u8.wrap y = y := by rw [IntKind.wrap_u8]; omega
    rw [this]
    have hb : bl y.toNat ≤ bl 255 := bl_mono (by omega)
    have hb2 : bl 255 = 8 := by decide
    unfold tab8
    simp only [IntKind.wrap_i64]; omega
  have sh : ∀ (y : Int) (k : Nat), 0 ≤ y → (2 ^ k : Nat) ≤ y → (bl (y / ((2 ^ k : Nat) : Int)).toNat : Int) + k = bl y.toNat := by
    intro y k y0 hk
    have h2 : 2 ^ k ≤ y.toNat := by omega
    have := bl_div h2
    rw [toN y y0]; omega
  have s32 : ∀ y : Int, 4294967296 ≤ y → (bl (y / 4294967296).toNat : Int) + 32 = bl y.toNat := fun y hy => sh y 32 (by omega) hy
  have s16 : ∀ y : Int, 65536 ≤ y → (bl (y / 65536).toNat : Int) + 16 = bl y.toNat := fun y hy => sh y 16 (by omega) hy
  have s8 : ∀ y : Int, 256 ≤ y → (bl (y / 256).toNat : Int) + 8 = bl y.toNat := fun y hy => sh y 8 (by omega) hy
  unfold f32
  simp only [F32, F16, F8]
  by_cases c1 : x ≥ 4294967296
  · rw [if_pos (decide_eq_true c1)]
    have e1 := s32 x c1
    by_cases c2 : x / 4294967296 ≥ 65536
    · rw [if_pos (decide_eq_true c2)]
      have e2 := s16 _ c2
      by_cases c3 : x / 4294967296 / 65536 ≥ 256
      · rw [if_pos (decide_eq_true c3), leaf _ _ (by omega) (by omega) (by omega) (by omega)]
        have e3 := s8 _ c3
        omega
      · rw [if_neg (by simpa using c3), leaf _ _ (by omega) (by omega) (by omega) (by omega)]
        omega
    · rw [if_neg (by simpa using c2)]
      by_cases c3 : x / 4294967296 ≥ 256
      · rw [if_pos (decide_eq_true c3), leaf _ _ (by omega) (by omega) (by omega) (by omega)]
        have e3 := s8 _ c3
        omega
      · rw [if_neg (by simpa using c3), leaf _ _ (by omega) (by omega) (by omega) (by omega)]
        omega
  · rw [if_neg (by simpa using c1)]
    by_cases c2 : x ≥ 65536
    · rw [if_pos (decide_eq_true c2)]
      have e2 := s16 _ c2
      by_cases c3 : x / 65536 ≥ 256
      · rw [if_pos (decide_eq_true c3), leaf _ _ (by omega) (by omega) (by omega) (by omega)]
        have e3 := s8 _ c3
        omega
      · rw [if_neg (by simpa using c3), leaf _ _ (by omega) (by omega) (by omega) (by omega)]
        omega
    · rw [if_neg (by simpa using c2)]
      by_cases c3 : x ≥ 256
      · rw [if_pos (decide_eq_true c3), leaf _ _ (by omega) (by omega) (by omega) (by omega)]
        have e3 := s8 _ c3
        omega
      · rw [if_neg (by simpa using c3), leaf _ _ (by omega) (by omega) (by omega) (by omega)]
        omega

end Go.Eng.Sca
