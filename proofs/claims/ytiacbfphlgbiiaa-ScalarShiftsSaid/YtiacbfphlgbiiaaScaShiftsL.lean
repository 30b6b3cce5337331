/- The statement of ScalarShifts in the small machine (no condition beyond those of its arguments). -/
import Derived.Test.YtiacbfphlgbiiaaScaL8
import Derived.Test.YtiacbfphlgbiiaaScaO
namespace Go.Eng.Sca
open Go Go.Eng
set_option linter.unusedVariables false
set_option linter.unusedSimpArgs false
set_option maxHeartbeats 4000000

theorem u64_in2 {m : Int} (h0 : IntKind.u64.min ≤ m) (h1 : m ≤ IntKind.u64.max) : Wd m := by
  have e0 : IntKind.u64.min = 0 := by decide
  have e1 : IntKind.u64.max = 18446744073709551615 := by decide
  exact ⟨by omega, by omega⟩
theorem u8_in2 {m : Int} (h0 : IntKind.u8.min ≤ m) (h1 : m ≤ IntKind.u8.max) : 0 ≤ m ∧ m ≤ 255 := by
  have e0 : IntKind.u8.min = 0 := by decide
  have e1 : IntKind.u8.max = 255 := by decide
  exact ⟨by omega, by omega⟩

/- ### how many digits -/
theorem bl_of {n k : Nat} (h0 : 2 ^ k ≤ n) (h1 : n < 2 ^ (k + 1)) : bl n = k + 1 := by
  have hn : n ≠ 0 := by have := Nat.two_pow_pos k; omega
  unfold bl
  rw [if_neg hn, (Nat.log2_eq_iff hn).2 ⟨h0, h1⟩]
theorem bl_has {n : Nat} (hn : n ≠ 0) : ∃ k, bl n = k + 1 ∧ 2 ^ k ≤ n ∧ n < 2 ^ (k + 1) := by
  refine ⟨n.log2, by unfold bl; rw [if_neg hn], ?_⟩
  exact (Nat.log2_eq_iff hn).1 rfl
theorem bl_div {n j : Nat} (h : 2 ^ j ≤ n) : bl (n / 2 ^ j) + j = bl n := by
  have h2 := Nat.two_pow_pos j
  have hq : n / 2 ^ j ≠ 0 := by
    have := (Nat.le_div_iff_mul_le h2 (x := 1) (y := n)).2 (by omega)
    omega
  obtain ⟨k, e, k0, k1⟩ := bl_has hq
  have a0 := (Nat.le_div_iff_mul_le h2).1 k0
  have a1 := (Nat.div_lt_iff_lt_mul h2).1 k1
  rw [← Nat.pow_add] at a0 a1
  have := bl_of (n := n) (k := k + j) a0 (by rw [show k + j + 1 = k + 1 + j by omega]; exact a1)
  omega
theorem bl_mono {a b : Nat} (h : a ≤ b) : bl a ≤ bl b := by
  by_cases ha : a = 0
  · subst ha; show 0 ≤ _; omega
  obtain ⟨k, e, k0, k1⟩ := bl_has ha
  obtain ⟨l, e', l0, l1⟩ := bl_has (show b ≠ 0 by omega)
  have : 2 ^ k < 2 ^ (l + 1) := by omega
  have := (Nat.pow_lt_pow_iff_right (show 1 < 2 by decide)).1 this
  omega
theorem fd (x : Int) (k : Nat) (m : Int) (hk : min (m.toNat) IntKind.u64.bits = k) : x.fdiv (2 ^ (min m.toNat IntKind.u64.bits)) = x / (2 ^ k : Nat) := by
  rw [hk, Int.fdiv_eq_ediv_of_nonneg]
  · simp
  · have := Nat.zero_le (2 ^ k); exact_mod_cast this
theorem toN (x : Int) (h : 0 ≤ x) (k : Nat) : (x / ((2 ^ k : Nat) : Int)).toNat = x.toNat / 2 ^ k := by
  obtain ⟨n, rfl⟩ := Int.eq_ofNat_of_zero_le h
  rw [← Int.natCast_ediv]; rfl
theorem len_bl {x : Int} (h : Wd x) : f32 x = (bl x.toNat : Int) := by
  obtain ⟨h0, h1⟩ := h
  have F32 : ∀ y : Int, y.fdiv (2 ^ (min ((32 : Int)).toNat IntKind.u64.bits)) = y / 4294967296 := fun y => by rw [fd y 32 32 (by decide)]; rfl
  have F16 : ∀ y : Int, y.fdiv (2 ^ (min ((16 : Int)).toNat IntKind.u64.bits)) = y / 65536 := fun y => by rw [fd y 16 16 (by decide)]; rfl
  have F8 : ∀ y : Int, y.fdiv (2 ^ (min ((8 : Int)).toNat IntKind.u64.bits)) = y / 256 := fun y => by rw [fd y 8 8 (by decide)]; rfl
  have leaf : ∀ (n : Int) (y : Int), 0 ≤ y → y < 256 → 0 ≤ n → n ≤ 64 → (IntKind.i64.wrap (n + IntKind.i64.wrap (tab8 (IntKind.u8.wrap y)))) = n + bl y.toNat := by
    intro n y y0 y1 n0 n1
    have : IntKind.u8.wrap y = y := by rw [IntKind.wrap_u8]; omega
    rw [this]
    have hb : bl y.toNat ≤ bl 255 := bl_mono (by omega)
    have hb2 : bl 255 = 8 := by decide
    unfold tab8
    simp only [IntKind.wrap_i64]; omega
  have sh : ∀ (y : Int) (k : Nat), 0 ≤ y → (2 ^ k : Nat) ≤ y → (bl (y / ((2 ^ k : Nat) : Int)).toNat : Int) + k = bl y.toNat := by
    intro y k y0 hk
    have h2 : 2 ^ k ≤ y.toNat := by omega
    have := bl_div h2
    rw [toN y y0]; omega
  have s32 : ∀ y : Int, 4294967296 ≤ y → (bl (y / 4294967296).toNat : Int) + 32 = bl y.toNat := fun y hy => sh y 32 (by omega) hy
  have s16 : ∀ y : Int, 65536 ≤ y → (bl (y / 65536).toNat : Int) + 16 = bl y.toNat := fun y hy => sh y 16 (by omega) hy
  have s8 : ∀ y : Int, 256 ≤ y → (bl (y / 256).toNat : Int) + 8 = bl y.toNat := fun y hy => sh y 8 (by omega) hy
  unfold f32
  simp only [F32, F16, F8]
  by_cases c1 : x ≥ 4294967296
  · rw [if_pos (decide_eq_true c1)]
    have e1 := s32 x c1
    by_cases c2 : x / 4294967296 ≥ 65536
    · rw [if_pos (decide_eq_true c2)]
      have e2 := s16 _ c2
      by_cases c3 : x / 4294967296 / 65536 ≥ 256
      · rw [if_pos (decide_eq_true c3), leaf _ _ (by omega) (by omega) (by omega) (by omega)]
        have e3 := s8 _ c3
        omega
      · rw [if_neg (by simpa using c3), leaf _ _ (by omega) (by omega) (by omega) (by omega)]
        omega
    · rw [if_neg (by simpa using c2)]
      by_cases c3 : x / 4294967296 ≥ 256
      · rw [if_pos (decide_eq_true c3), leaf _ _ (by omega) (by omega) (by omega) (by omega)]
        have e3 := s8 _ c3
        omega
      · rw [if_neg (by simpa using c3), leaf _ _ (by omega) (by omega) (by omega) (by omega)]
        omega
  · rw [if_neg (by simpa using c1)]
    by_cases c2 : x ≥ 65536
    · rw [if_pos (decide_eq_true c2)]
      have e2 := s16 _ c2
      by_cases c3 : x / 65536 ≥ 256
      · rw [if_pos (decide_eq_true c3), leaf _ _ (by omega) (by omega) (by omega) (by omega)]
        have e3 := s8 _ c3
        omega
      · rw [if_neg (by simpa using c3), leaf _ _ (by omega) (by omega) (by omega) (by omega)]
        omega
    · rw [if_neg (by simpa using c2)]
      by_cases c3 : x ≥ 256
      · rw [if_pos (decide_eq_true c3), leaf _ _ (by omega) (by omega) (by omega) (by omega)]
        have e3 := s8 _ c3
        omega
      · rw [if_neg (by simpa using c3), leaf _ _ (by omega) (by omega) (by omega) (by omega)]
        omega

/- ### shifts -/
def wide (t : Int) : Int := if t = 2 then 8 else if t = 3 then 32 else 64
theorem places_of {t b : Int} (ht : Wh t) (h : 0 ≤ b) : f54 t b = b % wide t := by
  unfold f54 wide
  rcases ht with rfl | rfl | rfl <;> simp [tmodp h]
theorem wide_le {t : Int} (ht : Wh t) : 1 ≤ wide t ∧ wide t ≤ 64 := by rcases ht with rfl | rfl | rfl <;> decide
theorem two_pow (n : Nat) : (1 : Int) ≤ 2 ^ n := by have := Nat.one_le_two_pow (n := n); exact_mod_cast this
theorem bits_min {s : Int} (h : s < 64) : min s.toNat IntKind.u64.bits = s.toNat ∧ min s.toNat IntKind.i64.bits = s.toNat := by
  constructor
  · show min s.toNat 64 = _; omega
  · show min s.toNat 64 = _; omega
/-- by a place that is a word of the type -/
theorem o_shl {t : Int} (ht : Wh t) {a : Int} (b : Int) : f17 9 t (enc t a) (enc t b) = enc t (a * 2 ^ (enc t b % wide t).toNat) := by
  have hw := enc_wd ht b
  have h1 := Int.emod_nonneg (enc t b) (show wide t ≠ 0 by have := wide_le ht; omega)
  have h2 := Int.emod_lt_of_pos (enc t b) (show 0 < wide t by have := wide_le ht; omega)
  have h3 := (wide_le ht).2
  rw [f17_op ht (of_t ht).2.2.2.2.2.1 rfl rfl]
  show f13 t (IntKind.u64.wrap (enc t a * 2 ^ (min (f50 t (enc t b)).toNat IntKind.u64.bits))) = _
  rw [places_eq hw, places_of ht hw.1, (bits_min (show enc t b % wide t < 64 by omega)).1, f13_enc ht, mul_enc ht]
theorem o_shr {t : Int} (ht : Wh t) {a : Int} (ha : lo t ≤ a ∧ a < hi t) (b : Int) : f17 10 t (enc t a) (enc t b) = enc t (a / 2 ^ (enc t b % wide t).toNat) := by
  have hw := enc_wd ht b
  have h1 := Int.emod_nonneg (enc t b) (show wide t ≠ 0 by have := wide_le ht; omega)
  have h2 := Int.emod_lt_of_pos (enc t b) (show 0 < wide t by have := wide_le ht; omega)
  have h3 := (wide_le ht).2
  rw [f17_op ht (of_t ht).2.2.2.2.2.2.1 rfl rfl]
  show f13 t (IntKind.u64.wrap ((IntKind.i64.wrap (enc t a)).fdiv (2 ^ (min (f50 t (enc t b)).toNat IntKind.i64.bits)))) = _
  rw [places_eq hw, places_of ht hw.1, (bits_min (show enc t b % wide t < 64 by omega)).2, f13_enc ht, S_enc ht ha.1 ha.2, Int.fdiv_eq_ediv_of_nonneg _ (by have := two_pow (enc t b % wide t).toNat; omega)]
theorem div_in {a n : Int} (hn : 1 ≤ n) : (0 ≤ a → 0 ≤ a / n ∧ a / n ≤ a) ∧ (a < 0 → a ≤ a / n ∧ a / n < 0) := by
  refine ⟨fun h => ⟨Int.ediv_nonneg h (by omega), Int.ediv_le_self n h⟩, fun h => ⟨?_, Int.ediv_neg_of_neg_of_pos h (by omega)⟩⟩
  rw [Int.le_ediv_iff_mul_le (by omega)]
  have : a * n ≤ a * 1 := Int.mul_le_mul_of_nonpos_left (by omega) (by omega)
  omega
theorem small_enc {t s : Int} (ht : Wh t) (h0 : 0 ≤ s) (h1 : s < wide t) : enc t s = s ∧ s % wide t = s := by
  rcases ht with rfl | rfl | rfl
  · replace h1 : s < 8 := h1
    exact ⟨by show s % 256 = s; omega, by show s % 8 = s; omega⟩
  · replace h1 : s < 32 := h1
    exact ⟨by show ((s + 2147483648) % 4294967296 - 2147483648) % 18446744073709551616 = s; omega, by show s % 32 = s; omega⟩
  · replace h1 : s < 64 := h1
    exact ⟨by show s % 18446744073709551616 = s; omega, by show s % 64 = s; omega⟩
theorem U_enc {t v : Int} (ht : Wh t) (h0 : lo t ≤ v) (h1 : v < hi t) : IntKind.u64.wrap v = enc t v := by
  rw [IntKind.wrap_u64]
  rcases ht with rfl | rfl | rfl
  · replace h0 : (0 : Int) ≤ v := h0
    replace h1 : v < 256 := h1
    show _ = v % 256; omega
  · replace h0 : (-2147483648 : Int) ≤ v := h0
    replace h1 : v < 2147483648 := h1
    show _ = ((v + 2147483648) % 4294967296 - 2147483648) % 18446744073709551616; omega
  · rfl

structure Facts (t A B w : Int) : Prop where
  a : (f17 9 t A B != f17 3 t A (f13 t (IntKind.u64.wrap ((1 : Int) * 2 ^ (min (B.tmod w).toNat IntKind.u64.bits))))) = false
  b : (f17 9 t A B != f17 9 t A (B.tmod w)) = false
  c : (f17 10 t A B != f17 10 t A (B.tmod w)) = false
  d : (!(f11 t (f17 10 t A B))) = false
  e : (decide ((IntKind.u64.wrap (f17 10 t A B * 2 ^ (min (B.tmod w).toNat IntKind.u64.bits))) > A)) = true → (decide ((IntKind.i64.wrap A) ≥ (0 : Int))) = false
  f : (decide ((f32 (f27 (f17 10 t A B))) > (f32 (f27 A)))) = false
  g : (f17 10 t A B == IntKind.u64.wrap ((IntKind.i64.wrap A).fdiv (2 ^ (min (B.tmod w).toNat IntKind.i64.bits)))) = true
theorem facts {t : Int} (ht : Wh t) {a b : Int} (ha : lo t ≤ a ∧ a < hi t) : Facts t (enc t a) (enc t b) (wide t) := by
  have hw := enc_wd ht b
  obtain ⟨w1, w2⟩ := wide_le ht
  have h1 := Int.emod_nonneg (enc t b) (show wide t ≠ 0 by omega)
  have h2 := Int.emod_lt_of_pos (enc t b) (show 0 < wide t by omega)
  obtain ⟨m1, m2⟩ := bits_min (show enc t b % wide t < 64 by omega)
  obtain ⟨q1, q2⟩ := small_enc ht h1 h2
  have hp := two_pow (enc t b % wide t).toNat
  obtain ⟨d1, d2⟩ := div_in (a := a) hp
  have hr := rng_num (v := 0) ht
  have hv : lo t ≤ a / 2 ^ (enc t b % wide t).toNat ∧ a / 2 ^ (enc t b % wide t).toNat < hi t := by
    rcases Int.lt_or_le a 0 with h | h
    · have := d2 h; omega
    · have := d1 h; omega
  have hS := S_enc ht ha.1 ha.2
  refine ⟨?_, ?_, ?_, ?_, ?_, ?_, ?_⟩
  · rw [tmodp hw.1, m1, f13_enc ht, o_shl ht, o_mul ht, Int.one_mul]; simp
  · rw [tmodp hw.1, o_shl ht]
    have := o_shl ht (a := a) (enc t b % wide t)
    rw [q1, q2] at this
    rw [this]; simp
  · rw [tmodp hw.1, o_shr ht ha]
    have := o_shr ht ha (enc t b % wide t)
    rw [q1, q2] at this
    rw [this]; simp
  · rw [o_shr ht ha, enc_f11 ht]; rfl
  · intro h
    rw [tmodp hw.1, m1, o_shr ht ha] at h
    have h := of_decide_eq_true h
    rw [hS]
    refine decide_eq_false fun h0 => ?_
    obtain ⟨e0, e1⟩ := d1 h0
    have ea : enc t a = a := by
      rw [← U_enc ht ha.1 ha.2, IntKind.wrap_u64]; omega
    have ev : enc t (a / 2 ^ (enc t b % wide t).toNat) = a / 2 ^ (enc t b % wide t).toNat := by
      rw [← U_enc ht hv.1 hv.2, IntKind.wrap_u64]; omega
    rw [ev, ea] at h
    have hm : a / 2 ^ (enc t b % wide t).toNat * 2 ^ (enc t b % wide t).toNat ≤ a := Int.ediv_mul_le a (by omega)
    have hm0 : 0 ≤ a / 2 ^ (enc t b % wide t).toNat * 2 ^ (enc t b % wide t).toNat := Int.mul_nonneg e0 (by omega)
    rw [IntKind.wrap_u64] at h
    omega
  · rw [o_shr ht ha, size_enc ht hv.1 hv.2, size_enc ht ha.1 ha.2]
    have e1 : (a / 2 ^ (enc t b % wide t).toNat).natAbs ≤ a.natAbs := by
      rcases Int.lt_or_le a 0 with h | h
      · have := d2 h; omega
      · have := d1 h; omega
    rw [len_bl ⟨by omega, by omega⟩, len_bl ⟨by omega, by omega⟩]
    have := bl_mono e1
    refine decide_eq_false ?_
    simp only [Int.toNat_natCast]; omega
  · rw [o_shr ht ha, tmodp hw.1, m2, hS, Int.fdiv_eq_ediv_of_nonneg _ (by omega), U_enc ht hv.1 hv.2]; simp

theorem shifts {t : Int} (ht : Wh t) {a b : Int} (ha : lo t ≤ a ∧ a < hi t) (k x1 x2 : Int) (hk : f16 k = t) (ea : f13 t x1 = enc t a) (eb : f13 t x2 = enc t b) (H : Heap) :
    Fn T 8 [.int .u8 k, .int .u64 x1, .int .u64 x2] H (fun r h => r = .bool true ∧ h = H) := by
  subst hk
  have F := facts ht (b := b) ha
  rw [← ea, ← eb] at F
  have hB : 0 ≤ f13 (f16 k) x2 := by rw [eb]; exact (enc_wd ht b).1
  obtain ⟨Fa, Fb, Fc, Fd, Fe, Ff, Fg⟩ := F
  rcases ht with h | h | h
  · have h2 : (f16 k == 2) = true := by rw [h]; rfl
    rw [show wide (f16 k) = 8 by rw [h]; rfl] at Fa Fb Fc Fe Fg
    refine w8 k x1 x2 hB (fun _ => Fa) (fun _ => Fb) (fun _ => Fc) (fun _ => Fd) (fun _ => Fe) (fun _ _ => Ff) (fun _ _ => Fg) (fun _ _ => Ff) (fun _ _ => Fg) ?_ ?_ ?_ ?_ ?_ ?_ ?_ ?_ ?_ ?_ ?_ ?_ ?_ ?_ ?_ ?_ ?_ ?_ H
    all_goals (intro c; rw [h2] at c; cases c)
  · have h2 : (f16 k == 2) = false := by rw [h]; rfl
    have h3 : (f16 k == 3) = true := by rw [h]; rfl
    rw [show wide (f16 k) = 32 by rw [h]; rfl] at Fa Fb Fc Fe Fg
    refine w8 k x1 x2 hB ?_ ?_ ?_ ?_ ?_ ?_ ?_ ?_ ?_ (fun _ _ => Fa) (fun _ _ => Fb) (fun _ _ => Fc) (fun _ _ => Fd) (fun _ _ => Fe) (fun _ _ _ => Ff) (fun _ _ _ => Fg) (fun _ _ _ => Ff) (fun _ _ _ => Fg) ?_ ?_ ?_ ?_ ?_ ?_ ?_ ?_ ?_ H
    iterate 9 (intro c; rw [h2] at c; cases c)
    all_goals (intro _ c; rw [h3] at c; cases c)
  · have h2 : (f16 k == 2) = false := by rw [h]; rfl
    have h3 : (f16 k == 3) = false := by rw [h]; rfl
    rw [show wide (f16 k) = 64 by rw [h]; rfl] at Fa Fb Fc Fe Fg
    refine w8 k x1 x2 hB ?_ ?_ ?_ ?_ ?_ ?_ ?_ ?_ ?_ ?_ ?_ ?_ ?_ ?_ ?_ ?_ ?_ ?_ (fun _ _ => Fa) (fun _ _ => Fb) (fun _ _ => Fc) (fun _ _ => Fd) (fun _ _ => Fe) (fun _ _ _ => Ff) (fun _ _ _ => Fg) (fun _ _ _ => Ff) (fun _ _ _ => Fg) H
    iterate 9 (intro c; rw [h2] at c; cases c)
    all_goals (intro _ c; rw [h3] at c; cases c)

theorem law_ScalarShifts {B0 n0 : Nat} {u0 : V} (g0 : u0.isAg = agOf Go.Proofs.Try.prog 22) (w0 : WfT Go.Proofs.Try.prog B0 n0 22 u0.cells)
    {B1 n1 : Nat} {u1 : V} (g1 : u1.isAg = agOf Go.Proofs.Try.prog 23) (w1 : WfT Go.Proofs.Try.prog B1 n1 23 u1.cells)
    {B2 n2 : Nat} {u2 : V} (g2 : u2.isAg = agOf Go.Proofs.Try.prog 23) (w2 : WfT Go.Proofs.Try.prog B2 n2 23 u2.cells) : Fn T 8 [u0, u1, u2] [] (fun r h => r = .bool true) := by
  obtain ⟨k, rfl, k0, k1⟩ := WfT.int (k := .u8) (by kernel_rfl) (by rw [g0]; decide +kernel) w0
  obtain ⟨x1, rfl, a0, a1⟩ := WfT.int (k := .u64) (by kernel_rfl) (by rw [g1]; decide +kernel) w1
  obtain ⟨x2, rfl, b0, b1⟩ := WfT.int (k := .u64) (by kernel_rfl) (by rw [g2]; decide +kernel) w2
  have ht := f16_wh (u8_in2 k0 k1)
  obtain ⟨a, ea, ha⟩ := word_num ht (u64_in2 a0 a1)
  obtain ⟨b, eb, hb⟩ := word_num ht (u64_in2 b0 b1)
  exact (shifts ht ha k x1 x2 rfl ea eb []).mono fun r h hr => hr.1
end Go.Eng.Sca
