/- The statement of ScalarRing in the small machine (no condition beyond those of its arguments). -/
import Derived.Test.YtiacbfphlgbiiaaScaL6
import Derived.Test.YtiacbfphlgbiiaaScaO
namespace Go.Eng.Sca
open Go Go.Eng
set_option linter.unusedVariables false
set_option linter.unusedSimpArgs false

theorem u64_in {m : Int} (h0 : IntKind.u64.min ≤ m) (h1 : m ≤ IntKind.u64.max) : Wd m := by
  have e0 : IntKind.u64.min = 0 := by decide
  have e1 : IntKind.u64.max = 18446744073709551615 := by decide
  exact ⟨by omega, by omega⟩
theorem u8_in {m : Int} (h0 : IntKind.u8.min ≤ m) (h1 : m ≤ IntKind.u8.max) : 0 ≤ m ∧ m ≤ 255 := by
  have e0 : IntKind.u8.min = 0 := by decide
  have e1 : IntKind.u8.max = 255 := by decide
  exact ⟨by omega, by omega⟩
theorem rest_of (a b : Int) (hb : b ≠ 0) : (a.tmod b).natAbs < b.natAbs ∧ (a.tmod b).natAbs ≤ a.natAbs ∧ (0 ≤ a → 0 ≤ a.tmod b) ∧ (a ≤ 0 → a.tmod b ≤ 0) := by
  have e : (a.tmod b).natAbs = a.natAbs % b.natAbs := Int.natAbs_tmod a b
  refine ⟨by rw [e]; exact Nat.mod_lt _ (by omega), by rw [e]; exact Nat.mod_le _ _, fun h => Int.tmod_nonneg b h, fun h => ?_⟩
  have h1 : 0 ≤ (-a).tmod b := Int.tmod_nonneg b (by omega)
  rw [Int.neg_tmod] at h1; omega
theorem ring {t : Int} (ht : Wh t) {a b c : Int} (ha : lo t ≤ a ∧ a < hi t) (hb : lo t ≤ b ∧ b < hi t) (hc : lo t ≤ c ∧ c < hi t) (k x1 x2 x3 : Int) (hk : f16 k = t)
    (ea : f13 t x1 = enc t a) (eb : f13 t x2 = enc t b) (ec : f13 t x3 = enc t c) (H : Heap) :
    Fn T 6 [.int .u8 k, .int .u64 x1, .int .u64 x2, .int .u64 x3] H (fun r h => r = .bool true ∧ h = H) := by
  subst hk
  have hB0 : (enc (f16 k) b == 0) = (b == 0) := enc_inj0 ht hb.1 hb.2
  have one : (1 : Int) = enc (f16 k) 1 := by rcases ht with h | h | h <;> rw [h] <;> rfl
  have hr0 := rng_num (v := 0) ht
  have nz : (f13 (f16 k) x2 == 0) = false → b ≠ 0 := by rw [eb, hB0]; intro h; simpa using h
  have rr : ∀ hb0 : b ≠ 0, lo (f16 k) ≤ a.tmod b ∧ a.tmod b < hi (f16 k) := by
    intro hb0
    obtain ⟨_, r2, r3, r4⟩ := rest_of a b hb0
    rcases Int.le_total 0 a with h | h
    · have := r3 h; omega
    · have := r4 h; omega
  have back : ∀ hb0 : b ≠ 0, enc (f16 k) (a.tdiv b * b + a.tmod b) = enc (f16 k) a := by
    intro hb0
    congr 1
    have := Int.mul_tdiv_add_tmod a b
    rw [Int.mul_comm] at this; exact this
  have re : ∀ hb0 : b ≠ 0, (f17 5 (f16 k) (f13 (f16 k) x1) (f13 (f16 k) x2)) = enc (f16 k) (a.tmod b) := by
    intro hb0; rw [ea, eb, o_rem ht ha hb, if_neg hb0]
  have qe : ∀ hb0 : b ≠ 0, (f17 4 (f16 k) (f13 (f16 k) x1) (f13 (f16 k) x2)) = enc (f16 k) (a.tdiv b) := by
    intro hb0; rw [ea, eb, o_div ht ha hb, if_neg hb0]
  refine w6 k x1 x2 x3 ?_ ?_ ?_ ?_ ?_ ?_ ?_ ?_ ?_ ?_ ?_ ?_ ?_ ?_ ?_ ?_ ?_ ?_ ?_ ?_ ?_ ?_ ?_ ?_ ?_ ?_ ?_ ?_ H
  · rw [ea, eb, o_add ht, o_add ht, Int.add_comm b a]; simp
  · rw [ea, eb, o_mul ht, o_mul ht, Int.mul_comm b a]; simp
  · rw [ea, eb, o_add ht, enc_f11 ht]; rfl
  · rw [ea, eb, o_mul ht, enc_f11 ht]; rfl
  · rw [ea, eb, o_add ht, f13_enc ht, add_enc ht, add_enc' ht]; simp
  · rw [ea, eb, o_mul ht, f13_enc ht, mul_enc ht, mul_enc' ht]; simp
  · rw [ea, eb, ec, o_add ht, o_add ht, o_add ht, o_add ht, Int.add_assoc]; simp
  · rw [ea, eb, ec, o_mul ht, o_mul ht, o_mul ht, o_mul ht, Int.mul_assoc]; simp
  · rw [ea, eb, o_add ht, o_sub ht, Int.add_sub_cancel]; simp
  · rw [ea, eb, ec, o_add ht, o_mul ht, o_mul ht, o_mul ht, o_add ht, Int.mul_add]; simp
  · rw [eb, o_neg ht]; rfl
  · rw [eb, o_not ht]; rfl
  · rw [ea, eb, o_neg ht, o_add ht, o_sub ht, Int.zero_sub, Int.sub_eq_add_neg]; simp
  · rw [eb, o_neg ht, o_not ht]
    show (f17 1 (f16 k) (enc (f16 k) (-1 - b)) 1 != enc (f16 k) (0 - b)) = false
    have := o_add ht (-1 - b) 1
    rw [← one, show -1 - b + 1 = 0 - b by omega] at this
    rw [this]; simp
  · intro h
    have hb0 : b = 0 := by rw [eb, hB0] at h; simpa using h
    rw [ea, eb, o_div ht ha hb, if_pos hb0]; rfl
  · intro h
    have hb0 : b = 0 := by rw [eb, hB0] at h; simpa using h
    rw [ea, eb, o_rem ht ha hb, if_pos hb0]; rfl
  · intro h; rw [(stops_of ht).1]; exact h
  · intro h; rw [(stops_of ht).2]; exact h
  · intro h
    have hb0 := nz h
    rw [re hb0, eb, size_enc ht (rr hb0).1 (rr hb0).2, size_enc ht hb.1 hb.2]
    have := (rest_of a b hb0).1
    exact decide_eq_true (by omega)
  · intro h _
    have hb0 := nz h
    rw [re hb0, qe hb0, ea, eb, o_mul ht, o_add ht, back hb0]; simp
  · intro h _; rw [(stops_of ht).1, h]; rfl
  · intro h _; rw [qe (nz h)]; exact enc_f11 ht _
  · intro h _; rw [re (nz h)]; exact enc_f11 ht _
  · intro h _
    have hb0 := nz h
    rw [re hb0, qe hb0, ea, eb, o_mul ht, o_add ht, back hb0]; simp
  · intro h h2
    have hb0 := nz h
    rw [re hb0, enc_inj0 ht (rr hb0).1 (rr hb0).2] at h2
    have h2 : a.tmod b ≠ 0 := by simpa using h2
    rw [re hb0, ea, S_enc ht (rr hb0).1 (rr hb0).2, S_enc ht ha.1 ha.2]
    obtain ⟨_, _, r3, r4⟩ := rest_of a b hb0
    rcases Int.le_total 0 a with h | h
    · have := r3 h
      rw [decide_eq_false (show ¬ a.tmod b < 0 by omega), decide_eq_false (show ¬ a < 0 by omega)]; rfl
    · have := r4 h
      have : a ≠ 0 := by rintro rfl; simp at h2
      rw [decide_eq_true (show a.tmod b < 0 by omega), decide_eq_true (show a < 0 by omega)]; rfl
  · intro h _; rw [(stops_of ht).1, h]; rfl
  · intro h _; rw [qe (nz h)]; exact enc_f11 ht _
  · intro h _; rw [re (nz h)]; exact enc_f11 ht _

theorem law_ScalarRing {B0 n0 : Nat} {u0 : V} (g0 : u0.isAg = agOf Go.Proofs.Try.prog 22) (w0 : WfT Go.Proofs.Try.prog B0 n0 22 u0.cells)
    {B1 n1 : Nat} {u1 : V} (g1 : u1.isAg = agOf Go.Proofs.Try.prog 23) (w1 : WfT Go.Proofs.Try.prog B1 n1 23 u1.cells)
    {B2 n2 : Nat} {u2 : V} (g2 : u2.isAg = agOf Go.Proofs.Try.prog 23) (w2 : WfT Go.Proofs.Try.prog B2 n2 23 u2.cells)
    {B3 n3 : Nat} {u3 : V} (g3 : u3.isAg = agOf Go.Proofs.Try.prog 23) (w3 : WfT Go.Proofs.Try.prog B3 n3 23 u3.cells) : Fn T 6 [u0, u1, u2, u3] [] (fun r h => r = .bool true) := by
  obtain ⟨k, rfl, k0, k1⟩ := WfT.int (k := .u8) (by kernel_rfl) (by rw [g0]; decide +kernel) w0
  obtain ⟨x1, rfl, a0, a1⟩ := WfT.int (k := .u64) (by kernel_rfl) (by rw [g1]; decide +kernel) w1
  obtain ⟨x2, rfl, b0, b1⟩ := WfT.int (k := .u64) (by kernel_rfl) (by rw [g2]; decide +kernel) w2
  obtain ⟨x3, rfl, c0, c1⟩ := WfT.int (k := .u64) (by kernel_rfl) (by rw [g3]; decide +kernel) w3
  have ht := f16_wh (u8_in k0 k1)
  obtain ⟨a, ea, ha⟩ := word_num ht (u64_in a0 a1)
  obtain ⟨b, eb, hb⟩ := word_num ht (u64_in b0 b1)
  obtain ⟨c, ec, hc⟩ := word_num ht (u64_in c0 c1)
  exact (ring ht ha hb hc k x1 x2 x3 rfl ea eb ec []).mono fun r h hr => hr.1
end Go.Eng.Sca
