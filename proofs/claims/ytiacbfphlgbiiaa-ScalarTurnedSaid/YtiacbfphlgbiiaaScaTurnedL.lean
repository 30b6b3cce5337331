/- The statement of ScalarTurned in the small machine (no condition beyond those of its arguments). -/
import Derived.Test.YtiacbfphlgbiiaaScaL7
import Derived.Test.YtiacbfphlgbiiaaScaOrderL
namespace Go.Eng.Sca
open Go Go.Eng
set_option linter.unusedVariables false
set_option linter.unusedSimpArgs false
set_option maxHeartbeats 4000000

theorem f13_w {t w : Int} (ht : Wh t) (h : Wd w) : f13 t w = enc t w := by
  have := f13_enc ht w
  rwa [show IntKind.u64.wrap w = w by rw [IntKind.wrap_u64]; have := h.1; have := h.2; omega] at this
/-- whole types, one into another -/
theorem f28_w {to from' : Int} (ht : Wh to) (hf : Wh from') (z : Int) : f28 to from' (enc from' z) = (enc to (enc from' z), true) := by
  have h34 : f34 to from' = true := by rcases ht with rfl | rfl | rfl <;> rcases hf with rfl | rfl | rfl <;> rfl
  have h5 : (from' == 5) = false := by rcases hf with rfl | rfl | rfl <;> rfl
  have t5 : (to == 5) = false := by rcases ht with rfl | rfl | rfl <;> rfl
  unfold f28
  simp only [h34, enc_f11 hf, h5, t5, Bool.not_true, Bool.false_eq_true, if_false]
  rw [f13_w ht (enc_wd hf z)]
/-- the float of a number -/
def flt (n : Int) : Nat := Ieee.double.write (.number (n < 0) n.natAbs 0)
theorem f28_fl {from' : Int} (hf : Wh from') {v : Int} (h : lo from' ≤ v ∧ v < hi from') : f28 5 from' (enc from' v) = ((flt v : Int), true) := by
  have h34 : f34 5 from' = true := by rcases hf with rfl | rfl | rfl <;> rfl
  have h5 : (from' == 5) = false := by rcases hf with rfl | rfl | rfl <;> rfl
  have h6 : (from' != 5) = true := by rw [bne, h5]; rfl
  unfold f28
  simp only [h34, enc_f11 hf, h5, h6, Bool.not_true, Bool.false_eq_true, if_false, beq_self_eq_true, if_true]
  rw [S_enc hf h.1 h.2]; rfl
theorem f28_5 {to : Int} (ht : Wh to) {v : Int} (h : f11 5 v = true) : f28 to 5 v = if (f44 to (some v.toNat)) = true then (IntKind.u64.wrap (f2iI (some v.toNat)), true) else (0, true) := by
  have h34 : f34 to 5 = true := by rcases ht with rfl | rfl | rfl <;> rfl
  have t5 : (to != 5) = true := by rcases ht with rfl | rfl | rfl <;> rfl
  unfold f28
  simp only [h34, h, t5, Bool.not_true, Bool.false_eq_true, if_false, beq_self_eq_true, if_true]
  cases f44 to (some v.toNat) <;> rfl
theorem num_not_nan (s : Bool) (M : Nat) (p : Int) : (Ieee.double.read (Ieee.double.write (.number s M p))).isNaN = false := by
  rw [nan_iff]
  show decide (9218868437227405312 < Ieee.double.nearest s M p % 9223372036854775808) = false
  unfold Ieee.Format.nearest
  have key : ∀ r, r ≤ 9218868437227405312 → decide (9218868437227405312 < Ieee.double.word s r % 9223372036854775808) = false := by
    intro r hr
    unfold Ieee.Format.word
    rw [D_sw]
    refine decide_eq_false ?_
    cases s <;> simp only [Bool.false_eq_true, if_false, if_true] <;> omega
  split
  · exact key 0 (by omega)
  · rw [D_inf]; exact key _ (Nat.min_le_right _ _)
theorem flt_right (n : Int) : f11 5 (flt n : Int) = true := by
  have h : f13 5 (flt n : Int) = (flt n : Int) := by
    rw [f13_5]
    show (if (Ieee.double.read (flt n)).isNaN then _ else _) = _
    rw [show (Ieee.double.read (flt n)).isNaN = false from num_not_nan _ _ _]; rfl
  unfold f11
  rw [h]; simp
theorem sg_abs (n : Int) : sg (n < 0) n.natAbs = n := by
  unfold sg
  by_cases c : n < 0
  · simp only [c, decide_true, if_true]; omega
  · simp only [c, decide_false, Bool.false_eq_true, if_false]; omega
theorem flt_is {n : Int} (h : n.natAbs < 9007199254740992) : IsI (Ieee.double.read (flt n)) n := by
  have := read_write (decide (n < 0)) (rep_small h)
  rwa [sg_abs] at this
/-- back from a float that is a number of the type -/
theorem back_fl {to : Int} (ht : Wh to) {n : Int} (h : n.natAbs < 9007199254740992) (hr : lo to ≤ n ∧ n < hi to) : f28 to 5 (flt n : Int) = (enc to n, true) := by
  have hi := flt_is h
  rcases read_is (flt n) with ⟨s, m, p, h1, h2, h3, h4⟩ | ⟨s, h1⟩ | hn
  · obtain ⟨tb, e1, e2, e3⟩ := trunc_is h1 h2 h4
    have ez := hi.int
    rw [e3] at ez
    have ez : sg s (m * 2 ^ p.toNat / 2 ^ (-p).toNat) = n := by simpa using ez
    rw [ez] at e2 e3
    have hf : f44 to (some (flt n)) = true := by rw [f44_num e1 e2]; exact decide_eq_true hr
    rw [f28_5 ht (flt_right n)]
    show (if (f44 to (some (flt n))) = true then (IntKind.u64.wrap (f2iI (some (flt n))), true) else (0, true)) = _
    rw [if_pos hf, show f2iI (some (flt n)) = n by show ((Ieee.double.read (flt n)).toInt .zero).getD 0 = n; rw [e3]; rfl, U_enc' ht hr.1 hr.2]
  · obtain ⟨s', K, l, M, e, _⟩ := hi
    rw [h1] at e; cases e
  · obtain ⟨s', K, l, M, e, _⟩ := hi
    rw [e] at hn; cases hn
theorem same_fl (n : Int) : (flO (some (((flt n : Nat) : Int)).toNat) (some (flt n)) != some .eq) = false := by
  show (flO (some (flt n)) (some (flt n)) != some .eq) = false
  rw [nanw]; exact num_not_nan _ _ _

/-- a float, and its whole part, between -2^63 and 2^63 -/
theorem between (b : Nat) (hb : (Ieee.double.read b).isNaN = false) : f44 4 (some b) = ((flO (some b) (some 14114281232179134464) == some .gt || flO (some b) (some 14114281232179134464) == some .eq) && (flO (some b) (some 4890909195324358656) == some .lt)) := by
  rcases read_is b with ⟨s, m, p, h1, h2, h3, h4⟩ | ⟨s, h1⟩ | hn
  · obtain ⟨tb, e1, e2, e3⟩ := trunc_is h1 h2 h4
    rw [f44_num e1 e2]
    by_cases c : 0 ≤ p
    · have hi : IsI (Ieee.double.read b) (sg s (m * 2 ^ p.toNat / 2 ^ (-p).toNat)) := by
        rw [h1, show (-p).toNat = 0 by omega, Nat.pow_zero, Nat.div_one]
        exact ⟨s, m, p, _, rfl, by rw [show (-p).toNat = 0 by omega, Nat.pow_zero, Nat.mul_one], rfl⟩
      rw [ge_of hi k_l64, lt_of hi k_h64, Bool.eq_iff_iff]
      simp only [Bool.and_eq_true, decide_eq_true_eq]
      show (-9223372036854775808 ≤ _ ∧ _ < 9223372036854775808) ↔ _
      exact Iff.rfl
    · have hz : m * 2 ^ p.toNat / 2 ^ (-p).toNat ≤ m := by
        rw [show p.toNat = 0 by omega, Nat.pow_zero, Nat.mul_one]; exact Nat.div_le_self _ _
      have hl : decide (lo 4 ≤ sg s (m * 2 ^ p.toNat / 2 ^ (-p).toNat) ∧ sg s (m * 2 ^ p.toNat / 2 ^ (-p).toNat) < hi 4) = true := by
        generalize m * 2 ^ p.toNat / 2 ^ (-p).toNat = q at hz ⊢
        refine decide_eq_true ?_
        show -9223372036854775808 ≤ _ ∧ _ < 9223372036854775808
        unfold sg
        cases s <;> simp only [Bool.false_eq_true, if_false, if_true] <;> omega
      have hp : (4096 : Nat) ≤ 2 ^ (11 - p).toNat := by
        have : (2 : Nat) ^ 12 ≤ 2 ^ (11 - p).toNat := Nat.pow_le_pow_right (by decide) (by omega)
        exact this
      have r1 : Ieee.double.read 14114281232179134464 = .number true 4503599627370496 11 := by decide
      have r2 : Ieee.double.read 4890909195324358656 = .number false 4503599627370496 11 := by decide
      have o1 : flO (some b) (some 14114281232179134464) = some .gt := by
        show (Ieee.double.read b).order (Ieee.double.read 14114281232179134464) = _
        rw [h1, r1]
        show some (compare (Ieee.signed s m (p - min p 11).toNat) (Ieee.signed true 4503599627370496 (11 - min p 11).toNat)) = _
        rw [show min p 11 = p by omega, show (p - p).toNat = 0 by omega, signed_eq, signed_eq, Int.pow_zero, Int.mul_one]
        have e : sg true 4503599627370496 * (2 : Int) ^ (11 - p).toNat = -(4503599627370496 * ((2 ^ (11 - p).toNat : Nat) : Int)) := by unfold sg; simp [Int.neg_mul]
        rw [e]
        generalize 2 ^ (11 - p).toNat = q at hp
        have hs : -(m : Int) ≤ sg s m := by unfold sg; cases s <;> simp only [Bool.false_eq_true, if_false, if_true] <;> omega
        rw [cmp_int, if_neg (by omega), if_neg (by omega)]
      have o2 : flO (some b) (some 4890909195324358656) = some .lt := by
        show (Ieee.double.read b).order (Ieee.double.read 4890909195324358656) = _
        rw [h1, r2]
        show some (compare (Ieee.signed s m (p - min p 11).toNat) (Ieee.signed false 4503599627370496 (11 - min p 11).toNat)) = _
        rw [show min p 11 = p by omega, show (p - p).toNat = 0 by omega, signed_eq, signed_eq, Int.pow_zero, Int.mul_one]
        have e : sg false 4503599627370496 * (2 : Int) ^ (11 - p).toNat = 4503599627370496 * ((2 ^ (11 - p).toNat : Nat) : Int) := by unfold sg; simp
        rw [e]
        generalize 2 ^ (11 - p).toNat = q at hp
        have hs : sg s m ≤ (m : Int) := by unfold sg; cases s <;> simp only [Bool.false_eq_true, if_false, if_true] <;> omega
        rw [cmp_int, if_pos (by omega)]
      rw [hl, o1, o2]; rfl
  · rw [f44_not (x := some b) (fun c hc => by cases hc; exact .inl ⟨s, h1⟩)]
    have r1 : Ieee.double.read 14114281232179134464 = .number true 4503599627370496 11 := by decide
    have r2 : Ieee.double.read 4890909195324358656 = .number false 4503599627370496 11 := by decide
    have o1 : flO (some b) (some 14114281232179134464) = some (if s then .lt else .gt) := by
      show (Ieee.double.read b).order (Ieee.double.read 14114281232179134464) = _
      rw [h1, r1]; rfl
    have o2 : flO (some b) (some 4890909195324358656) = some (if s then .lt else .gt) := by
      show (Ieee.double.read b).order (Ieee.double.read 4890909195324358656) = _
      rw [h1, r2]; rfl
    rw [o1, o2]; cases s <;> rfl
  · rw [hb] at hn; cases hn

theorem turned {w : Int} (hw : Wd w) (b : Nat) (H : Heap) : Fn T 7 [.int .u64 w, .fl (some b)] H (fun r h => r = .bool true ∧ h = H) := by
  have h2 : Wh 2 := .inl rfl
  have h3 : Wh 3 := .inr (.inl rfl)
  have h4 : Wh 4 := .inr (.inr rfl)
  obtain ⟨a, ea, ha⟩ := word_num h2 hw
  obtain ⟨m, em, hm⟩ := word_num h3 hw
  obtain ⟨n, en, hn⟩ := word_num h4 hw
  have e4 : w = enc 4 n := by rw [← en]; rfl
  have c1 := f28_w h3 h2 a
  have mr : m.natAbs < 9007199254740992 := by
    have h1 := hm.1
    have h2 := hm.2
    replace h1 : (-2147483648 : Int) ≤ m := h1
    replace h2 : m < 2147483648 := h2
    omega
  have c2 := f28_fl h3 hm
  have c3 := back_fl h3 mr hm
  have c4 := f28_fl h4 hn
  have c5 : enc 3 (enc 2 a) = enc 3 (enc 2 a) := rfl
  have back2 : enc 2 (enc 3 (enc 2 a)) = enc 2 a := by
    show ((((a % 256) + 2147483648) % 4294967296 - 2147483648) % 18446744073709551616) % 256 = a % 256
    omega
  have hV : f11 5 (canon13 (some b)) = true := f11_5 _
  have eV : canon13 (some b) = if (Ieee.double.read b).isNaN then 9221120237041090560 else (b : Int) := f13_5 (b : Int)
  have c9 := f28_5 h4 hV
  have f30e : f30 4 5 (canon13 (some b)) = f44 4 (some (canon13 (some b)).toNat) := by
    unfold f30
    simp only [show f34 4 5 = true from rfl, hV, Bool.not_true, Bool.false_eq_true, if_false, show ((5 : Int) != 5) = false from rfl, show ((4 : Int) == 5) = false from rfl]
  -- fits just if it lies between
  have fits : f30 4 5 (canon13 (some b)) = ((flO (some b) (some 14114281232179134464) == some .gt || flO (some b) (some 14114281232179134464) == some .eq) && (flO (some b) (some 4890909195324358656) == some .lt)) := by
    rw [f30e]
    cases hb : (Ieee.double.read b).isNaN with
    | false =>
      rw [hb] at eV
      rw [eV]
      exact between b hb
    | true =>
      rw [hb] at eV
      rw [eV]
      have n1 : f44 4 (some (if true = true then (9221120237041090560 : Int) else (b : Int)).toNat) = false := by
        show f44 4 (some 9221120237041090560) = false
        exact f44_not fun c hc => by cases hc; exact .inr (by decide)
      rw [n1, fl_none (.inl hb), fl_none (.inl hb)]; rfl
  have no : (!(f30 4 5 (canon13 (some b)))) = true → ((f28 4 5 (canon13 (some b))).1 != 0) = false := by
    intro h
    rw [f30e] at h
    have h : f44 4 (some (canon13 (some b)).toNat) = false := by simpa using h
    rw [c9, if_neg (by rw [h]; decide)]; rfl
  have yes : (!(f30 4 5 (canon13 (some b)))) = false → ((IntKind.i64.wrap (f28 4 5 (canon13 (some b))).1) == (f2iI (f31 (some b)))) = true := by
    intro h
    rw [f30e] at h
    have h : f44 4 (some (canon13 (some b)).toNat) = true := by simpa using h
    rw [c9, if_pos h]
    obtain ⟨b', hb', e, _⟩ := canon_num h
    cases hb'
    rw [e] at h ⊢
    replace h : f44 4 (some b) = true := h
    obtain ⟨b2, tb, z, hb2, q1, q2, q3, q4, q5⟩ := f44_yes h
    cases hb2
    have e1 : f2iI (some b) = z := by
      show ((Ieee.double.read b).toInt .zero).getD 0 = z
      rw [q3]; rfl
    have e2 : f2iI (f31 (some b)) = z := by
      rw [show f31 (some b) = some tb from q1]
      show ((Ieee.double.read tb).toInt .zero).getD 0 = z
      rw [q2.int]; rfl
    rw [e2]
    show (IntKind.i64.wrap (IntKind.u64.wrap (f2iI (some b))) == z) = true
    rw [e1]
    have hr := lo_hi 4
    simp only [IntKind.wrap_u64, IntKind.wrap_i64, beq_iff_eq]
    omega
  refine w7 w (some b) ?_ ?_ ?_ ?_ ?_ ?_ ?_ ?_ ?_ ?_ ?_ ?_ ?_ ?_ ?_ ?_ H
  · rw [ea, c1]; rfl
  · rw [ea, c1, f28_w h2 h3]; rfl
  · rw [em, c2]; rfl
  · rw [em, c2, c3]; rfl
  · rw [e4, c4]; rfl
  · rw [ea, c1, f28_w h2 h3, back2]; simp
  · rw [em, c2, c3]; simp
  · rw [em, c2, S_enc h3 hm.1 hm.2]; exact same_fl m
  · rw [e4, c4, S_enc h4 hn.1 hn.2]; exact same_fl n
  · rw [c9]; split <;> rfl
  · intro h
    rw [fits, h]; simp
  · intro _ h; exact no h
  · intro _ h; exact yes h
  · intro h
    rw [fits, h]; rfl
  · intro _ h; exact no h
  · intro _ h; exact yes h

theorem law_ScalarTurned {B0 n0 : Nat} {u0 : V} (g0 : u0.isAg = agOf Go.Proofs.Try.prog 23) (w0 : WfT Go.Proofs.Try.prog B0 n0 23 u0.cells)
    {B1 n1 : Nat} {u1 : V} (g1 : u1.isAg = agOf Go.Proofs.Try.prog 30) (w1 : WfT Go.Proofs.Try.prog B1 n1 30 u1.cells) : Fn T 7 [u0, u1] [] (fun r h => r = .bool true) := by
  obtain ⟨w, rfl, a0, a1⟩ := WfT.int (k := .u64) (by kernel_rfl) (by rw [g0]; decide +kernel) w0
  obtain ⟨b, rfl, _⟩ := WfT.float (by kernel_rfl) (by rw [g1]; decide +kernel) w1
  exact (turned (u64_in' a0 a1) b []).mono fun r h hr => hr.1
end Go.Eng.Sca
