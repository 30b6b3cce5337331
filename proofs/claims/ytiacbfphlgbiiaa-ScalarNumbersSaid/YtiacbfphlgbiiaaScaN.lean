/- Operations on words, in plain numbers: the program's and the document's are one (no condition beyond those stated). -/
import Derived.Test.YtiacbfphlgbiiaaScaM
namespace Go.Eng.Sca
open Go Go.Eng
set_option linter.unusedVariables false
set_option linter.unusedSimpArgs false
set_option maxRecDepth 20000
set_option maxHeartbeats 4000000

theorem of_no {op : Int} (h : ¬ (1 ≤ op ∧ op ≤ 18)) (t : Int) : f19 op t = (0, false) ∧ f20 op t = (0, false) := by
  have n : ∀ k : Int, 1 ≤ k → k ≤ 18 → (op == k) = false := fun k h1 h2 => by
    have : op ≠ k := by omega
    simpa using this
  unfold f19 f20
  simp only [n 1 (by decide) (by decide), n 2 (by decide) (by decide), n 3 (by decide) (by decide), n 4 (by decide) (by decide), n 5 (by decide) (by decide), n 6 (by decide) (by decide), n 7 (by decide) (by decide), n 8 (by decide) (by decide), n 9 (by decide) (by decide), n 10 (by decide) (by decide), n 11 (by decide) (by decide), n 12 (by decide) (by decide), n 13 (by decide) (by decide), n 14 (by decide) (by decide), n 15 (by decide) (by decide), n 16 (by decide) (by decide), n 17 (by decide) (by decide), n 18 (by decide) (by decide), Bool.false_eq_true, if_false, ite_self, and_self]
theorem of_out {t : Int} (h : ¬ (1 ≤ t ∧ t ≤ 5)) (op : Int) : f19 op t = (0, false) ∧ f20 op t = (0, false) := by
  unfold f19 f20
  by_cases c : t < 1
  · simp only [decide_eq_true c, if_true, and_self]
  · have c2 : t > 5 := by omega
    simp only [decide_eq_false c, decide_eq_true c2, if_true, Bool.false_eq_true, if_false, and_self]
theorem ops_of {op : Int} (h : 1 ≤ op ∧ op ≤ 18) : op = 1 ∨ op = 2 ∨ op = 3 ∨ op = 4 ∨ op = 5 ∨ op = 6 ∨ op = 7 ∨ op = 8 ∨ op = 9 ∨ op = 10 ∨ op = 11 ∨ op = 12 ∨ op = 13 ∨ op = 14 ∨ op = 15 ∨ op = 16 ∨ op = 17 ∨ op = 18 := by omega
theorem typ_of {t : Int} (h : 1 ≤ t ∧ t ≤ 5) : t = 1 ∨ t = 2 ∨ t = 3 ∨ t = 4 ∨ t = 5 := by omega
theorem of_eq (op t : Int) : f19 op t = f20 op t := by
  by_cases ho : 1 ≤ op ∧ op ≤ 18
  · by_cases ht : 1 ≤ t ∧ t ≤ 5
    · rcases typ_of ht with rfl | rfl | rfl | rfl | rfl <;> rcases ops_of ho with rfl | rfl | rfl | rfl | rfl | rfl | rfl | rfl | rfl | rfl | rfl | rfl | rfl | rfl | rfl | rfl | rfl | rfl <;> decide
    · rw [(of_out ht op).1, (of_out ht op).2]
  · rw [(of_no ho t).1, (of_no ho t).2]
theorem of_ok {op t : Int} (h : (f20 op t).2 = true) : (1 ≤ op ∧ op ≤ 18) ∧ (1 ≤ t ∧ t ≤ 5) := by
  refine ⟨?_, ?_⟩
  · false_or_by_contra; rename_i c; rw [(of_no c t).2] at h; cases h
  · false_or_by_contra; rename_i c; rw [(of_out c op).2] at h; cases h
/-- what an operation on floats may be -/
theorem of_fl {op : Int} (h : (f20 op 5).2 = true) : (1 ≤ op ∧ op ≤ 4) ∨ (11 ≤ op ∧ op ≤ 17) := by
  obtain ⟨ho, _⟩ := of_ok h
  rcases ops_of ho with rfl | rfl | rfl | rfl | rfl | rfl | rfl | rfl | rfl | rfl | rfl | rfl | rfl | rfl | rfl | rfl | rfl | rfl <;> first | omega | (exfalso; revert h; decide)

theorem i64_of {a : Int} (h : Wd a) : IntKind.i64.wrap a = if 9223372036854775808 ≤ a then a - 18446744073709551616 else a := by
  obtain ⟨h0, h1⟩ := h
  rw [IntKind.wrap_i64]; split <;> omega
theorem size_of {a : Int} (h : Wd a) : f60 a = if 9223372036854775808 ≤ a then (18446744073709551616 - a, true) else (a, false) := by
  obtain ⟨h0, h1⟩ := h
  unfold f60
  by_cases c : a ≥ 9223372036854775808
  · rw [if_pos (by simpa using c), if_pos (by omega), IntKind.wrap_u64]
    congr 1; omega
  · rw [if_neg (by simpa using c), if_neg (by omega)]

theorem over_q {a b : Int} (ha : Wd a) (hb : Wd b) : (if (IntKind.i64.wrap b == (0 : Int)) then (0 : Int) else IntKind.u64.wrap (IntKind.i64.wrap ((IntKind.i64.wrap a).tdiv (IntKind.i64.wrap b)))) = (f53 a b).1 ∧
    (if (IntKind.i64.wrap b == (0 : Int)) then (0 : Int) else IntKind.u64.wrap ((IntKind.i64.wrap a).tmod (IntKind.i64.wrap b))) = (f53 a b).2 := by
  by_cases hb0 : b = 0
  · subst hb0; exact ⟨rfl, rfl⟩
  have e0 : (IntKind.i64.wrap b == (0 : Int)) = false := by
    have : IntKind.i64.wrap b ≠ 0 := by rw [i64_of hb]; have := hb.1; have := hb.2; split <;> omega
    simpa using this
  have e1 : (b == (0 : Int)) = false := by simpa using hb0
  unfold f53
  simp only [e0, e1, Bool.false_eq_true, if_false]
  rw [size_of ha, size_of hb, i64_of ha, i64_of hb]
  obtain ⟨a0, a1⟩ := ha
  obtain ⟨b0, b1⟩ := hb
  -- a quotient and a rest of sizes
  have qr : ∀ x y : Int, 0 ≤ x → 0 < y → x ≤ 9223372036854775808 → 0 ≤ x / y ∧ x / y ≤ x ∧ 0 ≤ x % y ∧ x % y < y ∧ x.tdiv y = x / y ∧ x.tmod y = x % y := by
    intro x y hx hy hm
    refine ⟨Int.ediv_nonneg hx (by omega), ?_, Int.emod_nonneg _ (by omega), Int.emod_lt_of_pos _ hy, tdivp hx y, tmodp hx y⟩
    have := Int.ediv_le_self y hx
    exact this
  by_cases ca : 9223372036854775808 ≤ a <;> by_cases cb : 9223372036854775808 ≤ b
  · simp only [if_pos ca, if_pos cb, beq_self_eq_true, Bool.not_true, Bool.false_eq_true, if_false, if_true]
    obtain ⟨q0, q1, r0, r1, e1, e2⟩ := qr (18446744073709551616 - a) (18446744073709551616 - b) (by omega) (by omega) (by omega)
    rw [show a - 18446744073709551616 = -(18446744073709551616 - a) by omega, show b - 18446744073709551616 = -(18446744073709551616 - b) by omega, Int.neg_tdiv, Int.tdiv_neg, Int.neg_tmod, Int.tmod_neg, e1, e2]
    generalize (18446744073709551616 - a) / (18446744073709551616 - b) = q at *
    generalize (18446744073709551616 - a) % (18446744073709551616 - b) = r at *
    simp only [IntKind.wrap_u64, IntKind.wrap_i64]
    constructor <;> omega
  · simp only [if_pos ca, if_neg cb, show (true == false) = false from rfl, Bool.not_false, if_true]
    obtain ⟨q0, q1, r0, r1, e1, e2⟩ := qr (18446744073709551616 - a) b (by omega) (by omega) (by omega)
    rw [show a - 18446744073709551616 = -(18446744073709551616 - a) by omega, Int.neg_tdiv, Int.neg_tmod, e1, e2]
    generalize (18446744073709551616 - a) / b = q at *
    generalize (18446744073709551616 - a) % b = r at *
    simp only [IntKind.wrap_u64, IntKind.wrap_i64]
    constructor <;> omega
  · simp only [if_neg ca, if_pos cb, show (false == true) = false from rfl, Bool.not_false, Bool.false_eq_true, if_false, if_true]
    obtain ⟨q0, q1, r0, r1, e1, e2⟩ := qr a (18446744073709551616 - b) (by omega) (by omega) (by omega)
    rw [show b - 18446744073709551616 = -(18446744073709551616 - b) by omega, Int.tdiv_neg, Int.tmod_neg, e1, e2]
    generalize a / (18446744073709551616 - b) = q at *
    generalize a % (18446744073709551616 - b) = r at *
    simp only [IntKind.wrap_u64, IntKind.wrap_i64]
    constructor <;> omega
  · simp only [if_neg ca, if_neg cb, beq_self_eq_true, Bool.not_true, Bool.false_eq_true, if_false]
    obtain ⟨q0, q1, r0, r1, e1, e2⟩ := qr a b (by omega) (by omega) (by omega)
    rw [e1, e2]
    generalize a / b = q at *
    generalize a % b = r at *
    simp only [IntKind.wrap_u64, IntKind.wrap_i64]
    constructor <;> omega

theorem top_of {w : Int} (h : Wd w) : IntKind.u64.wrap ((BitVec.ofInt IntKind.u64.bits w &&& ~~~(BitVec.ofInt IntKind.u64.bits 9223372036854775807)).toNat : Int) = if 9223372036854775808 ≤ w then 9223372036854775808 else 0 := by
  have e : (BitVec.ofInt IntKind.u64.bits w &&& ~~~(BitVec.ofInt IntKind.u64.bits 9223372036854775807)).toNat = (w.toNat.testBit 63).toNat * 2 ^ 63 := by
    rw [BitVec.toNat_and, ofI h]
    have : (~~~(BitVec.ofInt IntKind.u64.bits 9223372036854775807)).toNat = 2 ^ 63 := by decide
    rw [this]
    apply Nat.eq_of_testBit_eq
    intro i
    rw [Nat.testBit_and, Nat.testBit_two_pow]
    by_cases c : 63 = i
    · subst c
      cases hb : w.toNat.testBit 63 with
      | true => decide
      | false => decide
    · cases hb : w.toNat.testBit 63 with
      | true =>
        have := Nat.testBit_two_pow (n := 63) (m := i)
        simp only [c, decide_false] at this ⊢
        simpa using this
      | false => simp [c]
  obtain ⟨h0, h1⟩ := h
  rw [e, Nat.testBit_eq_decide_div_mod_eq]
  by_cases c : 9223372036854775808 ≤ w
  · rw [if_pos c, decide_eq_true (show w.toNat / 2 ^ 63 % 2 = 1 by omega)]; rfl
  · rw [if_neg c, decide_eq_false (show ¬ w.toNat / 2 ^ 63 % 2 = 1 by omega)]; rfl
theorem down_of : ∀ (n : Nat) {w : Int}, Wd w → downS n w = IntKind.u64.wrap ((IntKind.i64.wrap w) / 2 ^ n)
  | 0, w, h => by
    rw [i64_of h]
    obtain ⟨h0, h1⟩ := h
    simp only [downS, IntKind.wrap_u64, Int.pow_zero, Int.ediv_one]
    split <;> omega
  | n + 1, w, h => by
    obtain ⟨w', e, hw', hi⟩ : ∃ w' : Int, IntKind.u64.wrap (IntKind.u64.wrap (w.tdiv 2) + IntKind.u64.wrap ((BitVec.ofInt IntKind.u64.bits w &&& ~~~(BitVec.ofInt IntKind.u64.bits 9223372036854775807)).toNat : Int)) = w' ∧ Wd w' ∧ IntKind.i64.wrap w' = IntKind.i64.wrap w / 2 := by
      refine ⟨_, rfl, ?_, ?_⟩
      · rw [IntKind.wrap_u64]; exact ⟨by omega, by omega⟩
      · rw [top_of h, tdivp h.1]
        obtain ⟨h0, h1⟩ := h
        simp only [IntKind.wrap_u64, IntKind.wrap_i64]
        split <;> omega
    show downS n (IntKind.u64.wrap (IntKind.u64.wrap (w.tdiv 2) + _)) = _
    rw [e, down_of n hw', hi, Int.ediv_ediv_of_nonneg (show (0 : Int) ≤ 2 by decide), show (2 : Int) ^ (n + 1) = 2 * 2 ^ n by rw [Int.pow_succ]; omega]

theorem places_eq {b : Int} (h : Wd b) (t : Int) : f50 t b = f54 t b := by
  unfold f50 f54
  rw [mask h 3 7 (by decide) (by decide), mask h 5 31 (by decide) (by decide), mask h 6 63 (by decide) (by decide), tmodp h.1, tmodp h.1, tmodp h.1]
  rfl
theorem truth_eq (b : Bool) : f62 b = f52 b := by cases b <;> rfl
theorem less_eq {a b : Int} (ha : Wd a) (hb : Wd b) : f56 a b = decide (IntKind.i64.wrap a < IntKind.i64.wrap b) := by
  unfold f56
  rw [i64_of ha, i64_of hb]
  obtain ⟨a0, a1⟩ := ha
  obtain ⟨b0, b1⟩ := hb
  simp only [IntKind.wrap_u64, decide_eq_decide]
  split <;> split <;> omega
theorem same_eq {a b : Int} (ha : Wd a) (hb : Wd b) : (IntKind.i64.wrap a == IntKind.i64.wrap b) = (a == b) := by
  rw [i64_of ha, i64_of hb]
  obtain ⟨a0, a1⟩ := ha
  obtain ⟨b0, b1⟩ := hb
  rw [Bool.eq_iff_iff]
  simp only [beq_iff_eq]
  split <;> split <;> omega

theorem num_eq {op t a b : Int} (ha : Wd a) (hb : Wd b) (ho : 1 ≤ op ∧ op ≤ 16) : f41 op t a b = f43 op t a b := by
  have ops : op = 1 ∨ op = 2 ∨ op = 3 ∨ op = 4 ∨ op = 5 ∨ op = 6 ∨ op = 7 ∨ op = 8 ∨ op = 9 ∨ op = 10 ∨ op = 11 ∨ op = 12 ∨ op = 13 ∨ op = 14 ∨ op = 15 ∨ op = 16 := by omega
  have hp := places_eq hb t
  have hl : f54 t b < 64 := f54_lt t b
  have hn : 0 ≤ f54 t b := f54_nn t hb.1
  rcases ops with rfl | rfl | rfl | rfl | rfl | rfl | rfl | rfl | rfl | rfl | rfl | rfl | rfl | rfl | rfl | rfl
  · rfl
  · rfl
  · rfl
  · exact (over_q ha hb).1
  · exact (over_q ha hb).2
  · rfl
  · rfl
  · rfl
  · show IntKind.u64.wrap (a * 2 ^ (min (f50 t b).toNat IntKind.u64.bits)) = IntKind.u64.wrap (a * 2 ^ (min (f54 t b).toNat IntKind.u64.bits))
    rw [hp]
  · show IntKind.u64.wrap ((IntKind.i64.wrap a).fdiv (2 ^ (min (f50 t b).toNat IntKind.i64.bits))) = f55 a (f54 t b)
    have hm : min (f54 t b).toNat IntKind.i64.bits = (f54 t b).toNat := by
      show min (f54 t b).toNat 64 = _
      omega
    have h2 : (0 : Int) ≤ 2 ^ (f54 t b).toNat := by
      have := Nat.zero_le (2 ^ (f54 t b).toNat)
      exact_mod_cast this
    rw [hp, hm, f55, down_of _ ha, Int.fdiv_eq_ediv_of_nonneg _ h2]
  · show f62 (IntKind.i64.wrap a == IntKind.i64.wrap b) = f52 (a == b)
    rw [truth_eq, same_eq ha hb]
  · show f62 (IntKind.i64.wrap a != IntKind.i64.wrap b) = f52 (a != b)
    rw [truth_eq, bne, same_eq ha hb]; rfl
  · show f62 (decide (IntKind.i64.wrap a < IntKind.i64.wrap b)) = f52 (f56 a b)
    rw [truth_eq, less_eq ha hb]
  · show f62 (decide (IntKind.i64.wrap a ≤ IntKind.i64.wrap b)) = f52 (!(f56 b a))
    rw [truth_eq, less_eq hb ha]; congr 1
    rw [Bool.eq_iff_iff]; simp
  · show f62 (decide (IntKind.i64.wrap a > IntKind.i64.wrap b)) = f52 (f56 b a)
    rw [truth_eq, less_eq hb ha]
  · show f62 (decide (IntKind.i64.wrap a ≥ IntKind.i64.wrap b)) = f52 (!(f56 a b))
    rw [truth_eq, less_eq ha hb]; congr 1
    rw [Bool.eq_iff_iff]; simp
theorem truth_wd (b : Bool) : Wd (f52 b) := by cases b <;> exact ⟨by decide, by decide⟩
theorem u64_wd (x : Int) : Wd (IntKind.u64.wrap x) := by rw [IntKind.wrap_u64]; exact ⟨by omega, by omega⟩
theorem wd_ite {c : Prop} [Decidable c] {a b : Int} (ha : Wd a) (hb : Wd b) : Wd (if c then a else b) := by split <;> assumption
theorem wd_0 : Wd 0 := ⟨by decide, by decide⟩
theorem num_wd (op t a b : Int) : Wd (f41 op t a b) := by
  unfold f41 f51
  simp only [truth_eq]
  repeat' first | apply wd_ite | exact u64_wd _ | exact truth_wd _ | exact wd_0 | exact (show Wd 1 from ⟨by decide, by decide⟩)

theorem write_lt (d : Ieee.Datum) : Ieee.double.write d < 18446744073709551616 := by
  have hs : Ieee.double.signWeight = 9223372036854775808 := by decide
  have hb : Ieee.double.binade = 4503599627370496 := by decide
  have hi : Ieee.double.infRung = 9218868437227405312 := by decide
  cases d with
  | number s m p =>
    show Ieee.double.nearest s m p < _
    unfold Ieee.Format.nearest
    split
    · unfold Ieee.Format.word; rw [hs]; split <;> omega
    · unfold Ieee.Format.word; rw [hs, hi]
      dsimp only
      split <;> omega
  | infinity s =>
    show Ieee.double.word s Ieee.double.infRung < _
    unfold Ieee.Format.word; rw [hs, hi]; split <;> omega
  | nan s t =>
    show Ieee.double.word s (Ieee.double.infRung + t % Ieee.double.binade) < _
    unfold Ieee.Format.word; rw [hs, hi, hb]
    have := Nat.mod_lt t (show 0 < 4503599627370496 by decide)
    split <;> omega
theorem map_write {o : Option Ieee.Datum} {b : Nat} (h : o.map Ieee.double.write = some b) : b < 18446744073709551616 := by
  cases o with
  | none => cases h
  | some d => cases h; exact write_lt d
theorem canon_ari (f : Nat → Nat → Option Nat) (hf : ∀ x y b, f x y = some b → b < 18446744073709551616) (a b : Option Nat) : canon13 (flA f a b) = canon14 (flA f a b) := by
  refine canon_eq _ fun c hc => ?_
  unfold flA at hc
  split at hc
  · exact hf _ _ _ hc
  · cases hc
theorem fl_eq {op : Int} (ho : (1 ≤ op ∧ op ≤ 4) ∨ (11 ≤ op ∧ op ≤ 16)) (a b : Option Nat) : f40 op a b = f42 op a b := by
  have ops : op = 1 ∨ op = 2 ∨ op = 3 ∨ op = 4 ∨ op = 11 ∨ op = 12 ∨ op = 13 ∨ op = 14 ∨ op = 15 ∨ op = 16 := by omega
  rcases ops with rfl | rfl | rfl | rfl | rfl | rfl | rfl | rfl | rfl | rfl
  · exact canon_ari _ (fun x y b h => map_write h) a b
  · exact canon_ari _ (fun x y b h => map_write h) a b
  · exact canon_ari _ (fun x y b h => map_write h) a b
  · exact canon_ari _ (fun x y b h => map_write h) a b
  all_goals exact truth_eq _

theorem two_eq (op t : Int) {a b : Int} (ha : Wd a) (hb : Wd b) : f21 op t a b = f22 op t a b := by
  unfold f21 f22
  rw [of_eq, f11_12 ha, f11_12 hb]
  cases hk : (f20 op t).2 with
  | false => rfl
  | true =>
    obtain ⟨ho, ht⟩ := of_ok hk
    simp only [Bool.not_true, Bool.false_eq_true, if_false]
    by_cases c17 : op = 17
    · subst c17; rfl
    by_cases c18 : op = 18
    · subst c18; rfl
    have e17 : (op == 17) = false := by simpa using c17
    have e18 : (op == 18) = false := by simpa using c18
    have e16 : decide (op > 16) = false := decide_eq_false (by omega)
    simp only [e17, e18, e16, Bool.false_eq_true, if_false]
    by_cases c5 : t = 5
    · subst c5
      have := of_fl hk
      simp only [beq_self_eq_true, if_true]
      rw [fl_eq (by omega)]
    · have e5 : (t == 5) = false := by simpa using c5
      simp only [e5, Bool.false_eq_true, if_false]
      rw [← num_eq ha hb (by omega), f13_14 (num_wd op t a b)]
theorem one_eq (op t : Int) {a : Int} (ha : Wd a) : f23 op t a = f24 op t a := by
  unfold f23 f24
  rw [of_eq, f11_12 ha]
  cases hk : (f20 op t).2 with
  | false => rfl
  | true =>
    obtain ⟨ho, ht⟩ := of_ok hk
    simp only [Bool.not_true, Bool.false_eq_true, if_false]
    by_cases c17 : op = 17
    · subst c17
      simp only [show ((17 : Int) != 17) = false from rfl, show ((17 : Int) == 18) = false from rfl, show decide ((17 : Int) < 17) = false from rfl, show ((17 : Int) == 17) = true from rfl, Bool.false_eq_true, if_false, if_true]
      by_cases c5 : t = 5
      · subst c5
        simp only [beq_self_eq_true, if_true]
        have e : (IntKind.u64.wrap ((BitVec.ofInt IntKind.u64.bits a ^^^ BitVec.ofInt IntKind.u64.bits (9223372036854775808 : Int)).toNat : Int)) = ((a.toNat ^^^ 9223372036854775808 : Nat) : Int) := by
          have e1 : (BitVec.ofInt IntKind.u64.bits a ^^^ BitVec.ofInt IntKind.u64.bits (9223372036854775808 : Int)).toNat = a.toNat ^^^ 9223372036854775808 := by
            rw [BitVec.toNat_xor, ofI ha, ofI ⟨by decide, by decide⟩]; rfl
          have e2 := (BitVec.ofInt IntKind.u64.bits a ^^^ BitVec.ofInt IntKind.u64.bits (9223372036854775808 : Int)).isLt
          have e3 : 2 ^ IntKind.u64.bits = 18446744073709551616 := by decide
          rw [e3] at e2
          rw [IntKind.wrap_u64, ← e1]; omega
        have hw := u64_wd ((BitVec.ofInt IntKind.u64.bits a ^^^ BitVec.ofInt IntKind.u64.bits (9223372036854775808 : Int)).toNat : Int)
        rw [← e, f13_14 hw]
      · have e5 : (t == 5) = false := by simpa using c5
        simp only [e5, Bool.false_eq_true, if_false]
        rw [f13_14 (u64_wd _)]
    · by_cases c18 : op = 18
      · subst c18
        have c5 : t ≠ 5 := by rintro rfl; revert hk; decide
        have e5 : (t == 5) = false := by simpa using c5
        simp only [show ((18 : Int) != 17) = true from rfl, show ((18 : Int) != 18) = false from rfl, show ((18 : Int) == 18) = true from rfl, show decide ((18 : Int) < 17) = false from rfl, show ((18 : Int) == 17) = false from rfl, e5, Bool.false_eq_true, if_false, if_true]
        rw [f13_14 (u64_wd _)]
      · have e17 : (op != 17) = true := by simpa using c17
        have e18 : (op != 18) = true := by simpa using c18
        have e16 : decide (op < 17) = true := decide_eq_true (by omega)
        simp only [e17, e18, e16, if_true]
theorem stops_eq (op t b : Int) : f25 op t b = f26 op t b := rfl
end Go.Eng.Sca
