/- Words, operations and types: the program and the reference alike (no program in sight; conditions: those stated). -/
import Derived.Test.YtfkakbipedafiaaDoorGraP2
namespace Go.Eng.Gra
open Go Go.Eng
set_option linter.unusedSectionVars false
set_option linter.unusedVariables false
set_option linter.unusedSimpArgs false

theorem and_one {x : Int} (h0 : 0 ≤ x) (h1 : x < 18446744073709551616) : ((BitVec.ofInt IntKind.u64.bits x &&& BitVec.ofInt IntKind.u64.bits (1 : Int)).toNat : Int) = x % 2 := by
  have e : IntKind.u64.bits = 64 := rfl
  rw [e, BitVec.toNat_and, BitVec.toNat_ofInt, BitVec.toNat_ofInt]
  have h2 : ((1 : Int) % ((2 ^ 64 : Nat) : Int)).toNat = 1 := by decide
  have h3 : (x % ((2 ^ 64 : Nat) : Int)).toNat = x.toNat := by
    have : x % ((2 ^ 64 : Nat) : Int) = x := Int.emod_eq_of_lt h0 (by simpa using h1)
    rw [this]
  rw [h2, h3, Nat.and_one_is_mod]
  omega
theorem cut_eq (t b : Int) (h0 : 0 ≤ b) (h1 : b < 18446744073709551616) : ∃ v, F74 t b = some v ∧ F99 t b = some v := by
  unfold F74 F99 F74_j1 F99_j1 F102
  have hm : ∀ n : Int, Int.tmod b n = b % n := fun n => Int.tmod_eq_emod_of_nonneg h0
  by_cases q1 : t = 1
  · subst q1
    refine ⟨_, rfl, ?_⟩
    have := and_one h0 h1
    simp only [beq_self_eq_true, if_true]
    rw [this, hm, IntKind.wrap_u64]; congr 1; omega
  by_cases q2 : t = 2
  · subst q2
    refine ⟨_, rfl, ?_⟩
    simp only [show ((2 : Int) == 1) = false from rfl, Bool.false_eq_true, if_false, beq_self_eq_true, if_true]
    rw [hm, IntKind.wrap_u8, IntKind.wrap_u64]; congr 1; omega
  by_cases q3 : t = 3
  · subst q3
    refine ⟨_, rfl, ?_⟩
    simp only [show ((3 : Int) == 1) = false from rfl, show ((3 : Int) == 2) = false from rfl, Bool.false_eq_true, if_false, beq_self_eq_true, if_true]
    rw [hm, IntKind.wrap_i32, IntKind.wrap_i64, IntKind.wrap_u64, IntKind.wrap_u64]
    by_cases hb : b % 4294967296 ≥ 2147483648
    · rw [decide_eq_true hb]; simp only [if_true]; congr 1; omega
    · rw [decide_eq_false hb]; simp only [Bool.false_eq_true, if_false]; congr 1; omega
  by_cases q4 : t = 4
  · subst q4; exact ⟨b, rfl, rfl⟩
  by_cases q5 : t = 5
  · subst q5
    simp only [show ((5 : Int) == 1) = false from rfl, show ((5 : Int) == 2) = false from rfl, show ((5 : Int) == 3) = false from rfl, show ((5 : Int) == 4) = false from rfl, Bool.false_eq_true, if_false, beq_self_eq_true, if_true, Option.bind_some]
    cases (flO (some (Int.toNat b)) (some (Int.toNat b)) != some Ordering.eq)
    · exact ⟨_, rfl, rfl⟩
    · exact ⟨_, rfl, rfl⟩
  · have e1 : (t == 1) = false := by simp [q1]
    have e2 : (t == 2) = false := by simp [q2]
    have e3 : (t == 3) = false := by simp [q3]
    have e4 : (t == 4) = false := by simp [q4]
    have e5 : (t == 5) = false := by simp [q5]
    rw [e1, e2, e3, e4, e5]
    exact ⟨0, rfl, rfl⟩
theorem right_eq (t b : Int) (h0 : 0 ≤ b) (h1 : b < 18446744073709551616) : ∃ v, F55 t b = some v ∧ F94 t b = some v := by
  obtain ⟨v, e1, e2⟩ := cut_eq t b h0 h1
  unfold F55 F94
  rw [e1, e2]
  cases decide (t ≥ 1) <;> cases decide (t ≤ 5) <;> exact ⟨_, rfl, rfl⟩
theorem of_eq (op t : Int) : ∃ r : Int × Bool, F75 op t = some r ∧ (1 ≤ op → op ≤ 18 → F100 op t = some r) ∧ (¬ (1 ≤ op ∧ op ≤ 18) → r.2 = false) := by
  by_cases q1 : t < 1
  · refine ⟨(0, false), ?_, fun _ _ => ?_, fun _ => rfl⟩
    · unfold F75; rw [decide_eq_true q1]; rfl
    · unfold F100; rw [decide_eq_true q1]; rfl
  by_cases q2 : t > 5
  · refine ⟨(0, false), ?_, fun _ _ => ?_, fun _ => rfl⟩
    · unfold F75; rw [decide_eq_false q1, decide_eq_true q2]; rfl
    · unfold F100; rw [decide_eq_false q1, decide_eq_true q2]; rfl
  by_cases q3 : 1 ≤ op ∧ op ≤ 18
  · have ht : t = 1 ∨ t = 2 ∨ t = 3 ∨ t = 4 ∨ t = 5 := by omega
    have ho : op = 1 ∨ op = 2 ∨ op = 3 ∨ op = 4 ∨ op = 5 ∨ op = 6 ∨ op = 7 ∨ op = 8 ∨ op = 9 ∨ op = 10 ∨ op = 11 ∨ op = 12 ∨ op = 13 ∨ op = 14 ∨ op = 15 ∨ op = 16 ∨ op = 17 ∨ op = 18 := by omega
    rcases ht with rfl | rfl | rfl | rfl | rfl <;>
      rcases ho with rfl | rfl | rfl | rfl | rfl | rfl | rfl | rfl | rfl | rfl | rfl | rfl | rfl | rfl | rfl | rfl | rfl | rfl <;>
      exact ⟨_, rfl, fun _ _ => rfl, fun h => absurd q3 h⟩
  · refine ⟨(0, false), ?_, fun h h' => absurd ⟨h, h'⟩ q3, fun _ => rfl⟩
    have ne : ∀ k : Int, 1 ≤ k → k ≤ 18 → (op == k) = false := by
      intro k h1 h2
      have : op ≠ k := by omega
      simp [this]
    unfold F75
    rw [decide_eq_false q1, decide_eq_false q2]
    rw [ne 1 (by decide) (by decide), ne 2 (by decide) (by decide), ne 3 (by decide) (by decide), ne 4 (by decide) (by decide), ne 5 (by decide) (by decide), ne 6 (by decide) (by decide), ne 7 (by decide) (by decide), ne 8 (by decide) (by decide), ne 9 (by decide) (by decide), ne 10 (by decide) (by decide), ne 11 (by decide) (by decide), ne 12 (by decide) (by decide), ne 13 (by decide) (by decide), ne 14 (by decide) (by decide), ne 15 (by decide) (by decide), ne 16 (by decide) (by decide), ne 17 (by decide) (by decide), ne 18 (by decide) (by decide)]
    rfl
theorem turns_eq (a b : Int) : ∃ v, F57 a b = some v ∧ F96 a b = some v := by
  have w : ∀ t : Int, F76 t = some (decide (2 ≤ t ∧ t ≤ 4)) := by
    intro t
    unfold F76
    by_cases h2 : t = 2
    · subst h2; rfl
    by_cases h3 : t = 3
    · subst h3; rfl
    by_cases h4 : t = 4
    · subst h4; rfl
    have e2 : (t == 2) = false := by simp [h2]
    have e3 : (t == 3) = false := by simp [h3]
    have e4 : (t == 4) = false := by simp [h4]
    rw [e2, e3, e4]
    have : ¬ (2 ≤ t ∧ t ≤ 4) := by omega
    rw [decide_eq_false this]; rfl
  have e : F96 a b = some (decide (2 ≤ a ∧ a ≤ 5) && decide (2 ≤ b ∧ b ≤ 5)) := by
    unfold F96
    by_cases h1 : 2 ≤ a <;> by_cases h2 : a ≤ 5 <;> by_cases h3 : 2 ≤ b <;> by_cases h4 : b ≤ 5 <;> simp [h1, h2, h3, h4]
  refine ⟨_, ?_, e⟩
  unfold F57
  simp only [w, Option.bind_some]
  by_cases h1 : 2 ≤ a ∧ a ≤ 4
  · rw [decide_eq_true h1, decide_eq_true (show 2 ≤ a ∧ a ≤ 5 by omega)]
    simp only [if_true, Bool.true_and]
    by_cases h2 : 2 ≤ b ∧ b ≤ 4
    · rw [decide_eq_true h2, decide_eq_true (show 2 ≤ b ∧ b ≤ 5 by omega)]; rfl
    · rw [decide_eq_false h2, beq_dec]
      simp only [Bool.false_eq_true, if_false]
      congr 1; exact decide_eq_decide.mpr (by omega)
  · rw [decide_eq_false h1]
    simp only [Bool.false_eq_true, if_false]
    by_cases h5 : a = 5
    · subst h5
      simp only [beq_self_eq_true, if_true]
      by_cases h2 : 2 ≤ b ∧ b ≤ 4
      · rw [decide_eq_true h2, decide_eq_true (show 2 ≤ b ∧ b ≤ 5 by omega)]; rfl
      · rw [decide_eq_false h2, beq_dec]
        simp only [Bool.false_eq_true, if_false]
        congr 1; simp only [show decide ((2 : Int) ≤ 5 ∧ (5 : Int) ≤ 5) = true from rfl, Bool.true_and]; exact decide_eq_decide.mpr (by omega)
    · have e5 : (a == 5) = false := by simp [h5]
      rw [e5, decide_eq_false (show ¬ (2 ≤ a ∧ a ≤ 5) by omega)]; rfl
end Go.Eng.Gra
