/- What Scan tells of a token alone, and where it refuses: in plain words of lists (no program in sight; no condition beyond those stated). -/
import Derived.Test.YtimnlnkjogbjfaaTokG
namespace Go.Eng.Tok
open Go Go.Eng
set_option linter.unusedVariables false
set_option linter.unusedSimpArgs false

/-- where the blanks and remarks end there is neither -/
theorem skip_end : ∀ (k : Nat) {A : List UInt8}, A.length < k → [47, 47].isPrefixOf (A.drop (skipN A)) = false ∧ ∀ x, A[skipN A]? = some x → kd x ≠ 1
  | 0, _, h => by omega
  | k + 1, A, h => by
    cases hp : [47, 47].isPrefixOf (A.drop (rowN [1] A)) with
    | false =>
      rw [skipN_no hp]
      refine ⟨hp, fun x hx hk => ?_⟩
      have hlt := (List.getElem?_eq_some_iff.mp hx).1
      have he := (List.getElem?_eq_some_iff.mp hx).2
      have := tw_end (p := fun b => [1].contains (kd b)) A hlt
      have e2 : A[(A.takeWhile fun b => [1].contains (kd b)).length] = x := he
      rw [e2, hk] at this; simp at this
    | true =>
      have hl2 := line_pos hp
      have hle := lineN_le (A.drop (rowN [1] A))
      rw [List.length_drop] at hle
      rw [skipN_yes hp]
      have := skip_end k (A := A.drop (rowN [1] A + lineN (A.drop (rowN [1] A)))) (by rw [List.length_drop]; omega)
      rw [List.drop_drop] at this
      refine ⟨by rw [← this.1]; congr 2; omega, fun x hx => this.2 x ?_⟩
      rw [List.getElem?_drop, ← hx]; congr 1; omega
/-- nothing is skipped ahead of a token -/
theorem skip_none {B : List UInt8} (h1 : ∀ x, B[0]? = some x → kd x ≠ 1) (h2 : [47, 47].isPrefixOf B = false) : skipN B = 0 := by
  have hr : rowN [1] B = 0 := by
    cases B with
    | nil => rfl
    | cons b B =>
      have := h1 b rfl
      unfold rowN
      rw [List.takeWhile_cons_of_neg (by simpa using this)]; rfl
  rw [skipN_no (by rw [hr]; exact h2), hr]
theorem tok_kd {A : List UInt8} {k n : Nat} (h : tokF A = .ok (k, n)) : ∀ x, A[0]? = some x → kd x ≠ 1 := by
  intro x hx hk
  cases A with
  | nil => cases hx
  | cons a A =>
    simp at hx
    subst hx
    simp only [tokF, hk] at h
    cases h
theorem gl_take {A R : List UInt8} {n : Nat} (hn : n ≤ A.length) (hR : ∀ x, R[0]? = some x → kd x = 1) : Gl n A (A.take n ++ R) := by
  refine ⟨⟨?_, hn, by simp; omega⟩, fun x hx => hR x ?_⟩
  · rw [List.take_append_of_le_length (by simp; omega), List.take_take, Nat.min_self]
  · rw [List.getElem?_append_right (by simp; omega)] at hx
    rw [← hx]; congr 1; simp; omega
theorem skip_gl {A B : List UInt8} {k n : Nat} (h : Gl n A B) (ht : tokF A = .ok (k, n)) (hs : [47, 47].isPrefixOf A = false) : skipN B = 0 := by
  have hok := tokF_ok ht
  refine skip_none (fun x hx => tok_kd ht x (by rw [h.ag.get (by omega)]; exact hx)) ?_
  by_cases h2 : 2 ≤ n
  · rw [h.ag.pre (by simp; omega)]; exact hs
  · have hn : n = 1 := by omega
    subst hn
    rw [Bool.eq_false_iff]
    intro hp
    match B, h with
    | [], h => simp [List.isPrefixOf] at hp
    | [b], h => simp [List.isPrefixOf] at hp
    | b :: c :: B, h =>
      have := h.bl c rfl
      simp [List.isPrefixOf] at hp
      rw [← hp.2] at this
      exact absurd this (by decide)
/-- a token alone -/
theorem scan_one {A : List UInt8} {k n : Nat} (ht : tokF A = .ok (k, n)) (hs : [47, 47].isPrefixOf A = false) : scanR (A.take n) = .ok [(k, 0, n), (1, n, n)] := by
  have hok := tokF_ok ht
  have g : Gl n A (A.take n) := by
    have := gl_take (A := A) (R := []) hok.2.2 (fun x hx => by cases hx)
    rwa [List.append_nil] at this
  have hl : (A.take n).length = n := by simp; omega
  have hsk := skip_gl g ht hs
  have htk := tok_gl g ht
  have e0 : skipN ([] : List UInt8) = 0 := rfl
  unfold scanR
  rw [hl]
  obtain ⟨m, rfl⟩ : ∃ m, n = m + 1 := ⟨n - 1, by omega⟩
  rw [scanF, List.drop_zero, hsk, Nat.add_zero, if_neg (by rw [hl]; omega), List.drop_zero, htk]
  show scanF (m + 1) (A.take (m + 1)) (0 + (m + 1)) ([] ++ [(k, 0, 0 + (m + 1))]) = _
  rw [Nat.zero_add, scanF, List.drop_of_length_le (by omega), e0, Nat.add_zero, if_pos hl.symm]
  rfl
theorem tail_le {A : List UInt8} {n e : Nat} (h : tailF A n = .error e) : e = n := by
  unfold tailF at h
  split at h
  · cases h; rfl
  · split at h
    · cases h; rfl
    · cases h
theorem exp_le {A : List UInt8} {n e : Nat} (hn : n ≤ A.length) (h : expF A n = .error e) : e ≤ A.length := by
  have := row_le [3] A hn
  unfold expF at h
  split at h
  · cases h; exact hn
  · have := tail_le h; omega
theorem flo_le {A : List UInt8} {n e : Nat} (hn : n ≤ A.length) (h : floF A n = .error e) : e ≤ A.length := by
  have := row_le [3] A hn
  unfold floF at h
  split at h
  · cases h; exact hn
  · split at h
    · rename_i h1
      have h1 := pre_lt h1
      split at h
      · rename_i h2
        have h2 := pre_lt h2
        exact exp_le (by omega) h
      · split at h
        · rename_i h2
          have h2 := pre_lt h2
          exact exp_le (by omega) h
        · exact exp_le (by omega) h
    · have := tail_le h; omega
theorem tok_le {A : List UInt8} {e : Nat} (h : tokF A = .error e) : e ≤ A.length := by
  match A with
  | [] => cases h; exact Nat.le_refl _
  | a :: A =>
    simp only [tokF] at h
    split at h
    · unfold nameF at h
      split at h
      · cases h; exact Nat.zero_le _
      · cases h
    · split at h
      · have h0 := row_le [3] (a :: A) (Nat.zero_le _)
        rw [List.drop_zero] at h0
        unfold litF at h
        split at h
        · rename_i h1
          have h1 := pre_lt h1
          exact flo_le (by omega) h
        · split at h
          · cases h
          · cases h; omega
      · split at h
        · cases h
        · cases h; exact Nat.zero_le _
theorem scanF_le : ∀ (k : Nat) {l : List UInt8} {a e : Nat} {acc : List (Nat × Nat × Nat)}, a ≤ l.length → scanF k l a acc = .error e → e ≤ l.length
  | 0, _, _, _, _, _, h => by cases h
  | k + 1, l, a, e, acc, ha, h => by
    have hs := skipN_le (l.drop a)
    rw [List.length_drop] at hs
    unfold scanF at h
    split at h
    · cases h
    · split at h
      · rename_i e' ht
        have := tok_le ht
        rw [List.length_drop] at this
        cases h; omega
      · rename_i k' n ht
        have := tokF_ok ht
        rw [List.length_drop] at this
        exact scanF_le k (by omega) h
end Go.Eng.Tok
