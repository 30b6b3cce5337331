/- What is skipped is blanks and remarks by itself: in plain words of lists (no program in sight; no condition beyond those stated). -/
import Derived.Test.YtimnlnkjogbjfaaTokH
namespace Go.Eng.Tok
open Go Go.Eng
set_option linter.unusedVariables false
set_option linter.unusedSimpArgs false

theorem tw_take {p : UInt8 → Bool} : ∀ (m : Nat) (X : List UInt8), ((X.take m).takeWhile p).length = min m (X.takeWhile p).length
  | 0, X => by simp
  | m + 1, [] => by simp
  | m + 1, x :: X => by
    by_cases hp : p x = true
    · rw [List.take_succ_cons, List.takeWhile_cons_of_pos hp, List.takeWhile_cons_of_pos hp, List.length_cons, List.length_cons, tw_take m X]; omega
    · rw [List.take_succ_cons, List.takeWhile_cons_of_neg hp, List.takeWhile_cons_of_neg hp]; simp
theorem row_take (ks : List Nat) (m : Nat) (X : List UInt8) : rowN ks (X.take m) = min m (rowN ks X) := tw_take m X
theorem line_take (m : Nat) (X : List UInt8) : lineN (X.take m) = min m (lineN X) := tw_take m X
theorem skip_take : ∀ (k : Nat) {A : List UInt8}, A.length < k → skipN (A.take (skipN A)) = skipN A
  | 0, _, h => by omega
  | k + 1, A, h => by
    cases hp : [47, 47].isPrefixOf (A.drop (rowN [1] A)) with
    | false =>
      rw [skipN_no hp]
      have hr : rowN [1] (A.take (rowN [1] A)) = rowN [1] A := by rw [row_take, Nat.min_self]
      have hp2 : [47, 47].isPrefixOf ((A.take (rowN [1] A)).drop (rowN [1] (A.take (rowN [1] A)))) = false := by
        rw [hr, List.drop_of_length_le (by simp; omega)]; rfl
      rw [skipN_no hp2, hr]
    | true =>
      have hl2 := line_pos hp
      have hle := lineN_le (A.drop (rowN [1] A))
      have hrl := rowN_le [1] A
      rw [List.length_drop] at hle
      have e := skipN_yes hp
      have ih := skip_take k (A := A.drop (rowN [1] A + lineN (A.drop (rowN [1] A)))) (by rw [List.length_drop]; omega)
      have hsl := skipN_le (A.drop (rowN [1] A + lineN (A.drop (rowN [1] A))))
      rw [List.length_drop] at hsl
      generalize hm : skipN A = m at *
      have hr : rowN [1] (A.take m) = rowN [1] A := by rw [row_take]; omega
      have hd : ∀ j, j ≤ m → (A.take m).drop j = (A.drop j).take (m - j) := fun j hj => by rw [List.drop_take]
      have hp2 : [47, 47].isPrefixOf ((A.take m).drop (rowN [1] (A.take m))) = true := by
        rw [hr, hd _ (by omega)]
        have g : Ag 2 (A.drop (rowN [1] A)) ((A.drop (rowN [1] A)).take (m - rowN [1] A)) := ⟨by rw [List.take_take, Nat.min_eq_left (by omega)], by rw [List.length_drop]; omega, by simp; omega⟩
        rw [g.pre (by simp), hp]
      have hln : lineN ((A.take m).drop (rowN [1] A)) = lineN (A.drop (rowN [1] A)) := by rw [hd _ (by omega), line_take]; omega
      rw [skipN_yes hp2, hr, hln, hd _ (by omega), show m - (rowN [1] A + lineN (A.drop (rowN [1] A))) = skipN (A.drop (rowN [1] A + lineN (A.drop (rowN [1] A)))) by omega, ih]
      omega
/-- a blank more -/
theorem skip_blank {x : UInt8} {A : List UInt8} (h : kd x = 1) : skipN (x :: A) = 1 + skipN A := by
  have hr : rowN [1] (x :: A) = 1 + rowN [1] A := by
    have := rowN_yes (ks := [1]) (l := x :: A) (i := 0) (by simp) (by simp [h])
    simpa using this
  have hd : (x :: A).drop (1 + rowN [1] A) = A.drop (rowN [1] A) := by rw [Nat.add_comm]; rfl
  cases hp : [47, 47].isPrefixOf (A.drop (rowN [1] A)) with
  | false => rw [skipN_no hp, skipN_no (by rw [hr, hd]; exact hp), hr]
  | true =>
    rw [skipN_yes hp, skipN_yes (by rw [hr, hd]; exact hp), hr, hd]
    rw [show 1 + rowN [1] A + lineN (A.drop (rowN [1] A)) = (rowN [1] A + lineN (A.drop (rowN [1] A))) + 1 by omega]
    show 1 + rowN [1] A + (_ + skipN (A.drop (rowN [1] A + lineN (A.drop (rowN [1] A))))) = _
    omega
/-- all of a text is blanks and remarks -/
def Idle (A : List UInt8) : Prop := skipN A = A.length
theorem idle_skip (A : List UInt8) : Idle (A.take (skipN A)) := by
  unfold Idle
  rw [skip_take _ (Nat.lt_succ_self _)]
  have := skipN_le A
  simp; omega
/-- the first byte of such a text is a blank, or a remark stands there -/
theorem idle_cons {x : UInt8} {A : List UInt8} (h : Idle (x :: A)) : (kd x = 1 ∧ Idle A) ∨ (kd x ≠ 1 ∧ [47, 47].isPrefixOf (x :: A) = true ∧ Idle ((x :: A).drop (lineN (x :: A)))) := by
  unfold Idle at *
  by_cases hk : kd x = 1
  · rw [skip_blank hk, List.length_cons] at h
    exact .inl ⟨hk, by omega⟩
  · refine .inr ⟨hk, ?_⟩
    have hr : rowN [1] (x :: A) = 0 := by
      have := rowN_no (ks := [1]) (l := x :: A) (i := 0) (by simp) (by simpa using hk)
      simpa using this
    cases hp : [47, 47].isPrefixOf (x :: A) with
    | false =>
      rw [skipN_no (by rw [hr]; exact hp), hr] at h
      simp at h
    | true =>
      have hle := lineN_le (x :: A)
      refine ⟨rfl, ?_⟩
      rw [skipN_yes (by rw [hr]; exact hp), hr, Nat.zero_add, List.drop_zero, Nat.zero_add] at h
      rw [List.length_drop]; omega
end Go.Eng.Tok
