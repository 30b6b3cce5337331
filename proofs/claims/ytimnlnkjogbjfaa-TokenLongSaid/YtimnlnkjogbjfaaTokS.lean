/- What is refused at a byte is refused there whatever follows: in plain words of lists (no program in sight; no condition beyond those stated). -/
import Derived.Test.YtimnlnkjogbjfaaTokE
namespace Go.Eng.Tok
open Go Go.Eng
set_option linter.unusedVariables false
set_option linter.unusedSimpArgs false

/-- alike in the first 'm' bytes -/
structure Ag (m : Nat) (A B : List UInt8) : Prop where
  t : A.take m = B.take m
  a : m ≤ A.length
  b : m ≤ B.length
theorem Ag.drop {m : Nat} {A B : List UInt8} (h : Ag m A B) (p : Nat) (hp : p ≤ m) : Ag (m - p) (A.drop p) (B.drop p) := by
  refine ⟨?_, by have := h.a; simp; omega, by have := h.b; simp; omega⟩
  rw [← List.drop_take, ← List.drop_take, h.t]
theorem Ag.take {m : Nat} {A B : List UInt8} (h : Ag m A B) {n : Nat} (hn : n ≤ m) : A.take n = B.take n := by
  have := congrArg (List.take n) h.t
  rwa [List.take_take, List.take_take, Nat.min_eq_left hn] at this
theorem Ag.get {m : Nat} {A B : List UInt8} (h : Ag m A B) {i : Nat} (hi : i < m) : A[i]? = B[i]? := by
  have := congrArg (fun l => l[i]?) h.t
  simpa [hi] using this
theorem tw_loc {p : UInt8 → Bool} : ∀ (m : Nat) {A B : List UInt8}, Ag m A B → (A.takeWhile p).length < m → (B.takeWhile p).length = (A.takeWhile p).length
  | 0, A, B, _, h => by omega
  | m + 1, [], B, h, _ => by have := h.a; simp at this
  | m + 1, a :: A, [], h, _ => by have := h.b; simp at this
  | m + 1, a :: A, b :: B, h, hl => by
    have hab : a = b := by have := h.get (i := 0) (by omega); simpa using this
    subst hab
    by_cases hp : p a = true
    · rw [List.takeWhile_cons_of_pos hp] at hl ⊢
      rw [List.takeWhile_cons_of_pos hp, List.length_cons, List.length_cons, tw_loc m (by simpa using h.drop 1 (by omega)) (by simpa using hl)]
    · rw [List.takeWhile_cons_of_neg hp, List.takeWhile_cons_of_neg hp]
theorem Ag.row {m : Nat} {A B : List UInt8} (h : Ag m A B) {ks : List Nat} (hl : rowN ks A < m) : rowN ks B = rowN ks A := tw_loc m h hl
theorem Ag.line {m : Nat} {A B : List UInt8} (h : Ag m A B) (hl : lineN A < m) : lineN B = lineN A := tw_loc m h hl
theorem Ag.pre {m : Nat} {A B : List UInt8} (h : Ag m A B) {w : List UInt8} (hw : w.length ≤ m) : w.isPrefixOf B = w.isPrefixOf A := by
  rw [prefix_take (by have := h.b; omega), prefix_take (by have := h.a; omega), h.take hw]
theorem pre_one {x : UInt8} {A : List UInt8} : [x].isPrefixOf A = true ↔ A[0]? = some x := by
  cases A with
  | nil => simp [List.isPrefixOf]
  | cons a A => simp [List.isPrefixOf]; exact eq_comm
theorem pre_two {x y : UInt8} {A : List UInt8} (h : [x, y].isPrefixOf A = true) : A[0]? = some x := by
  cases A with
  | nil => simp [List.isPrefixOf] at h
  | cons a A => simp [List.isPrefixOf] at h; simp [h.1]
theorem skip_loc : ∀ (k m : Nat) {A B : List UInt8}, A.length < k → Ag m A B → skipN A < m → (A[skipN A]? = some 47 → skipN A + 1 < m) → skipN B = skipN A
  | 0, _, _, _, h, _, _, _ => by omega
  | k + 1, m, A, B, hk, h, hs, hc => by
    cases hp : [47, 47].isPrefixOf (A.drop (rowN [1] A)) with
    | false =>
      rw [skipN_no hp] at hs hc ⊢
      have hr := h.row hs
      have hp2 : [47, 47].isPrefixOf (B.drop (rowN [1] B)) = false := by
        rw [hr]
        by_cases h1 : rowN [1] A + 1 < m
        · rw [(h.drop (rowN [1] A) (by omega)).pre (by simp; omega), hp]
        · rw [Bool.eq_false_iff]
          intro hx
          have := pre_two hx
          rw [List.getElem?_drop, Nat.add_zero, ← h.get hs] at this
          exact h1 (hc this)
      rw [skipN_no hp2, hr]
    | true =>
      have hl2 := line_pos hp
      have hle := lineN_le (A.drop (rowN [1] A))
      rw [List.length_drop] at hle
      have e := skipN_yes hp
      have hr := h.row (ks := [1]) (show rowN [1] A < m by omega)
      have hd := h.drop (rowN [1] A) (by omega)
      have hln := hd.line (show lineN (A.drop (rowN [1] A)) < m - rowN [1] A by omega)
      have hp2 : [47, 47].isPrefixOf (B.drop (rowN [1] B)) = true := by rw [hr, hd.pre (by simp; omega), hp]
      rw [skipN_yes hp2, e, hr, hln]
      rw [skip_loc k (m - (rowN [1] A + lineN (A.drop (rowN [1] A)))) (by rw [List.length_drop]; omega) (h.drop _ (by omega)) (by omega) (fun hx => by
        rw [List.getElem?_drop] at hx
        have := hc (by rw [e, ← hx, Nat.add_assoc])
        omega)]
/-- a cut that hangs on these bytes alone -/
def Good (A : List UInt8) (m : Nat) : Tk → Prop
  | .ok (_, n) => n < m
  | .error e => e < m ∧ ∀ x, A[e]? = some x → kd x ≠ 2 ∧ kd x ≠ 3
theorem row_none {A : List UInt8} {n : Nat} (h : ∀ x, A[n]? = some x → kd x ≠ 2 ∧ kd x ≠ 3) : rowN [2, 3] (A.drop n) = 0 := by
  by_cases hn : n < A.length
  · have := h A[n] (List.getElem?_eq_getElem hn)
    exact rowN_no hn (by simp; omega)
  · exact rowN_end hn
theorem tail_loc {m n : Nat} {A B : List UInt8} (h : Ag m A B) (hg : Good A m (tailF A n)) : tailF B n = tailF A n := by
  unfold tailF at hg ⊢
  split at hg
  · rename_i h1
    have := row_none hg.2; omega
  · rename_i h1
    have hn : n < m := by split at hg <;> first | exact hg.1 | exact hg
    have hd := h.drop n (by omega)
    rw [hd.row (ks := [2, 3]) (by omega), hd.pre (by simp; omega)]
theorem tail_ge {A : List UInt8} {n m : Nat} (hg : Good A m (tailF A n)) : n < m := by
  unfold tailF at hg
  split at hg
  · exact hg.1
  · split at hg
    · exact hg.1
    · exact hg
theorem exp_ge {A : List UInt8} {n m : Nat} (hg : Good A m (expF A n)) : n + rowN [3] (A.drop n) < m := by
  unfold expF at hg
  split at hg
  · rename_i h0; rw [h0]; exact hg.1
  · exact tail_ge hg
theorem exp_loc {m n : Nat} {A B : List UInt8} (h : Ag m A B) (hg : Good A m (expF A n)) : expF B n = expF A n := by
  have hge := exp_ge hg
  have hd := h.drop n (by omega)
  unfold expF at hg ⊢
  rw [hd.row (ks := [3]) (by omega)]
  split at hg
  · rename_i h0; rw [if_pos h0, if_pos h0]
  · rename_i h0; rw [if_neg h0, if_neg h0]; exact tail_loc h hg
theorem flo_loc {m n : Nat} {A B : List UInt8} (h : Ag m A B) (hg : Good A m (floF A n)) : floF B n = floF A n := by
  have hge : n + rowN [3] (A.drop n) < m := by
    unfold floF at hg
    split at hg
    · rename_i h0; rw [h0]; exact hg.1
    · split at hg
      · split at hg
        · have := exp_ge hg; omega
        · split at hg
          · have := exp_ge hg; omega
          · have := exp_ge hg; omega
      · exact tail_ge hg
  have hd := h.drop n (by omega)
  have hd2 := h.drop (n + rowN [3] (A.drop n)) (by omega)
  unfold floF at hg ⊢
  rw [hd.row (ks := [3]) (by omega), hd2.pre (w := [101]) (by simp; omega)]
  split at hg
  · rename_i h0; rw [if_pos h0, if_pos h0]
  · rename_i h0
    rw [if_neg h0, if_neg h0]
    split at hg
    · rename_i h1
      have hn1 : n + rowN [3] (A.drop n) + 1 < m := by
        split at hg
        · have := exp_ge hg; omega
        · split at hg
          · have := exp_ge hg; omega
          · have := exp_ge hg; omega
      have hd3 := h.drop (n + rowN [3] (A.drop n) + 1) (by omega)
      rw [if_pos h1, if_pos h1, hd3.pre (w := [43]) (by simp; omega), hd3.pre (w := [45]) (by simp; omega)]
      split at hg
      · rename_i h2; rw [if_pos h2, if_pos h2]; exact exp_loc h hg
      · rename_i h2
        rw [if_neg h2, if_neg h2]
        split at hg
        · rename_i h3; rw [if_pos h3, if_pos h3]; exact exp_loc h hg
        · rename_i h3; rw [if_neg h3, if_neg h3]; exact exp_loc h hg
    · rename_i h1
      rw [if_neg h1, if_neg h1]; exact tail_loc h hg
theorem flo_ge {A : List UInt8} {n m : Nat} (hg : Good A m (floF A n)) : n < m := by
  unfold floF at hg
  split at hg
  · exact hg.1
  · split at hg
    · split at hg
      · have := exp_ge hg; omega
      · split at hg
        · have := exp_ge hg; omega
        · have := exp_ge hg; omega
    · have := tail_ge hg; omega
theorem lit_loc {m : Nat} {A B : List UInt8} (h : Ag m A B) (hg : Good A m (litF A)) : litF B = litF A := by
  have hge : rowN [3] A < m := by
    unfold litF at hg
    split at hg
    · have := flo_ge hg; omega
    · split at hg
      · have : rowN [3] A + rowN [2, 3] (A.drop (rowN [3] A)) < m := hg
        omega
      · exact hg.1
  have hd := h.drop (rowN [3] A) (by omega)
  unfold litF at hg ⊢
  rw [h.row hge, hd.pre (w := [46]) (by simp; omega)]
  split at hg
  · rename_i h1; rw [if_pos h1, if_pos h1]; exact flo_loc h hg
  · rename_i h1
    rw [if_neg h1, if_neg h1]
    have hr : rowN [2, 3] (A.drop (rowN [3] A)) < m - rowN [3] A := by
      split at hg
      · have : rowN [3] A + rowN [2, 3] (A.drop (rowN [3] A)) < m := hg
        omega
      · rw [row_none hg.2]; omega
    rw [hd.row hr, hd.take (by omega)]
theorem tok_loc {m : Nat} {A B : List UInt8} (h : Ag m A B) (hg : Good A m (tokF A)) : tokF B = tokF A := by
  have hm : 0 < m := by
    cases ht : tokF A with
    | ok kn => rw [ht] at hg; have : kn.2 < m := hg; omega
    | error e => rw [ht] at hg; have := hg.1; omega
  match A, B, h with
  | [], B, h => have := h.a; simp at this; omega
  | a :: A, [], h => have := h.b; simp at this; omega
  | a :: A, b :: B, h =>
    have hab : a = b := by have := h.get (i := 0) hm; simpa using this
    subst hab
    simp only [tokF] at hg ⊢
    split at hg
    · rename_i hk
      rw [if_pos hk, if_pos hk]
      unfold nameF at hg ⊢
      split at hg
      · have := (hg.2 a rfl).1; omega
      · rename_i h1
        have hg' : rowN [2, 3] (a :: A) < m := hg
        rw [h.row hg', h.take (n := rowN [2, 3] (a :: A)) (by omega)]
    · rename_i hk
      rw [if_neg hk, if_neg hk]
      split at hg
      · rename_i hk3
        rw [if_pos hk3, if_pos hk3]
        exact lit_loc h hg
      · rename_i hk3
        rw [if_neg hk3, if_neg hk3]
        split at hg
        · rename_i hk4
          rw [if_pos hk4, if_pos hk4]
          have h2 : 2 ≤ m := by
            have hg' : (if twoB (a :: A) then 2 else 1) < m := hg
            split at hg' <;> omega
          have : twoB (a :: B) = twoB (a :: A) := by
            unfold twoB
            rw [Bool.eq_iff_iff]
            simp only [List.any_eq_true]
            have hw2 : ∀ w ∈ TWOS, w.length = 2 := by decide
            constructor
            · rintro ⟨w, hw, hx⟩; exact ⟨w, hw, by rw [← h.pre (by rw [hw2 w hw]; exact h2)]; exact hx⟩
            · rintro ⟨w, hw, hx⟩; exact ⟨w, hw, by rw [h.pre (by rw [hw2 w hw]; exact h2)]; exact hx⟩
          unfold signF; rw [this]
        · rename_i hk4
          rw [if_neg hk4, if_neg hk4]
theorem scanF_ge : ∀ (k : Nat) {l : List UInt8} {a e : Nat} {acc : List (Nat × Nat × Nat)}, scanF k l a acc = .error e → a ≤ e
  | 0, _, _, _, _, h => by cases h
  | k + 1, l, a, e, acc, h => by
    unfold scanF at h
    split at h
    · cases h
    · split at h
      · cases h; omega
      · have := scanF_ge k h; omega
theorem scan_loc : ∀ (k k2 : Nat) {A B : List UInt8} {a e : Nat} {acc : List (Nat × Nat × Nat)}, Ag (e + 1) A B → (∀ x, A[e]? = some x → kd x ≠ 2 ∧ kd x ≠ 3) → a ≤ A.length → B.length - a < k2 → scanF k A a acc = .error e → scanF k2 B a acc = .error e
  | 0, _, _, _, _, _, _, _, _, _, _, h => by cases h
  | k + 1, 0, _, _, _, _, _, _, _, _, h2, _ => by omega
  | k + 1, k2 + 1, A, B, a, e, acc, h, hx, ha, h2, hs => by
    have hae := scanF_ge _ hs
    unfold scanF at hs
    split at hs
    · cases hs
    rename_i hne
    have hd := h.drop a (by omega)
    have hsl := skipN_le (A.drop a)
    rw [List.length_drop] at hsl
    have hpl : a + skipN (A.drop a) < A.length := by omega
    have hAp : ∀ x, A[a + skipN (A.drop a)]? = some x → (A.drop (a + skipN (A.drop a))) = x :: A.drop (a + skipN (A.drop a) + 1) := fun x hx => by
      have := (List.getElem?_eq_some_iff.mp hx).2
      rw [List.drop_eq_getElem_cons hpl, this]
    -- how far the token that stands here goes
    have hmore : a + skipN (A.drop a) ≤ e ∧ (∀ k' n, tokF (A.drop (a + skipN (A.drop a))) = .ok (k', n) → a + skipN (A.drop a) + n ≤ e) := by
      split at hs
      · rename_i e' ht
        cases hs
        exact ⟨by omega, fun k' n hk => by rw [ht] at hk; cases hk⟩
      · rename_i k' n ht
        have := scanF_ge _ hs
        exact ⟨by omega, fun k'' n' hk => by rw [ht] at hk; cases hk; exact this⟩
    have h47 : A[a + skipN (A.drop a)]? = some 47 → a + skipN (A.drop a) + 1 < e + 1 := fun h47 => by
      have e1 := hAp 47 h47
      have ht : tokF (A.drop (a + skipN (A.drop a))) = signF (A.drop (a + skipN (A.drop a))) := by
        rw [e1]; rfl
      have := hmore.2 6 _ (by rw [ht]; rfl)
      split at this <;> omega
    have hsk : skipN (B.drop a) = skipN (A.drop a) := skip_loc _ (e + 1 - a) (Nat.lt_succ_self _) hd (by omega) (fun hh => by
      rw [List.getElem?_drop] at hh
      have := h47 hh; omega)
    have hdp := h.drop (a + skipN (A.drop a)) (by omega)
    have hgood : Good (A.drop (a + skipN (A.drop a))) (e + 1 - (a + skipN (A.drop a))) (tokF (A.drop (a + skipN (A.drop a)))) := by
      cases ht : tokF (A.drop (a + skipN (A.drop a))) with
      | ok kn =>
        obtain ⟨k', n⟩ := kn
        have := hmore.2 k' n ht
        show n < _
        omega
      | error e' =>
        rw [ht] at hs
        cases hs
        refine ⟨by omega, fun x hh => hx x ?_⟩
        rw [List.getElem?_drop] at hh; exact hh
    have htk := tok_loc hdp hgood
    have hb := h.b
    unfold scanF
    rw [hsk, if_neg (by omega), htk]
    split at hs
    · rename_i e' ht; exact hs
    · rename_i k' n ht
      have h3 := hmore.2 k' n ht
      have h4 := tokF_ok ht
      rw [List.length_drop] at h4
      exact scan_loc k k2 h hx (by omega) (by omega) hs
/-- what is refused at a byte that is no letter and no digit is refused there, whatever follows -/
theorem stops {l t : List UInt8} {e : Nat} (h : scanR l = .error e) (he : e < l.length) (hx : kd l[e] ≠ 2 ∧ kd l[e] ≠ 3) : scanR (l.take (e + 1) ++ t) = .error e := by
  refine scan_loc _ _ (A := l) ⟨?_, by omega, by simp; omega⟩ (fun x hh => ?_) (Nat.zero_le _) (by omega) h
  · rw [List.take_append_of_le_length (by simp; omega), List.take_take, Nat.min_self]
  · rw [List.getElem?_eq_getElem he] at hh
    cases hh; exact hx
end Go.Eng.Tok
