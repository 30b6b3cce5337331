/- A token's bytes with a blank or nothing behind them are that token: in plain words of lists (no program in sight; no condition beyond those stated). -/
import Derived.Test.YtimnlnkjogbjfaaTokS
namespace Go.Eng.Tok
open Go Go.Eng
set_option linter.unusedVariables false
set_option linter.unusedSimpArgs false

/-- alike in the first 'n' bytes, and then a blank or nothing -/
structure Gl (n : Nat) (A B : List UInt8) : Prop where
  ag : Ag n A B
  bl : ∀ x, B[n]? = some x → kd x = 1
theorem Gl.drop {n : Nat} {A B : List UInt8} (h : Gl n A B) (p : Nat) (hp : p ≤ n) : Gl (n - p) (A.drop p) (B.drop p) :=
  ⟨h.ag.drop p hp, fun x hx => h.bl x (by rw [List.getElem?_drop] at hx; rw [← hx]; congr 1; omega)⟩
theorem row_all {ks : List Nat} : ∀ (n : Nat) {A B : List UInt8}, Gl n A B → 1 ∉ ks → rowN ks A = n → rowN ks B = n
  | 0, A, B, h, hk, _ => by
    cases B with
    | nil => rfl
    | cons b B =>
      have := h.bl b (by simp)
      unfold rowN
      rw [List.takeWhile_cons_of_neg (by rw [this]; simpa using hk)]; rfl
  | n + 1, [], B, h, _, _ => by have := h.ag.a; simp at this
  | n + 1, a :: A, [], h, _, _ => by have := h.ag.b; simp at this
  | n + 1, a :: A, b :: B, h, hk, hr => by
    have hab : a = b := by have := h.ag.get (i := 0) (by omega); simpa using this
    subst hab
    unfold rowN at hr ⊢
    by_cases hp : ks.contains (kd a) = true
    · rw [List.takeWhile_cons_of_pos (p := fun b => ks.contains (kd b)) hp] at hr ⊢
      rw [List.length_cons] at hr ⊢
      have := row_all n (A := A) (B := B) (by simpa using h.drop 1 (by omega)) hk (by unfold rowN; omega)
      unfold rowN at this; omega
    · rw [List.takeWhile_cons_of_neg (p := fun b => ks.contains (kd b)) hp] at hr; simp at hr
theorem Gl.row {n : Nat} {A B : List UInt8} (h : Gl n A B) {ks : List Nat} (hk : 1 ∉ ks) (hr : rowN ks A ≤ n) : rowN ks B = rowN ks A := by
  by_cases hlt : rowN ks A < n
  · exact h.ag.row hlt
  · have e : rowN ks A = n := by omega
    rw [e]; exact row_all n h hk e
theorem Gl.none {A B : List UInt8} (h : Gl 0 A B) {x : UInt8} (hx : kd x ≠ 1) (w : List UInt8) : (x :: w).isPrefixOf B = false := by
  cases B with
  | nil => rfl
  | cons b B =>
    have := h.bl b (by simp)
    rw [Bool.eq_false_iff]
    intro hp
    simp [List.isPrefixOf] at hp
    rw [← hp.1] at this; exact hx this
theorem Gl.pre {n : Nat} {A B : List UInt8} (h : Gl n A B) {x : UInt8} (hn : 0 < n) : [x].isPrefixOf B = [x].isPrefixOf A := h.ag.pre (by simp; omega)
theorem tail_gl {n p k : Nat} {A B : List UInt8} (h : Gl n A B) (hg : tailF A p = .ok (k, n)) : tailF B p = .ok (k, n) := by
  obtain ⟨rfl, rfl⟩ := tailF_ok hg
  have hd := h.drop n (Nat.le_refl _)
  rw [Nat.sub_self] at hd
  unfold tailF
  rw [if_neg (by rw [row_none]; · omega
                 · intro x hx
                   have := h.bl x hx; omega), hd.none (by decide), if_neg Bool.false_ne_true]
theorem exp_gl {n p k : Nat} {A B : List UInt8} (h : Gl n A B) (hp : p ≤ A.length) (hg : expF A p = .ok (k, n)) : expF B p = .ok (k, n) := by
  have ho := expF_ok hp hg
  have hge : p + rowN [3] (A.drop p) ≤ n := by
    unfold expF at hg
    split at hg
    · cases hg
    · have := (tailF_ok hg).2; omega
  have hd := h.drop p (by omega)
  unfold expF at hg ⊢
  rw [hd.row (ks := [3]) (by decide) (by omega)]
  split at hg
  · cases hg
  · rename_i h0; rw [if_neg h0]; exact tail_gl h hg
theorem exp_len {A : List UInt8} {p k n : Nat} (hp : p ≤ A.length) (hg : expF A p = .ok (k, n)) : p < n := by
  unfold expF at hg
  split at hg
  · cases hg
  · have := (tailF_ok hg).2; omega
theorem flo_gl {n p k : Nat} {A B : List UInt8} (h : Gl n A B) (hp : p ≤ A.length) (hg : floF A p = .ok (k, n)) : floF B p = .ok (k, n) := by
  have hr := row_le [3] A hp
  have hge : p + rowN [3] (A.drop p) ≤ n := by
    unfold floF at hg
    split at hg
    · cases hg
    · split at hg
      · rename_i h1
        have h1 := pre_lt h1
        split at hg
        · rename_i h2
          have h2 := pre_lt h2
          have := exp_len (by omega) hg; omega
        · split at hg
          · rename_i h2
            have h2 := pre_lt h2
            have := exp_len (by omega) hg; omega
          · have := exp_len (by omega) hg; omega
      · have := (tailF_ok hg).2; omega
  have hd := h.drop p (by omega)
  have hd2 := h.drop (p + rowN [3] (A.drop p)) hge
  unfold floF at hg ⊢
  rw [hd.row (ks := [3]) (by decide) (by omega)]
  split at hg
  · cases hg
  · rename_i h0
    rw [if_neg h0]
    split at hg
    · rename_i h1
      have hl1 := pre_lt h1
      have hn : p + rowN [3] (A.drop p) + 1 < n := by
        split at hg
        · rename_i h2
          have h2 := pre_lt h2
          have := exp_len (by omega) hg; omega
        · split at hg
          · rename_i h2
            have h2 := pre_lt h2
            have := exp_len (by omega) hg; omega
          · have := exp_len (by omega) hg; omega
      have hd3 := h.drop (p + rowN [3] (A.drop p) + 1) (by omega)
      rw [hd2.pre (x := 101) (by omega), if_pos h1, hd3.pre (x := 43) (by omega), hd3.pre (x := 45) (by omega)]
      split at hg
      · rename_i h2
        have h2' := pre_lt h2
        rw [if_pos h2]; exact exp_gl h (by omega) hg
      · rename_i h2
        rw [if_neg h2]
        split at hg
        · rename_i h3
          have h3' := pre_lt h3
          rw [if_pos h3]; exact exp_gl h (by omega) hg
        · rename_i h3; rw [if_neg h3]; exact exp_gl h (by omega) hg
    · rename_i h1
      have hn := (tailF_ok hg).2
      have hz : n - (p + rowN [3] (A.drop p)) = 0 := by omega
      rw [hz] at hd2
      rw [hd2.none (x := 101) (by decide), if_neg Bool.false_ne_true]
      exact tail_gl h hg
theorem lit_gl {n k : Nat} {A B : List UInt8} (h : Gl n A B) (hg : litF A = .ok (k, n)) : litF B = .ok (k, n) := by
  have h0 := row_le [3] A (Nat.zero_le _)
  rw [List.drop_zero] at h0
  have hge : rowN [3] A ≤ n := by
    unfold litF at hg
    split at hg
    · rename_i h1
      have h1 := pre_lt h1
      have := floF_ok (by omega) hg; omega
    · split at hg
      · cases hg; omega
      · cases hg
  have hd := h.drop (rowN [3] A) hge
  unfold litF at hg ⊢
  rw [h.row (ks := [3]) (by decide) hge]
  split at hg
  · rename_i h1
    have hl1 := pre_lt h1
    have := floF_ok (by omega) hg
    rw [hd.pre (x := 46) (by omega), if_pos h1]
    exact flo_gl h (by omega) hg
  · rename_i h1
    split at hg
    · rename_i h2
      have hk : rowN [3] A + rowN [2, 3] (A.drop (rowN [3] A)) = n := by cases hg; rfl
      have hp : [46].isPrefixOf (B.drop (rowN [3] A)) = false := by
        by_cases hz : rowN [3] A < n
        · rw [hd.pre (x := 46) (by omega)]; exact Bool.eq_false_iff.2 h1
        · have hz : n - rowN [3] A = 0 := by omega
          rw [hz] at hd
          exact hd.none (by decide) []
      rw [hp, if_neg Bool.false_ne_true, hd.row (ks := [2, 3]) (by decide) (by omega), ← hd.ag.take (by omega), if_pos h2]
      exact hg
    · cases hg
/-- THE TOKEN STAYS -/
theorem tok_gl {n k : Nat} {A B : List UInt8} (h : Gl n A B) (hg : tokF A = .ok (k, n)) : tokF B = .ok (k, n) := by
  have hok := tokF_ok hg
  match A, B, h with
  | [], B, h => have := hok.2.2; simp at this; omega
  | a :: A, [], h => have := h.ag.b; simp at this; omega
  | a :: A, b :: B, h =>
    have hab : a = b := by have := h.ag.get (i := 0) (by omega); simpa using this
    subst hab
    simp only [tokF] at hg ⊢
    split at hg
    · rename_i hk
      rw [if_pos hk]
      unfold nameF at hg ⊢
      split at hg
      · cases hg
      · rename_i h1
        have hn : rowN [2, 3] (a :: A) = n := by cases hg; rfl
        rw [h.row (ks := [2, 3]) (by decide) (by omega), if_neg h1, hn, ← h.ag.take (Nat.le_refl _)]
        rw [hn] at hg; exact hg
    · rename_i hk
      rw [if_neg hk]
      split at hg
      · rename_i hk3
        rw [if_pos hk3]; exact lit_gl h hg
      · rename_i hk3
        rw [if_neg hk3]
        split at hg
        · rename_i hk4
          rw [if_pos hk4]
          have hw2 : ∀ w ∈ TWOS, ∃ x y, w = [x, y] ∧ kd y ≠ 1 := by
            intro w hw
            simp only [TWOS, List.mem_cons, List.not_mem_nil, or_false] at hw
            rcases hw with rfl | rfl | rfl | rfl | rfl | rfl | rfl | rfl <;> exact ⟨_, _, rfl, by decide⟩
          have : twoB (a :: B) = twoB (a :: A) := by
            unfold signF at hg
            cases ht : twoB (a :: A) with
            | true =>
              rw [ht] at hg
              have hn : n = 2 := by cases hg; rfl
              obtain ⟨w, hw, hx⟩ := List.any_eq_true.1 ht
              obtain ⟨x, y, rfl, _⟩ := hw2 w hw
              exact List.any_eq_true.2 ⟨_, hw, by rw [h.ag.pre (by rw [hn]; simp)]; exact hx⟩
            | false =>
              rw [ht] at hg
              have hn : n = 1 := by cases hg; rfl
              rw [Bool.eq_false_iff]
              intro hx
              obtain ⟨w, hw, hx⟩ := List.any_eq_true.1 hx
              obtain ⟨x, y, rfl, hy⟩ := hw2 w hw
              subst hn
              cases B with
              | nil => simp [List.isPrefixOf] at hx
              | cons b B =>
                have := h.bl b (by simp)
                simp [List.isPrefixOf] at hx
                rw [← hx.2] at this; exact hy this
          unfold signF at hg ⊢; rw [this]; exact hg
        · cases hg
end Go.Eng.Tok
