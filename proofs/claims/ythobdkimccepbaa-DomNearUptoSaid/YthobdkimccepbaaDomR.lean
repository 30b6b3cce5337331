/- Functions of this seat, run on unknown values by the rules of the small machine (no condition beyond those stated). -/
import Derived.Test.YthobdkimccepbaaDomQ
namespace Go.Eng.Dom
open Go Go.Eng DomMath
set_option linter.unusedVariables false
set_option linter.unusedSimpArgs false

theorem underS_mem (l : List Int) (n : Nat) : ∀ (m k : Nat) (x : Int), k < n → (x ∈ (underS l n m).getD k [] ↔ ∃ i : Nat, i < m ∧ x = (i : Int) ∧ l.getD i 0 = (k : Int))
  | 0, k, x, hk => by
    have : (List.replicate n ([] : List Int)).getD k [] = [] := by
      simp only [List.getD]
      rw [List.getElem?_replicate]; split <;> rfl
    simp only [underS]
    rw [this]
    constructor
    · intro h; cases h
    · rintro ⟨i, h, _⟩; omega
  | m + 1, k, x, hk => by
    have ih := underS_mem l n m k x hk
    have hlen := underS_len l n m
    have step : (∃ i : Nat, i < m + 1 ∧ x = (i : Int) ∧ l.getD i 0 = (k : Int)) ↔ (∃ i : Nat, i < m ∧ x = (i : Int) ∧ l.getD i 0 = (k : Int)) ∨ (x = (m : Int) ∧ l.getD m 0 = (k : Int)) := by
      constructor
      · rintro ⟨i, h1, h2, h3⟩
        by_cases c : i = m
        · subst c; exact .inr ⟨h2, h3⟩
        · exact .inl ⟨i, by omega, h2, h3⟩
      · rintro (⟨i, h1, h2, h3⟩ | ⟨h2, h3⟩)
        · exact ⟨i, by omega, h2, h3⟩
        · exact ⟨m, by omega, h2, h3⟩
    rw [step, ← ih]
    clear ih step
    simp only [underS]
    by_cases hc : 0 ≤ l.getD m 0 ∧ l.getD m 0 < n
    · rw [if_pos hc]
      by_cases c : k = (l.getD m 0).toNat
      · subst c
        rw [DomMath.getD_set_eq (by omega), List.mem_append, List.mem_singleton]
        constructor
        · rintro (h | h)
          · exact .inl h
          · exact .inr ⟨h, by omega⟩
        · rintro (h | ⟨h, _⟩)
          · exact .inl h
          · exact .inr h
      · rw [DomMath.getD_set_ne (fun e => c e.symm)]
        constructor
        · intro h; exact .inl h
        · rintro (h | ⟨_, h⟩)
          · exact h
          · exact absurd (by omega) c
    · rw [if_neg hc]
      constructor
      · intro h; exact .inl h
      · rintro (h | ⟨_, h⟩)
        · exact h
        · exact absurd ⟨by omega, by omega⟩ hc
end Go.Eng.Dom
