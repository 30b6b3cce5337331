/- The tokens from a place on: in plain words of lists (no program in sight; no condition). -/
import Derived.Test.YtimnlnkjogbjfaaTokI
namespace Go.Eng.Tok
open Go Go.Eng
set_option linter.unusedVariables false
set_option linter.unusedSimpArgs false
/-- the tokens from a place on -/
def Chain (l : List UInt8) : Nat → List (Nat × Nat × Nat) → Prop
  | _, [] => False
  | a, t :: ts => a ≤ l.length ∧ (if a + skipN (l.drop a) = l.length then t = (1, l.length, l.length) ∧ ts = [] else
      ∃ k n, tokF (l.drop (a + skipN (l.drop a))) = .ok (k, n) ∧ t = (k, a + skipN (l.drop a), a + skipN (l.drop a) + n) ∧ Chain l (a + skipN (l.drop a) + n) ts)
theorem scan_chain : ∀ (k : Nat) {l : List UInt8} {a : Nat} {acc ts : List (Nat × Nat × Nat)}, a ≤ l.length → l.length - a < k → scanF k l a acc = .ok ts → ∃ r, ts = acc ++ r ∧ Chain l a r ∧ r.length ≤ l.length - a + 1
  | 0, _, _, _, _, _, h, _ => by omega
  | k + 1, l, a, acc, ts, ha, hk, h => by
    have hs := skipN_le (l.drop a)
    rw [List.length_drop] at hs
    unfold scanF at h
    split at h
    · rename_i he
      cases h
      exact ⟨_, rfl, ⟨ha, by rw [if_pos he, he]; exact ⟨rfl, rfl⟩⟩, by simp⟩
    · rename_i he
      split at h
      · cases h
      · rename_i k' n ht
        have hok := tokF_ok ht
        rw [List.length_drop] at hok
        obtain ⟨r, rfl, hc, hr⟩ := scan_chain k (by omega) (by omega) h
        refine ⟨_, List.append_assoc _ _ _, ⟨ha, ?_⟩, by simp; omega⟩
        rw [if_neg he]
        exact ⟨k', n, ht, rfl, hc⟩
end Go.Eng.Tok
