/- The tree of a long row of nodes, in plain words of lists (no program in sight; no condition beyond those stated). -/
import Derived.Test.YthobdkimccepbaaDomM
namespace DomMath
set_option linter.unusedVariables false
set_option linter.unusedSimpArgs false

def longR (n : Nat) : List (List Int) := (List.range n).map fun i => if i + 1 < n then [((i + 1 : Nat) : Int), 0] else []
theorem longR_at {n i : Nat} (h : i < n) : (longR n).getD i [] = if i + 1 < n then [((i + 1 : Nat) : Int), 0] else [] := by
  simp [longR, List.getD, h]
theorem longR_ed {n a b : Nat} (h : Ed (longR n) a b) : (b = a + 1 ∧ a + 1 < n) ∨ b = 0 := by
  unfold Ed at h
  by_cases ha : a < n
  · rw [longR_at ha] at h
    split at h
    · rename_i h1
      simp only [List.mem_cons, List.not_mem_nil, or_false] at h
      rcases h with h | h
      · left; exact ⟨by omega, h1⟩
      · right; omega
    · simp at h
  · have : (longR n).getD a [] = [] := by simp [longR, List.getD, ha]
    rw [this] at h; simp at h
theorem longR_up {n a : Nat} (h : a + 1 < n) : Ed (longR n) a (a + 1) := by
  unfold Ed; rw [longR_at (by omega), if_pos h]; simp
theorem longR_all {n b : Nat} {l : List Nat} (h : Wy (Ed (longR n)) b l) : ∀ d, d ≤ b → d ∈ l := by
  induction h with
  | nil => intro d hd; have : d = 0 := by omega
           subst this; simp
  | @step l a b _ e ih =>
    intro d hd
    rcases longR_ed e with ⟨h1, _⟩ | h1
    · by_cases c : d = b
      · subst c; simp
      · exact List.mem_cons_of_mem _ (ih d (by omega))
    · have : d = b := by omega
      subst this; simp
theorem longR_way {n : Nat} : ∀ b, b < n → ∃ l, Wy (Ed (longR n)) b l ∧ ∀ d ∈ l, d ≤ b
  | 0, h => ⟨[0], .nil, by simp⟩
  | b + 1, h => by
    obtain ⟨l, h1, h2⟩ := longR_way (n := n) b (by omega)
    refine ⟨_, h1.step (longR_up h), fun d hd => ?_⟩
    rcases List.mem_cons.1 hd with h | h
    · omega
    · have := h2 d h; omega
theorem long_tree {n : Nat} {out : List Int} (h : TreeOf (longR n) out) : out = (List.range n).map fun i : Nat => (i : Int) - 1 := by
  have hl : out.length = n := by rw [h.len]; simp [longR]
  refine List.ext_getElem (by simp [hl]) fun i h1 h2 => ?_
  have e1 : out[i] = out.getD i (-1) := by simp [List.getD, h1]
  rw [e1, List.getElem_map, List.getElem_range]
  have hi : i < n := by omega
  by_cases c : i = 0
  · subst c
    rw [h.no 0 (by simp [longR]; omega) (.inl rfl)]; rfl
  · obtain ⟨l, w1, w2⟩ := longR_way (n := n) i hi
    obtain ⟨t, g1, g2, g3, g4⟩ := h.yes i ⟨l, w1⟩ c
    have ht : t ≤ i := w2 t (g3 l w1)
    have hd : DB (Ed (longR n)) (i - 1) t := g4 (i - 1) (by omega) (fun l hl => longR_all hl _ (by omega))
    obtain ⟨l', w3, w4⟩ := longR_way (n := n) t (by omega)
    have := w4 _ (hd l' w3)
    rw [g1]; omega
end DomMath
