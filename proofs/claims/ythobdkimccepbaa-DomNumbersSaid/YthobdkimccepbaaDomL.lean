/- Functions of this seat, run on unknown values by the rules of the small machine (no condition beyond those stated). -/
import Derived.Test.YthobdkimccepbaaDomK
namespace Go.Eng.Dom
open Go Go.Eng DomMath
set_option linter.unusedVariables false
set_option linter.unusedSimpArgs false

theorem mul_step (i j K : Nat) (h : j ≤ K) : i * K + j ≤ (i + 1) * K + 0 := by
  rw [Nat.add_mul, Nat.one_mul]; omega
/-- who leads to each one, as far as it is told -/
structure AP (rows : List (List Int)) (left : List Nat) (i j : Nat) (P : List (List Nat)) : Prop where
  len : P.length = rows.length
  row : ∀ l ∈ P, l.length ≤ i * 1048576 + j
  mem : ∀ v p : Nat, p ∈ P.getD v [] ↔ v < rows.length ∧ ((∃ i', i' < i ∧ left[i']? = some p ∧ Ed rows p v) ∨ (left[i]? = some p ∧ ∃ j', j' < j ∧ j' < (rows.getD p []).length ∧ (rows.getD p []).getD j' 0 = (v : Int)))
section
variable {rows : List (List Int)} {left : List Nat} {i j : Nat} {P : List (List Nat)}
theorem AP.start : AP rows left 0 0 (List.replicate rows.length []) := by
  refine ⟨by simp, fun l hl => by rw [List.eq_of_mem_replicate hl]; simp, fun v p => ?_⟩
  have : (List.replicate rows.length ([] : List Nat)).getD v [] = [] := by
    simp only [List.getD]
    rw [List.getElem?_replicate]; split <;> rfl
  rw [this]
  constructor
  · intro h; cases h
  · rintro ⟨_, ⟨i', h, _⟩ | ⟨_, j', h, _⟩⟩ <;> omega
theorem AP.at (A : AP rows left i j P) {b : Nat} (hb : b < rows.length) : (P.getD b []).length ≤ i * 1048576 + j := by
  have : b < P.length := by rw [A.len]; exact hb
  rw [getD_nat this]; exact A.row _ (List.getElem_mem this)
theorem AP.add (A : AP rows left i j P) {a b : Nat} (ha : left[i]? = some a) (hj : j < (rows.getD a []).length) (e : (rows.getD a []).getD j 0 = (b : Int)) (hb : b < rows.length) : AP rows left i (j + 1) (P.set b (P.getD b [] ++ [a])) := by
  have hbP : b < P.length := by rw [A.len]; exact hb
  refine ⟨by rw [List.length_set, A.len], fun l hl => ?_, fun v p => ?_⟩
  · rcases List.mem_or_eq_of_mem_set hl with h | h
    · have := A.row l h; omega
    · subst h
      have := A.at hb
      rw [List.length_append, List.length_singleton]; omega
  · have step : (left[i]? = some p ∧ ∃ j', j' < j + 1 ∧ j' < (rows.getD p []).length ∧ (rows.getD p []).getD j' 0 = (v : Int)) ↔ (left[i]? = some p ∧ ∃ j', j' < j ∧ j' < (rows.getD p []).length ∧ (rows.getD p []).getD j' 0 = (v : Int)) ∨ (p = a ∧ v = b) := by
      constructor
      · rintro ⟨h1, j', h2, h3, h4⟩
        by_cases c : j' = j
        · subst c
          rw [ha] at h1; injection h1 with h1; subst h1
          rw [e] at h4
          exact .inr ⟨rfl, by omega⟩
        · exact .inl ⟨h1, j', by omega, h3, h4⟩
      · rintro (⟨h1, j', h2, h3, h4⟩ | ⟨rfl, rfl⟩)
        · exact ⟨h1, j', by omega, h3, h4⟩
        · exact ⟨ha, j, by omega, hj, e⟩
    rw [step]
    by_cases c : v = b
    · subst c
      rw [DomMath.getD_set_eq hbP, List.mem_append, A.mem v p, List.mem_singleton]
      constructor
      · rintro (⟨h1, h2 | h2⟩ | h)
        · exact ⟨h1, .inl h2⟩
        · exact ⟨h1, .inr (.inl h2)⟩
        · exact ⟨hb, .inr (.inr ⟨h, rfl⟩)⟩
      · rintro ⟨h1, h2 | h2 | ⟨h2, _⟩⟩
        · exact .inl ⟨h1, .inl h2⟩
        · exact .inl ⟨h1, .inr h2⟩
        · exact .inr h2
    · rw [DomMath.getD_set_ne (fun e => c e.symm), A.mem v p]
      constructor
      · rintro ⟨h1, h2 | h2⟩
        · exact ⟨h1, .inl h2⟩
        · exact ⟨h1, .inr (.inl h2)⟩
      · rintro ⟨h1, h2 | h2 | ⟨_, h2⟩⟩
        · exact ⟨h1, .inl h2⟩
        · exact ⟨h1, .inr h2⟩
        · exact absurd h2 c
theorem AP.next (A : AP rows left i j P) {a : Nat} (ha : left[i]? = some a) (hj : j = (rows.getD a []).length) (hjl : j ≤ 1048576) : AP rows left (i + 1) 0 P := by
  refine ⟨A.len, fun l hl => Nat.le_trans (A.row l hl) (mul_step i j 1048576 hjl), fun v p => ?_⟩
  rw [A.mem v p]
  constructor
  · rintro ⟨h1, ⟨i', h2, h3, h4⟩ | ⟨h2, j', h3, h4, h5⟩⟩
    · exact ⟨h1, .inl ⟨i', by omega, h3, h4⟩⟩
    · refine ⟨h1, .inl ⟨i, by omega, h2, ?_⟩⟩
      unfold Ed; rw [← h5, getD_nat h4]; exact List.getElem_mem h4
  · rintro ⟨h1, ⟨i', h2, h3, h4⟩ | ⟨_, j', h3, _⟩⟩
    · by_cases c : i' = i
      · subst c
        rw [ha] at h3; injection h3 with h3; subst h3
        obtain ⟨_, j', h5, h6⟩ := edge_at h4
        exact ⟨h1, .inr ⟨ha, j', by omega, h5, h6⟩⟩
      · exact ⟨h1, .inl ⟨i', by omega, h3, h4⟩⟩
    · omega
theorem AP.done (A : AP rows left left.length 0 P) (v p : Nat) : p ∈ P.getD v [] ↔ v < rows.length ∧ p ∈ left ∧ Ed rows p v := by
  rw [A.mem v p]
  constructor
  · rintro ⟨h1, ⟨i', _, h3, h4⟩ | ⟨_, j', h3, _⟩⟩
    · exact ⟨h1, List.mem_of_getElem? h3, h4⟩
    · omega
  · rintro ⟨h1, h2, h3⟩
    exact ⟨h1, .inl ⟨left.idxOf p, List.idxOf_lt_length_of_mem h2, mem_get h2, h3⟩⟩
end
theorem rdB_app {H : Heap} {c g : Nat} {cs : List V} (h : rdB H c g = some cs) (x : Heap) : rdB (H ++ x) c g = some cs := by
  unfold rdB at h ⊢
  have : c < H.length := by
    false_or_by_contra
    rename_i hn
    rw [List.getElem?_eq_none (Nat.le_of_not_lt hn)] at h; cases h
  rw [List.getElem?_append_left this]; exact h
theorem rdB_last (H : Heap) (g : Nat) (cs : List V) : rdB (H ++ [(g, cs)]) H.length g = some cs := by simp [rdB]
theorem set_last (H : Heap) (x y : Nat × List V) : (H ++ [x]).set H.length y = H ++ [y] := by simp [List.set_append_right]
theorem NetH.app {n lg : Nat} {left : List Nat} {nextV : V} {H : Heap} (N : NetH n left nextV lg H) (x : Heap) : NetH n left nextV lg (H ++ x) := ⟨rdB_app N.p x, rdB_app N.r x, rdB_app N.l x⟩
theorem NetH.frame {n lg : Nat} {left : List Nat} {nextV : V} {H H2 : Heap} (N : NetH n left nextV lg H) (h : ∀ c, c < 5 → H2[c]? = H[c]?) : NetH n left nextV lg H2 := by
  have e : ∀ c g, c < 5 → rdB H2 c g = rdB H c g := fun c g hc => by unfold rdB; rw [h c hc]
  exact ⟨by rw [e _ _ (by omega)]; exact N.p, by rw [e _ _ (by omega)]; exact N.r, by rw [e _ _ (by omega)]; exact N.l⟩
/-- rows of leaders, in a heap -/
structure AheadH (n : Nat) (P : List (List Nat)) (H : Heap) : Prop where
  out : ∃ vs : List V, rdB H 5 0 = some vs ∧ ∀ v, v < n → ∃ w, vs[v]? = some w ∧ ((w = .nils ∧ P.getD v [] = []) ∨ ∃ c g, w = .sl c g 0 (P.getD v []).length 1 false ∧ rdB H c g = some ((P.getD v []).map vn))
theorem AheadH.app {n : Nat} {P : List (List Nat)} {H : Heap} (A : AheadH n P H) (x : Heap) : AheadH n P (H ++ x) := by
  obtain ⟨vs, h1, h2⟩ := A.out
  refine ⟨vs, rdB_app h1 x, fun v hv => ?_⟩
  obtain ⟨w, h3, h4⟩ := h2 v hv
  refine ⟨w, h3, ?_⟩
  rcases h4 with h4 | ⟨c, g, h5, h6⟩
  · exact .inl h4
  · exact .inr ⟨c, g, h5, rdB_app h6 x⟩
theorem AheadH.row {n : Nat} {P : List (List Nat)} {H : Heap} (A : AheadH n P H) {v : Nat} (hv : v < n) : ∃ w, ldV H (.ptr 5 0 v) none = some w ∧ RowIn H w (P.getD v []) := by
  obtain ⟨vs, h1, h2⟩ := A.out
  obtain ⟨w, h3, h4⟩ := h2 v hv
  refine ⟨w, ld_at h1 h3, ?_⟩
  rcases h4 with ⟨rfl, h5⟩ | ⟨c, g, rfl, h6⟩
  · rw [h5]; exact ⟨rfl, fun i hi => by cases hi⟩
  · refine ⟨rfl, fun i hi => ⟨_, idx_sl hi, ?_⟩⟩
    have := ld_lst (f := vn) (l := P.getD v []) (junk := []) (i := i) (a := (P.getD v [])[i]) (by rw [List.append_nil]; exact h6) (by simp [hi])
    rw [this, getD_nat hi]; rfl
theorem Grid.ahead {n : Nat} {P : List (List Nat)} {H : Heap} {vs : List V} {loc : Nat → Option (Nat × Nat)} (G : Grid 5 H 5 (P.map fun l => l.map fun k : Nat => (k : Int)) vs loc) (hP : P.length = n) : AheadH n P H := by
  refine ⟨vs, rdB_of G.out, fun v hv => ?_⟩
  have hv : v < P.length := by omega
  obtain ⟨w, h1, h2⟩ := G.row v ((P.getD v []).map fun k : Nat => (k : Int)) (by rw [List.getElem?_map, List.getElem?_eq_getElem hv, getD_nat hv]; rfl)
  refine ⟨w, h1, ?_⟩
  unfold RowV at h2
  split at h2
  · exact .inl ⟨h2.1, by simpa using h2.2⟩
  · rename_i c g _
    refine .inr ⟨c, g, by rw [h2.1, List.length_map], ?_⟩
    rw [rdB_of h2.2, List.map_map]; rfl
end Go.Eng.Dom
