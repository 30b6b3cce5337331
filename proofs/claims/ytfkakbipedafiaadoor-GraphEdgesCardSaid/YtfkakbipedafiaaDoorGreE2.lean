/- What stands ahead of the blocks, in plain words (no program in sight; conditions: those stated). -/
import Derived.Test.YtfkakbipedafiaaDoorGreE1
import Derived.Test.YtfkakbipedafiaaDoorGreP
namespace Go.Eng.Gra
open Go Go.Eng
set_option linter.unusedSectionVars false
set_option linter.unusedVariables false
set_option linter.unusedSimpArgs false

theorem next_nodup (b : T_Block) : (nextV b).Nodup := by
  unfold nextV
  split
  · simp
  · split
    · split
      · simp
      · rename_i h
        split
        · simp [h]
        · simp; exact fun e => h e.symm
    · simp
theorem next_mem (b : T_Block) (k : Int) : k ∈ nextV b ↔ ((goV b.fTerm 0 = true ∧ k = b.fTerm.fTo.a0) ∨ (goV b.fTerm 1 = true ∧ k = b.fTerm.fTo.a1)) := by
  unfold nextV goV
  by_cases h1 : b.fTerm.fKind = 1
  · simp [h1]
  · by_cases h2 : b.fTerm.fKind = 2
    · simp only [h1, h2, if_false, if_true]
      by_cases h3 : b.fTerm.fTo.a0 = b.fTerm.fTo.a1
      · simp [h3]
      · by_cases h4 : b.fTerm.fTo.a0 < b.fTerm.fTo.a1 <;> simp [h3, h4, or_comm]
    · simp [h1, h2]
def pk (bs : List T_Block) (k j : Nat) : Bool := match bs[j]? with | some b => decide ((k : Int) ∈ nextV b) | none => false
def rowP (bs : List T_Block) (i k : Nat) : List Int := ((List.range i).filter (pk bs k)).map (fun j : Nat => (j : Int))
theorem fold_get (n : Nat) (i : Int) : ∀ (l : List Int) (rows : List (List Int)) (k : Nat), l.Nodup → rows.length = n → k < n → (l.foldl (addR n i) rows)[k]? = (rows[k]?).map fun r => if (k : Int) ∈ l then r ++ [i] else r
  | [], rows, k, _, hl, hk => by simp
  | x :: l, rows, k, hnd, hl, hk => by
    rw [List.foldl_cons, fold_get n i l _ k (List.nodup_cons.mp hnd).2 (by rw [addR_len]; exact hl) hk]
    have hrk : rows[k]? = some rows[k] := List.getElem?_eq_getElem (by omega)
    by_cases hx : x = (k : Int)
    · subst hx
      have hnl : ¬ (k : Int) ∈ l := (List.nodup_cons.mp hnd).1
      rw [addR_in ⟨by omega, by omega⟩ (by simpa using by omega)]
      simp [hrk, hnl, show k < rows.length by omega]
    · have he : (addR n i rows x)[k]? = rows[k]? := by
        unfold addR; split
        · rw [List.getElem?_set_ne (by omega)]
        · rfl
      rw [he, hrk]
      have : ((k : Int) ∈ x :: l) ↔ (k : Int) ∈ l := List.mem_cons.trans ⟨fun h => h.resolve_left (fun e => hx e.symm), .inr⟩
      simp only [Option.map_some, this]
theorem ahead_row (bs : List T_Block) : ∀ (i k : Nat), i ≤ bs.length → k < bs.length → (aheadS bs i)[k]? = some (rowP bs i k)
  | 0, k, _, hk => by simp [aheadS, rowP, hk]
  | i + 1, k, hi, hk => by
    have ih := ahead_row bs i k (by omega) hk
    have hb : bs[i]? = some bs[i] := List.getElem?_eq_getElem (by omega)
    rw [aheadS_step hb, fold_get _ _ _ _ _ (next_nodup _) (aheadS_len bs i) hk, ih, Option.map_some]
    unfold rowP
    rw [List.range_succ, List.filter_append, List.map_append]
    have hp : pk bs k i = decide ((k : Int) ∈ nextV bs[i]) := by unfold pk; rw [hb]
    by_cases hm : (k : Int) ∈ nextV bs[i]
    · rw [if_pos hm]; simp [hp, hm]
    · rw [if_neg hm]; simp [hp, hm]
theorem row_mem {bs : List T_Block} {k : Nat} {u : Int} : u ∈ rowP bs bs.length k ↔ ∃ b, 0 ≤ u ∧ bs[u.toNat]? = some b ∧ (k : Int) ∈ nextV b := by
  unfold rowP
  rw [List.mem_map]
  constructor
  · rintro ⟨j, hj, rfl⟩
    rw [List.mem_filter] at hj
    obtain ⟨h1, h2⟩ := hj
    unfold pk at h2
    split at h2
    · rename_i b hb; exact ⟨b, by omega, by simpa using hb, of_decide_eq_true h2⟩
    · cases h2
  · rintro ⟨b, h0, hb, hm⟩
    refine ⟨u.toNat, ?_, by omega⟩
    rw [List.mem_filter, List.mem_range]
    exact ⟨(List.getElem?_eq_some_iff.mp hb).1, by unfold pk; rw [hb]; exact decide_eq_true hm⟩
theorem row_up (bs : List T_Block) (i k : Nat) : (rowP bs i k).Pairwise (· < ·) := by
  unfold rowP
  rw [List.pairwise_map]
  exact (List.Pairwise.filter _ List.pairwise_lt_range).imp (fun h => by omega)

/-- how many edges in all -/
def tot (rows : List (List Int)) : Nat := (rows.map List.length).sum
theorem tot_set : ∀ (l : List (List Int)) (j : Nat) (x : List Int) (h : j < l.length), tot (l.set j x) + l[j].length = tot l + x.length
  | [], j, x, h => by simp at h
  | a :: l, 0, x, h => by simp [tot]; omega
  | a :: l, j + 1, x, h => by
    have := tot_set l j x (by simpa using h)
    simp only [tot, List.set_cons_succ, List.map_cons, List.sum_cons, List.getElem_cons_succ] at this ⊢
    omega
def inR (n : Nat) (k : Int) : Bool := decide (0 ≤ k ∧ k < (n : Int))
theorem tot_add {n : Nat} {i : Int} {rows : List (List Int)} (hl : rows.length = n) (k : Int) : tot (addR n i rows k) = tot rows + (if inR n k = true then 1 else 0) := by
  by_cases h : 0 ≤ k ∧ k < (n : Int)
  · have hk : k.toNat < rows.length := by omega
    rw [addR_in h hk]
    have := tot_set rows k.toNat (rows[k.toNat] ++ [i]) hk
    rw [List.length_append, List.length_singleton] at this
    simp only [inR, decide_eq_true h, if_true]; omega
  · rw [addR_out h]; simp [inR, h]
theorem tot_fold {n : Nat} {i : Int} : ∀ (l : List Int) {rows : List (List Int)} (hl : rows.length = n), tot (l.foldl (addR n i) rows) = tot rows + l.countP (inR n)
  | [], rows, hl => by simp
  | x :: l, rows, hl => by
    rw [List.foldl_cons, tot_fold l (by rw [addR_len]; exact hl), tot_add hl, List.countP_cons]; omega
def eds (bs : List T_Block) : Nat → Nat
  | 0 => 0
  | i + 1 => eds bs i + match bs[i]? with | some b => (nextV b).countP (inR bs.length) | none => 0
theorem tot_ahead (bs : List T_Block) : ∀ i, i ≤ bs.length → tot (aheadS bs i) = eds bs i
  | 0, _ => by simp [aheadS, eds, tot]
  | i + 1, hi => by
    have hb : bs[i]? = some bs[i] := List.getElem?_eq_getElem (by omega)
    rw [aheadS_step hb, tot_fold _ (aheadS_len bs i), tot_ahead bs i (by omega)]
    simp only [eds, hb]
theorem eds_le (bs : List T_Block) : ∀ i, eds bs i ≤ 2 * i
  | 0 => by simp [eds]
  | i + 1 => by
    have := eds_le bs i
    simp only [eds]
    split
    · rename_i b _
      have h1 := next_le b
      have h2 : (nextV b).countP (inR bs.length) ≤ (nextV b).length := List.countP_le_length
      omega
    · omega
end Go.Eng.Gra
