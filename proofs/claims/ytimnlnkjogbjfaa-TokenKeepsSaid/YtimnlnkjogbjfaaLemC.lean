/- Beginnings of a text, blanks and remarks, rows as the document tells them (no condition but the size of a text that a machine holds). -/
import Derived.Test.YtimnlnkjogbjfaaLemB
namespace Go.Proofs.Ytimnlnkjogbjfaa.Pure
set_option linter.unusedVariables false
open Go.RowKit Go.Proofs.Ytimnlnkjogbjfaa.X Go.Proofs.YtimnlnkjogbjfaaW.PrintWords Go.Proofs.YtimnlnkjogbjfaaW.PrintLast

theorem size_list (s : ByteArray) : s.data.toList.length = s.size := by rw [Array.length_toList]; rfl
theorem bt_get (s : ByteArray) (i : Nat) (h : i < s.data.toList.length) : bt s (i : Int) = ((s.data.toList[i]).toNat : Int) := by
  have h' : i < s.size := by rw [size_list] at h; exact h
  have hb := bt_at s (i : Int) (by rw [Int.toNat_natCast]; exact h')
  rw [← hb]
  simp only [Int.toNat_natCast]
  rfl
/-- Does a text stand at a place? -/
def pre (s : ByteArray) (i : Nat) (p : List UInt8) : Bool := p.isPrefixOf (s.data.toList.drop i)
theorem has_ev (s : ByteArray) (i : Nat) (hi : i ≤ s.size) (bad : Int) (p : ByteArray) : token_cutter_has.f s (i : Int) bad p = some (pre s i p.data.toList, s, (i : Int), bad) := by
  unfold token_cutter_has.f
  rw [if_pos (by omega), if_pos (by omega)]
  have e : strings_HasPrefix.f (s.extract ((i : Int)).toNat s.size) p = some (pre s i p.data.toList) := by
    unfold strings_HasPrefix.f stringslite_HasPrefix.f
    rw [Int.toNat_natCast]
    have hl : (s.extract i s.size).data.toList = s.data.toList.drop i := by rw [Lib.extract_data, List.take_of_length_le (by rw [List.length_drop, size_list]; omega)]
    have hz : (s.extract i s.size).size = s.size - i := by rw [← size_list, hl, List.length_drop, size_list]
    rw [hz]
    by_cases h : p.size ≤ s.size - i
    · rw [if_pos (by omega), if_pos (by omega), if_pos (by omega)]
      simp only [Option.bind_some, Int.toNat_natCast]
      congr 1
      rw [ByteArray.toList_eq, ByteArray.toList_eq, Lib.extract_data, hl, List.drop_zero, Nat.sub_zero]
      unfold pre
      rw [Bool.eq_iff_iff, beq_iff_eq, List.isPrefixOf_iff_prefix, List.prefix_iff_eq_take, size_list]
      exact ⟨fun h => h.symm, fun h => h.symm⟩
    · rw [if_neg (by omega)]
      simp only [Option.bind_some]
      congr 1
      unfold pre
      symm
      rw [Bool.eq_false_iff, Ne, List.isPrefixOf_iff_prefix]
      intro hp
      have := hp.length_le
      rw [List.length_drop, size_list, size_list] at this
      exact h this
  rw [e]
  rfl
theorem pre1 (s : ByteArray) (i : Nat) (c : UInt8) : pre s i [c] = (decide (i < s.size) && (bt s (i : Int) == (c.toNat : Int))) := by
  unfold pre
  by_cases h : i < s.size
  · have h' : i < s.data.toList.length := by rw [size_list]; exact h
    rw [List.drop_eq_getElem_cons h', bt_get s i h', decide_eq_true h]
    simp only [List.isPrefixOf, Bool.and_true, Bool.true_and]
    rw [Bool.eq_iff_iff, beq_iff_eq, beq_iff_eq]
    constructor
    · intro e; rw [← e]
    · intro e; exact (UInt8.toNat_inj.mp (by omega)).symm
  · rw [List.drop_eq_nil_of_le (by rw [size_list]; omega), decide_eq_false h]; rfl
theorem pre2 (s : ByteArray) (i : Nat) (c d : UInt8) : pre s i [c, d] = (decide (i + 1 < s.size) && (bt s (i : Int) == (c.toNat : Int)) && (bt s ((i + 1 : Nat) : Int) == (d.toNat : Int))) := by
  by_cases h : i + 1 < s.size
  · have h' : i < s.data.toList.length := by rw [size_list]; omega
    have h1 := pre1 s i c
    have h2 := pre1 s (i + 1) d
    unfold pre at h1 h2 ⊢
    rw [decide_eq_true (by omega), Bool.true_and] at h1 h2
    rw [decide_eq_true h, Bool.true_and, ← h1, ← h2]
    rw [List.drop_eq_getElem_cons h']
    simp only [List.isPrefixOf, Bool.and_true]
  · rw [decide_eq_false h, Bool.false_and, Bool.false_and]
    unfold pre
    rw [Bool.eq_false_iff, Ne, List.isPrefixOf_iff_prefix]
    intro hp
    have := hp.length_le
    rw [List.length_drop, size_list] at this
    simp only [List.length_cons, List.length_nil] at this
    omega

/-! ### IndexByte -/
theorem index_row (s : ByteArray) (c : UInt8) (d : Nat) : ∀ i, i ≤ s.size → s.size - i = d →
    (Lib.indexByte (s.data.toList.drop i) c = -1 ∧ rowEnd (fun x => x != (c.toNat : Int)) s i = s.size) ∨ (∃ n : Nat, Lib.indexByte (s.data.toList.drop i) c = n ∧ rowEnd (fun x => x != (c.toNat : Int)) s i = i + n ∧ i + n < s.size) := by
  induction d with
  | zero =>
    intro i h0 h
    rw [List.drop_eq_nil_of_le (by rw [size_list]; omega), rowEnd_stop (by omega)]
    exact .inl ⟨rfl, by omega⟩
  | succ d ih =>
    intro i h0 h
    have h' : i < s.data.toList.length := by rw [size_list]; omega
    rw [List.drop_eq_getElem_cons h']
    unfold Lib.indexByte
    by_cases hc : s.data.toList[i] = c
    · rw [if_pos (by rw [hc]; exact beq_self_eq_true _)]
      refine .inr ⟨0, rfl, ?_, by omega⟩
      rw [rowEnd_no (by rw [bt_get s i h', hc]; simp)]; rfl
    · rw [if_neg (by rw [beq_iff_eq]; exact hc)]
      have hb : (bt s (i : Int) != (c.toNat : Int)) = true := by
        rw [bne_iff_ne, bt_get s i h']
        intro e
        exact hc (UInt8.toNat_inj.mp (by omega))
      rw [rowEnd_yes (p := fun x => x != (c.toNat : Int)) (by omega) hb]
      rcases ih (i + 1) (by omega) (by omega) with ⟨h1, h2⟩ | ⟨n, h1, h2, h3⟩
      · rw [h1, h2]; exact .inl ⟨rfl, rfl⟩
      · rw [h1, h2]
        refine .inr ⟨n + 1, ?_, by omega, by omega⟩
        rw [if_neg (by rw [beq_iff_eq]; omega)]; omega

/-! ### Blanks and remarks -/
theorem not10 {s : ByteArray} {j : Nat} (h : j < s.size) (h1 : bt s (j : Int) = 47) : j < rowEnd (fun x => x != 10) s j := by
  rw [rowEnd_yes h (by rw [h1]; rfl)]
  have := le_rowEnd (fun x => x != 10) s (j + 1)
  omega
/-- The place behind blanks and remarks. -/
def skipEnd (s : ByteArray) (i : Nat) : Nat :=
  if h : rowEnd (inL [1]) s i + 1 < s.size ∧ bt s ((rowEnd (inL [1]) s i : Nat) : Int) = 47 ∧ bt s ((rowEnd (inL [1]) s i + 1 : Nat) : Int) = 47 then skipEnd s (rowEnd (fun x => x != 10) s (rowEnd (inL [1]) s i)) else rowEnd (inL [1]) s i
termination_by s.size - i
decreasing_by
  have := le_rowEnd (inL [1]) s i
  have := not10 (show rowEnd (inL [1]) s i < s.size by omega) h.2.1
  omega
theorem skipEnd_ge (s : ByteArray) (d : Nat) : ∀ i, s.size - i ≤ d → i ≤ skipEnd s i ∧ (i ≤ s.size → skipEnd s i ≤ s.size) := by
  induction d with
  | zero =>
    intro i h
    rw [skipEnd, dif_neg (by have := le_rowEnd (inL [1]) s i; omega)]
    exact ⟨le_rowEnd _ _ _, fun h => rowEnd_size h⟩
  | succ d ih =>
    intro i h
    have h1 := le_rowEnd (inL [1]) s i
    rw [skipEnd]
    split
    · rename_i hc
      have h2 := not10 (show rowEnd (inL [1]) s i < s.size by omega) hc.2.1
      have h3 := ih (rowEnd (fun x => x != 10) s (rowEnd (inL [1]) s i)) (by omega)
      exact ⟨by omega, fun h => h3.2 (rowEnd_size (by omega))⟩
    · exact ⟨h1, fun h => rowEnd_size h⟩
theorem le_skipEnd (s : ByteArray) (i : Nat) : i ≤ skipEnd s i := (skipEnd_ge s _ i (Nat.le_refl _)).1
theorem skipEnd_size {s : ByteArray} {i : Nat} (h : i ≤ s.size) : skipEnd s i ≤ s.size := (skipEnd_ge s _ i (Nat.le_refl _)).2 h
theorem skip_prog (s : ByteArray) (hs : s.size ≤ 140737488351232) (bad : Int) (d : Nat) : ∀ i : Nat, i ≤ s.size → s.size - i ≤ d →
    Ev (fun k => token_cutter_skip.l0 k s (i : Int) bad) (s, ((skipEnd s i : Nat) : Int), bad) := by
  induction d with
  | zero =>
    intro i h0 h
    have e : rowEnd (inL [1]) s i = i := rowEnd_stop (by omega)
    refine Ev.step (fun k => by rw [token_cutter_skip.l0]) (Ev.bind (row_ev s hs [1] (by simp) bad i h0) ?_)
    simp only
    rw [e, has_ev s i h0 bad]
    rw [show (⟨#[47, 47]⟩ : ByteArray).data.toList = [47, 47] from rfl, pre2, decide_eq_false (by omega)]
    simp only [Option.bind_some, Bool.false_and]
    refine Ev.ite_neg (by decide) ?_
    rw [skipEnd, e, dif_neg (by omega)]
    exact Ev.now _
  | succ d ih =>
    intro i h0 h
    have h1 := le_rowEnd (inL [1]) s i
    have h2 := rowEnd_size (p := inL [1]) h0
    refine Ev.step (fun k => by rw [token_cutter_skip.l0]) (Ev.bind (row_ev s hs [1] (by simp) bad i h0) ?_)
    simp only
    rw [has_ev s _ h2 bad]
    rw [show (⟨#[47, 47]⟩ : ByteArray).data.toList = [47, 47] from rfl, pre2]
    simp only [Option.bind_some]
    rw [skipEnd]
    generalize hj : rowEnd (inL [1]) s i = j at *
    by_cases hc : j + 1 < s.size ∧ bt s (j : Int) = 47 ∧ bt s ((j + 1 : Nat) : Int) = 47
    · rw [dif_pos hc]
      refine Ev.ite_pos (by rw [decide_eq_true hc.1, hc.2.1, hc.2.2]; rfl) (Ev.ite_pos (by omega) (Ev.ite_pos (by omega) ?_))
      have hd : (s.extract j s.size).data.toList = s.data.toList.drop j := by rw [Lib.extract_data, List.take_of_length_le (by rw [List.length_drop, size_list]; omega)]
      have h3 := not10 (show j < s.size by omega) hc.2.1
      have h4 := rowEnd_size (p := fun x => x != 10) (show j ≤ s.size by omega)
      unfold strings_IndexByte.f
      rw [Int.toNat_natCast, hd]
      simp only [Option.bind_some]
      rw [show ((10 : Int)).toNat.toUInt8 = (10 : UInt8) from rfl]
      rcases index_row s 10 _ j (by omega) rfl with ⟨g1, g2⟩ | ⟨n, g1, g2, g3⟩
      · rw [g1]
        refine Ev.ite_neg (by decide) ?_
        have g2' : rowEnd (fun x => x != 10) s j = s.size := g2
        rw [g2'] at h3 ⊢
        exact ih s.size (Nat.le_refl _) (by omega)
      · rw [g1]
        refine Ev.ite_pos (by omega) ?_
        have g2' : rowEnd (fun x => x != 10) s j = j + n := g2
        rw [g2'] at h3 ⊢
        rw [w64 (by omega) (by omega), show (j : Int) + (n : Int) = ((j + n : Nat) : Int) by omega]
        exact ih (j + n) (by omega) (by omega)
    · rw [dif_neg hc]
      refine Ev.ite_neg ?_ (Ev.now _)
      intro he
      apply hc
      simp only [Bool.and_eq_true, decide_eq_true_eq, beq_iff_eq] at he
      exact ⟨he.1.1, he.1.2, he.2⟩
theorem skip_ev (s : ByteArray) (hs : s.size ≤ 140737488351232) (bad : Int) (i : Nat) (hi : i ≤ s.size) : Ev (fun k => token_cutter_skip.f k s (i : Int) bad) (s, ((skipEnd s i : Nat) : Int), bad) :=
  Ev.congr (fun k => by rw [token_cutter_skip.f]) (skip_prog s hs bad _ i hi (Nat.le_refl _))

/-! ### The document's row and skip -/
theorem rrow_l0 (s : ByteArray) (hs : s.size ≤ 140737488351232) (b : Bool) (d : Nat) : ∀ i : Nat, i ≤ s.size → s.size - i = d →
    Ev (fun k => smithyref02_row.l0 k s (i : Int) b) (((rowEnd (inL (if b then [2, 3] else [3])) s i : Nat) : Int)) := by
  induction d with
  | zero =>
    intro i h0 h
    rw [rowEnd_stop (by omega)]
    refine Ev.step (fun k => by rw [smithyref02_row.l0, if_neg (by omega)]) (Ev.step (fun k => by rw [smithyref02_row.j1]) (Ev.ite_neg (by decide) (Ev.now _)))
  | succ d ih =>
    intro i h0 h
    have go : ∀ t : Bool, t = inL (if b then [2, 3] else [3]) (bt s (i : Int)) → Ev (fun k => smithyref02_row.j1 k s (i : Int) b t) (((rowEnd (inL (if b then [2, 3] else [3])) s i : Nat) : Int)) := by
      intro t ht
      refine Ev.step (fun k => by rw [smithyref02_row.j1]) ?_
      cases t with
      | true =>
        refine Ev.ite_pos rfl ?_
        rw [rowEnd_yes (by omega) ht.symm, w64 (by omega) (by omega), show (i : Int) + 1 = ((i + 1 : Nat) : Int) by omega]
        exact ih (i + 1) (by omega) (by omega)
      | false =>
        refine Ev.ite_neg (by decide) ?_
        rw [rowEnd_no ht.symm]
        exact Ev.now _
    refine Ev.step (fun k => by rw [smithyref02_row.l0, if_pos (by omega), if_pos (by omega), digit_bt]) ?_
    simp only [Option.bind_some]
    by_cases h3 : kindOf (bt s (i : Int)) = 3
    · refine Ev.ite_pos (by rw [h3]; rfl) (go true ?_)
      unfold inL; rw [h3]; cases b <;> rfl
    · refine Ev.ite_neg (by rw [beq_iff_eq]; exact h3) ?_
      cases b with
      | true =>
        refine Ev.ite_pos rfl ?_
        rw [letter_bt]
        simp only [Option.bind_some]
        refine go _ ?_
        unfold inL
        rw [Bool.eq_iff_iff, beq_iff_eq, decide_eq_true_eq]
        simp only [if_true, List.mem_cons, List.not_mem_nil, or_false]
        exact ⟨fun h => .inl h, fun h => h.resolve_right h3⟩
      | false =>
        refine Ev.ite_neg (by decide) (go false ?_)
        unfold inL
        symm
        rw [decide_eq_false_iff_not]
        simp only [Bool.false_eq_true, if_false, List.mem_cons, List.not_mem_nil, or_false]
        exact h3
theorem rrow_ev (s : ByteArray) (hs : s.size ≤ 140737488351232) (b : Bool) (i : Nat) (hi : i ≤ s.size) : Ev (fun k => smithyref02_row.f k s (i : Int) b) (((rowEnd (inL (if b then [2, 3] else [3])) s i : Nat) : Int)) :=
  Ev.congr (fun k => by rw [smithyref02_row.f]) (rrow_l0 s hs b _ i hi rfl)
theorem kind47 : kindOf 47 = 4 := by decide +kernel
theorem rskip_l1 (s : ByteArray) (hs : s.size ≤ 140737488351232) (r : Int) (d : Nat) : ∀ i : Nat, i ≤ s.size → s.size - i = d → Ev (fun k => smithyref02_skip.l0 k s ((rowEnd (fun x => x != 10) s i : Nat) : Int)) r → Ev (fun k => smithyref02_skip.l1 k s (i : Int)) r := by
  induction d with
  | zero =>
    intro i h0 h hg
    rw [rowEnd_stop (by omega)] at hg
    exact Ev.step (fun k => by rw [smithyref02_skip.l1, if_neg (by omega)]) hg
  | succ d ih =>
    intro i h0 h hg
    refine Ev.step (fun k => by rw [smithyref02_skip.l1, if_pos (by omega), if_pos (by omega)]) ?_
    by_cases hc : bt s (i : Int) = 10
    · refine Ev.ite_pos hc ?_
      rwa [rowEnd_no (by rw [hc]; rfl)] at hg
    · refine Ev.ite_neg hc ?_
      rw [rowEnd_yes (by omega) (by rw [bne_iff_ne]; exact hc)] at hg
      rw [w64 (by omega) (by omega), show (i : Int) + 1 = ((i + 1 : Nat) : Int) by omega]
      exact ih (i + 1) (by omega) (by omega) hg
theorem rskip_l0 (s : ByteArray) (hs : s.size ≤ 140737488351232) (d : Nat) : ∀ i : Nat, i ≤ s.size → s.size - i ≤ d → Ev (fun k => smithyref02_skip.l0 k s (i : Int)) ((skipEnd s i : Nat) : Int) := by
  induction d with
  | zero =>
    intro i h0 h
    refine Ev.step (fun k => by rw [smithyref02_skip.l0, if_neg (by omega)]) ?_
    rw [skipEnd, rowEnd_stop (by omega), dif_neg (by omega)]
    exact Ev.now _
  | succ d ih =>
    intro i h0 h
    by_cases hi : i < s.size
    · refine Ev.step (fun k => by rw [smithyref02_skip.l0, if_pos (by omega), if_pos (by omega), blank_bt]) ?_
      simp only [Option.bind_some]
      by_cases hb : kindOf (bt s (i : Int)) = 1
      · refine Ev.ite_pos (by rw [hb]; rfl) ?_
        have e : skipEnd s i = skipEnd s (i + 1) := by
          rw [skipEnd.eq_def s i, skipEnd.eq_def s (i + 1), rowEnd_yes hi (by unfold inL; rw [hb]; rfl)]
        rw [e, w64 (by omega) (by omega), show (i : Int) + 1 = ((i + 1 : Nat) : Int) by omega]
        exact ih (i + 1) (by omega) (by omega)
      · refine Ev.ite_neg (by rw [beq_iff_eq]; exact hb) ?_
        have er : rowEnd (inL [1]) s i = i := rowEnd_no (by unfold inL; simp [hb])
        have go : ∀ t : Bool, (t = true ↔ (i + 1 < s.size ∧ bt s (i : Int) = 47 ∧ bt s ((i + 1 : Nat) : Int) = 47)) → Ev (fun k => smithyref02_skip.j1 k s (i : Int) t) ((skipEnd s i : Nat) : Int) := by
          intro t ht
          refine Ev.step (fun k => by rw [smithyref02_skip.j1]) ?_
          cases t with
          | true =>
            have hc := ht.mp rfl
            refine Ev.ite_pos rfl (rskip_l1 s hs _ _ i h0 rfl ?_)
            rw [skipEnd, er, dif_pos hc]
            have := not10 hi hc.2.1
            exact ih _ (rowEnd_size h0) (by omega)
          | false =>
            refine Ev.ite_neg (by decide) ?_
            rw [skipEnd, er, dif_neg (fun hc => by have := ht.mpr hc; cases this)]
            exact Ev.now _
        by_cases h47 : bt s (i : Int) = 47
        · refine Ev.ite_pos h47 ?_
          have ew : wrap64 ((i : Int) + 1) = ((i + 1 : Nat) : Int) := by rw [w64 (by omega) (by omega)]; omega
          rw [ew]
          by_cases hn : i + 1 < s.size
          · refine Ev.ite_pos (by omega) (Ev.ite_pos (by omega) (go _ ?_))
            rw [beq_iff_eq]
            exact ⟨fun h => ⟨hn, h47, h⟩, fun h => h.2.2⟩
          · refine Ev.ite_neg (by omega) (go _ ⟨fun h => (by cases h), fun h => absurd h.1 hn⟩)
        · exact Ev.ite_neg h47 (go _ ⟨fun h => (by cases h), fun h => absurd h.2.1 h47⟩)
    · refine Ev.step (fun k => by rw [smithyref02_skip.l0, if_neg (by omega)]) ?_
      rw [skipEnd, rowEnd_stop (by omega), dif_neg (by omega)]
      exact Ev.now _
theorem rskip_ev (s : ByteArray) (hs : s.size ≤ 140737488351232) (i : Nat) (hi : i ≤ s.size) : Ev (fun k => smithyref02_skip.f k s (i : Int)) ((skipEnd s i : Nat) : Int) :=
  Ev.congr (fun k => by rw [smithyref02_skip.f]) (rskip_l0 s hs _ i hi (Nat.le_refl _))
end Go.Proofs.Ytimnlnkjogbjfaa.Pure
