/- Names, literals and signs: the program's cuts and the document's come to the same (no condition but the size of a text that a machine holds). -/
import Derived.Test.YtimnlnkjogbjfaaLemC
namespace Go.Proofs.Ytimnlnkjogbjfaa.Pure
set_option linter.unusedVariables false
open Go.RowKit Go.Proofs.Ytimnlnkjogbjfaa.X Go.Proofs.YtimnlnkjogbjfaaW.PrintWords Go.Proofs.YtimnlnkjogbjfaaW.PrintLast

/-! ### Names -/
theorem name_ev (s : ByteArray) (hs : s.size ≤ 140737488351232) (bad : Int) (i : Nat) (hi : i ≤ s.size) :
    Ev (fun k => token_cutter_name.f k s (i : Int) bad) (if (s.extract i (rowEnd (inL [2, 3]) s i)).toList ∈ WORDS then 3 else 2, s, ((rowEnd (inL [2, 3]) s i : Nat) : Int), if 32 < ((rowEnd (inL [2, 3]) s i : Nat) : Int) - i then (i : Int) else bad) := by
  have h1 := le_rowEnd (inL [2, 3]) s i
  have h2 := rowEnd_size (p := inL [2, 3]) hi
  have go : ∀ b : Int, Ev (fun k => token_cutter_name.j0 k (i : Int) s ((rowEnd (inL [2, 3]) s i : Nat) : Int) b) (if (s.extract i (rowEnd (inL [2, 3]) s i)).toList ∈ WORDS then 3 else 2, s, ((rowEnd (inL [2, 3]) s i : Nat) : Int), b) := by
    intro b
    refine Ev.step (fun k => by rw [token_cutter_name.j0]) ?_
    refine Ev.ite_pos (by omega) (Ev.ite_pos (by omega) (Ev.ite_pos (by omega) ?_))
    simp only [Int.toNat_natCast]
    refine Ev.bind (prog_word_ev _) ?_
    by_cases hw : (s.extract i (rowEnd (inL [2, 3]) s i)).toList ∈ WORDS
    · rw [if_pos hw]
      exact Ev.ite_pos (decide_eq_true hw) (Ev.now _)
    · rw [if_neg hw]
      exact Ev.ite_neg (by rw [decide_eq_false hw]; decide) (Ev.now _)
  refine Ev.congr (fun k => by rw [token_cutter_name.f]) (Ev.bind (row_ev s hs [2, 3] (by simp) bad i hi) ?_)
  simp only
  by_cases hc : 32 < ((rowEnd (inL [2, 3]) s i : Nat) : Int) - i
  · rw [if_pos hc]; exact Ev.ite_pos hc (go _)
  · rw [if_neg hc]; exact Ev.ite_neg hc (go _)

/-! ### Literals -/
theorem tail_both (s : ByteArray) (hs : s.size ≤ 140737488351232) (i m : Nat) (hm : m ≤ s.size) :
    ∃ (e : Nat) (b : Int), Ev (fun k => token_cutter_literal.j1 k s (m : Int) (-1)) (5, s, (e : Int), b) ∧ m ≤ e ∧ e ≤ s.size ∧
      ((b = -1 ∧ e = m ∧ Ev (fun k => smithyref02_literal.j4 k s (i : Int) (m : Int)) (5, (i : Int), (m : Int), 0, true)) ∨ (b = m ∧ Ev (fun k => smithyref02_literal.j4 k s (i : Int) (m : Int)) (0, 0, 0, (m : Int), false))) := by
  have h1 := le_rowEnd (inL [2, 3]) s m
  have h2 := rowEnd_size (p := inL [2, 3]) hm
  have hr := rrow_ev s hs true m hm
  simp only [if_true] at hr
  have hp := row_ev s hs [2, 3] (by simp) (-1) m hm
  generalize rowEnd (inL [2, 3]) s m = e4 at *
  by_cases hc : m < e4
  · refine ⟨e4, (m : Int), ?_, h1, h2, .inr ⟨rfl, ?_⟩⟩
    · refine Ev.step (fun k => by rw [token_cutter_literal.j1]) ?_
      refine Ev.ite_pos (by decide) (Ev.bind hp (Ev.ite_pos (by simp only; omega) ?_))
      refine Ev.step (fun k => by rw [token_cutter_literal.j2]) ?_
      exact Ev.ite_pos rfl (Ev.now _)
    · refine Ev.step (fun k => by rw [smithyref02_literal.j4]) ?_
      refine Ev.bind hr (Ev.ite_pos (by omega) ?_)
      refine Ev.step (fun k => by rw [smithyref02_literal.j5]) ?_
      exact Ev.ite_pos rfl (Ev.now _)
  · obtain rfl : e4 = m := by omega
    have hpr : ∀ b : Int, b = (if pre s e4 [46] = true then (e4 : Int) else -1) → Ev (fun k => token_cutter_literal.j1 k s (e4 : Int) (-1)) (5, s, (e4 : Int), b) := by
      intro b hb
      refine Ev.step (fun k => by rw [token_cutter_literal.j1]) ?_
      refine Ev.ite_pos (by decide) (Ev.bind hp (Ev.ite_neg (by simp only; omega) ?_))
      simp only
      rw [has_ev s e4 hm]
      simp only [Option.bind_some]
      refine Ev.step (fun k => by rw [token_cutter_literal.j2]) ?_
      by_cases hq : pre s e4 [46] = true
      · rw [hb]; refine Ev.ite_pos hq ?_; rw [if_pos hq]; exact Ev.now _
      · rw [hb]; refine Ev.ite_neg hq ?_; rw [if_neg hq]; exact Ev.now _
    have hre : ∀ t : Bool, t = pre s e4 [46] → ∀ r, r = (if t = true then ((0 : Int), (0 : Int), (0 : Int), (e4 : Int), false) else (5, (i : Int), (e4 : Int), 0, true)) → Ev (fun k => smithyref02_literal.j5 k (i : Int) (e4 : Int) t) r := by
      intro t ht r hr
      refine Ev.step (fun k => by rw [smithyref02_literal.j5]) ?_
      cases t with
      | true => rw [hr]; exact Ev.ite_pos rfl (Ev.now _)
      | false => rw [hr]; exact Ev.ite_neg (by decide) (Ev.now _)
    have hgo : Ev (fun k => smithyref02_literal.j4 k s (i : Int) (e4 : Int)) (if pre s e4 [46] = true then ((0 : Int), (0 : Int), (0 : Int), (e4 : Int), false) else (5, (i : Int), (e4 : Int), 0, true)) := by
      refine Ev.step (fun k => by rw [smithyref02_literal.j4]) ?_
      refine Ev.bind hr (Ev.ite_neg (by omega) ?_)
      have hp1 := pre1 s e4 46
      by_cases hz : e4 < s.size
      · refine Ev.ite_pos (by omega) (Ev.ite_pos (by omega) (hre _ ?_ _ ?_))
        · rw [hp1, decide_eq_true hz, Bool.true_and]; rfl
        · rw [hp1, decide_eq_true hz, Bool.true_and]; rfl
      · refine Ev.ite_neg (by omega) (hre _ ?_ _ ?_)
        · rw [hp1, decide_eq_false hz, Bool.false_and]
        · rw [hp1, decide_eq_false hz, Bool.false_and]
    by_cases hq : pre s e4 [46] = true
    · rw [if_pos hq] at hgo
      exact ⟨e4, (e4 : Int), hpr _ (by rw [if_pos hq]), Nat.le_refl _, hm, .inr ⟨rfl, hgo⟩⟩
    · rw [if_neg hq] at hgo
      exact ⟨e4, -1, hpr _ (by rw [if_neg hq]), Nat.le_refl _, hm, .inl ⟨rfl, rfl, hgo⟩⟩

theorem digits_ev (s : ByteArray) (hs : s.size ≤ 140737488351232) (i : Nat) (hi : i ≤ s.size) :
    Ev (fun k => token_cutter_digits.f k s (i : Int) (-1)) (s, ((rowEnd (inL [3]) s i : Nat) : Int), if rowEnd (inL [3]) s i = i then ((rowEnd (inL [3]) s i : Nat) : Int) else -1) := by
  have h1 := le_rowEnd (inL [3]) s i
  refine Ev.congr (fun k => by rw [token_cutter_digits.f]) (Ev.ite_pos (by decide) (Ev.bind (row_ev s hs [3] (by simp) (-1) i hi) ?_))
  simp only
  by_cases hc : rowEnd (inL [3]) s i = i
  · rw [if_pos hc]; exact Ev.ite_pos (by omega) (Ev.now _)
  · rw [if_neg hc]; exact Ev.ite_neg (by omega) (Ev.now _)

theorem j1_bad (s : ByteArray) (m : Nat) : Ev (fun k => token_cutter_literal.j1 k s (m : Int) (m : Int)) (5, s, (m : Int), (m : Int)) := by
  refine Ev.step (fun k => by rw [token_cutter_literal.j1]) ?_
  refine Ev.ite_neg (by omega) ?_
  refine Ev.step (fun k => by rw [token_cutter_literal.j2]) ?_
  exact Ev.ite_neg (by decide) (Ev.now _)

/-- What is told of a literal. -/
def Lit (s : ByteArray) (i : Nat) (p : Nat → Option (Int × ByteArray × Int × Int)) (q : Nat → Option (Int × Int × Int × Int × Bool)) : Prop :=
  ∃ (K : Int) (e : Nat) (b : Int), Ev p (K, s, (e : Int), b) ∧ K ≠ 0 ∧ e ≤ s.size ∧ ((b = -1 ∧ i < e ∧ Ev q (K, (i : Int), (e : Int), 0, true)) ∨ (0 ≤ b ∧ Ev q (0, 0, 0, b, false)))

theorem exp_both (s : ByteArray) (hs : s.size ≤ 140737488351232) (i m : Nat) (hm : m ≤ s.size) (him : i < m) :
    Lit s i (fun k => (token_cutter_digits.f k s (m : Int) (-1)).bind fun bt147 => token_cutter_literal.j1 k bt147.1 bt147.2.1 bt147.2.2) (fun k => smithyref02_literal.j3 k s (i : Int) (m : Int)) := by
  have h1 := le_rowEnd (inL [3]) s m
  have h2 := rowEnd_size (p := inL [3]) hm
  have hd := digits_ev s hs m hm
  have hr := rrow_ev s hs false m hm
  simp only [Bool.false_eq_true, if_false] at hr
  generalize rowEnd (inL [3]) s m = e3 at *
  by_cases hc : e3 = m
  · subst hc
    rw [if_pos rfl] at hd
    refine ⟨5, e3, (e3 : Int), Ev.bind hd (j1_bad s e3), by decide, hm, .inr ⟨by omega, ?_⟩⟩
    refine Ev.step (fun k => by rw [smithyref02_literal.j3]) ?_
    exact Ev.bind hr (Ev.ite_pos rfl (Ev.now _))
  · rw [if_neg hc] at hd
    obtain ⟨e, b, g1, g2, g3, g4⟩ := tail_both s hs i e3 h2
    refine ⟨5, e, b, Ev.bind hd g1, by decide, g3, ?_⟩
    rcases g4 with ⟨rfl, rfl, g5⟩ | ⟨rfl, g5⟩
    · refine .inl ⟨rfl, by omega, ?_⟩
      refine Ev.step (fun k => by rw [smithyref02_literal.j3]) ?_
      exact Ev.bind hr (Ev.ite_neg (by omega) g5)
    · refine .inr ⟨by omega, ?_⟩
      refine Ev.step (fun k => by rw [smithyref02_literal.j3]) ?_
      exact Ev.bind hr (Ev.ite_neg (by omega) g5)

theorem lit_both (s : ByteArray) (hs : s.size ≤ 140737488351232) (i : Nat) (hi : i < s.size) (hk : kindOf (bt s (i : Int)) = 3) :
    Lit s i (fun k => token_cutter_literal.f k s (i : Int) (-1)) (fun k => smithyref02_literal.f k s (i : Int)) := by
  have hi0 : i < rowEnd (inL [3]) s i := by
    rw [rowEnd_yes hi (by unfold inL; rw [hk]; rfl)]
    have := le_rowEnd (inL [3]) s (i + 1); omega
  have h2 := rowEnd_size (p := inL [3]) (Nat.le_of_lt hi)
  have hp := row_ev s hs [3] (by simp) (-1) i (Nat.le_of_lt hi)
  have hr := rrow_ev s hs false i (Nat.le_of_lt hi)
  simp only [Bool.false_eq_true, if_false] at hr
  generalize rowEnd (inL [3]) s i = e1 at *
  -- what the document does behind the digits
  have hq : ∀ r, Ev (fun k => smithyref02_literal.j0 k s (i : Int) (e1 : Int) (pre s e1 [46])) r → Ev (fun k => smithyref02_literal.f k s (i : Int)) r := by
    intro r h
    rw [pre1] at h
    refine Ev.congr (fun k => by rw [smithyref02_literal.f]) (Ev.bind hr ?_)
    by_cases hz : e1 < s.size
    · rw [decide_eq_true hz, Bool.true_and] at h
      exact Ev.ite_pos (by omega) (Ev.ite_pos (by omega) h)
    · rw [decide_eq_false hz, Bool.false_and] at h
      exact Ev.ite_neg (by omega) h
  have lift : ∀ {p}, Lit s i p (fun k => smithyref02_literal.j0 k s (i : Int) (e1 : Int) (pre s e1 [46])) → Lit s i p (fun k => smithyref02_literal.f k s (i : Int)) := by
    rintro p ⟨K, e, b, g1, g2, g3, g4⟩
    exact ⟨K, e, b, g1, g2, g3, g4.imp (fun ⟨a, b, c⟩ => ⟨a, b, hq _ c⟩) (fun ⟨a, c⟩ => ⟨a, hq _ c⟩)⟩
  have liftp : ∀ {q}, Lit s i (fun k => if pre s e1 [46] = true then ((token_cutter_digits.f k s (wrap64 ((e1 : Int) + 1)) (-1)).bind fun bt132 => (if bt132.2.2 < 0 then ((token_cutter_has.f bt132.1 bt132.2.1 bt132.2.2 (⟨#[101]⟩ : ByteArray)).bind fun bt135 => (token_cutter_literal.j0 k bt135.1 bt135.2.1 bt135.2.2.1 bt135.2.2.2)) else (token_cutter_literal.j0 k false bt132.1 bt132.2.1 bt132.2.2))) else ((token_cutter_row.f k s (e1 : Int) (-1) (([2, 3] : List Int))).bind fun bt170 => (if 0 ≤ (e1 : Int) then (if (e1 : Int) ≤ bt170.2.2.1 then (if bt170.2.2.1 ≤ (bt170.2.1.size : Int) then (if (bt170.2.1.extract ((e1 : Int) : Int).toNat (bt170.2.2.1 : Int).toNat).toList = ([] : List UInt8) then (token_cutter_literal.j3 k (e1 : Int) ((bt170.2.1.extract ((e1 : Int) : Int).toNat (bt170.2.2.1 : Int).toNat).toList == ([] : List UInt8)) bt170.2.1 bt170.2.2.1 bt170.2.2.2) else (if (bt170.2.1.extract ((e1 : Int) : Int).toNat (bt170.2.2.1 : Int).toNat).toList = ([105, 54, 52] : List UInt8) then (token_cutter_literal.j3 k (e1 : Int) ((bt170.2.1.extract ((e1 : Int) : Int).toNat (bt170.2.2.1 : Int).toNat).toList == ([105, 54, 52] : List UInt8)) bt170.2.1 bt170.2.2.1 bt170.2.2.2) else (if (bt170.2.1.extract ((e1 : Int) : Int).toNat (bt170.2.2.1 : Int).toNat).toList = ([105, 51, 50] : List UInt8) then (token_cutter_literal.j3 k (e1 : Int) ((bt170.2.1.extract ((e1 : Int) : Int).toNat (bt170.2.2.1 : Int).toNat).toList == ([105, 51, 50] : List UInt8)) bt170.2.1 bt170.2.2.1 bt170.2.2.2) else (token_cutter_literal.j3 k (e1 : Int) ((bt170.2.1.extract ((e1 : Int) : Int).toNat (bt170.2.2.1 : Int).toNat).toList == ([117, 56] : List UInt8)) bt170.2.1 bt170.2.2.1 bt170.2.2.2)))) else (none)) else (none)) else (none)))) q → Lit s i (fun k => token_cutter_literal.f k s (i : Int) (-1)) q := by
    rintro q ⟨K, e, b, g1, g2, g3, g4⟩
    refine ⟨K, e, b, Ev.congr (fun k => by rw [token_cutter_literal.f]) (Ev.bind hp ?_), g2, g3, g4⟩
    simp only
    rw [has_ev s e1 h2]
    simp only [Option.bind_some]
    exact g1
  refine lift (liftp ?_)
  by_cases hpt : pre s e1 [46] = true
  · have hz : e1 < s.size := by
      rw [pre1, Bool.and_eq_true, decide_eq_true_eq] at hpt; exact hpt.1
    have ew : wrap64 ((e1 : Int) + 1) = ((e1 + 1 : Nat) : Int) := by rw [w64 (by omega) (by omega)]; omega
    have hd := digits_ev s hs (e1 + 1) (by omega)
    have hrr := rrow_ev s hs false (e1 + 1) (by omega)
    simp only [Bool.false_eq_true, if_false] at hrr
    have k1 := le_rowEnd (inL [3]) s (e1 + 1)
    have k2 := rowEnd_size (p := inL [3]) (show e1 + 1 ≤ s.size by omega)
    generalize rowEnd (inL [3]) s (e1 + 1) = e2 at *
    have hqs : ∀ r, Ev (fun k => if (e2 : Int) = ((e1 + 1 : Nat) : Int) then some ((0 : Int), (0 : Int), (0 : Int), (e2 : Int), false) else if (e2 : Int) < (s.size : Int) then if 0 ≤ (e2 : Int) then smithyref02_literal.j1 k s (i : Int) (e2 : Int) (bt s (e2 : Int) == 101) else none else smithyref02_literal.j1 k s (i : Int) (e2 : Int) false) r → Ev (fun k => smithyref02_literal.j0 k s (i : Int) (e1 : Int) (pre s e1 [46])) r := by
      intro r h
      rw [hpt]
      refine Ev.step (fun k => by rw [smithyref02_literal.j0]) ?_
      refine Ev.ite_pos rfl ?_
      rw [ew]
      exact Ev.bind hrr h
    by_cases hc : e2 = e1 + 1
    · rw [if_pos hc] at hd
      refine ⟨5, e2, (e2 : Int), ?_, by decide, k2, .inr ⟨by omega, hqs _ (Ev.ite_pos (by omega) (Ev.now _))⟩⟩
      refine Ev.ite_pos hpt ?_
      rw [ew]
      refine Ev.bind hd (Ev.ite_neg (by simp only; omega) ?_)
      refine Ev.step (fun k => by rw [token_cutter_literal.j0]) ?_
      exact Ev.ite_neg (by decide) (j1_bad s e2)
    · rw [if_neg hc] at hd
      have pf : ∀ {q}, Lit s i (fun k => token_cutter_literal.j0 k (pre s e2 [101]) s (e2 : Int) (-1)) q → Lit s i (fun k => if pre s e1 [46] = true then ((token_cutter_digits.f k s (wrap64 ((e1 : Int) + 1)) (-1)).bind fun bt132 => (if bt132.2.2 < 0 then ((token_cutter_has.f bt132.1 bt132.2.1 bt132.2.2 (⟨#[101]⟩ : ByteArray)).bind fun bt135 => (token_cutter_literal.j0 k bt135.1 bt135.2.1 bt135.2.2.1 bt135.2.2.2)) else (token_cutter_literal.j0 k false bt132.1 bt132.2.1 bt132.2.2))) else ((token_cutter_row.f k s (e1 : Int) (-1) (([2, 3] : List Int))).bind fun bt170 => (if 0 ≤ (e1 : Int) then (if (e1 : Int) ≤ bt170.2.2.1 then (if bt170.2.2.1 ≤ (bt170.2.1.size : Int) then (if (bt170.2.1.extract ((e1 : Int) : Int).toNat (bt170.2.2.1 : Int).toNat).toList = ([] : List UInt8) then (token_cutter_literal.j3 k (e1 : Int) ((bt170.2.1.extract ((e1 : Int) : Int).toNat (bt170.2.2.1 : Int).toNat).toList == ([] : List UInt8)) bt170.2.1 bt170.2.2.1 bt170.2.2.2) else (if (bt170.2.1.extract ((e1 : Int) : Int).toNat (bt170.2.2.1 : Int).toNat).toList = ([105, 54, 52] : List UInt8) then (token_cutter_literal.j3 k (e1 : Int) ((bt170.2.1.extract ((e1 : Int) : Int).toNat (bt170.2.2.1 : Int).toNat).toList == ([105, 54, 52] : List UInt8)) bt170.2.1 bt170.2.2.1 bt170.2.2.2) else (if (bt170.2.1.extract ((e1 : Int) : Int).toNat (bt170.2.2.1 : Int).toNat).toList = ([105, 51, 50] : List UInt8) then (token_cutter_literal.j3 k (e1 : Int) ((bt170.2.1.extract ((e1 : Int) : Int).toNat (bt170.2.2.1 : Int).toNat).toList == ([105, 51, 50] : List UInt8)) bt170.2.1 bt170.2.2.1 bt170.2.2.2) else (token_cutter_literal.j3 k (e1 : Int) ((bt170.2.1.extract ((e1 : Int) : Int).toNat (bt170.2.2.1 : Int).toNat).toList == ([117, 56] : List UInt8)) bt170.2.1 bt170.2.2.1 bt170.2.2.2)))) else (none)) else (none)) else (none)))) q := by
        rintro q ⟨K, e, b, g1, g2, g3, g4⟩
        refine ⟨K, e, b, Ev.ite_pos hpt ?_, g2, g3, g4⟩
        rw [ew]
        refine Ev.bind hd (Ev.ite_pos (by simp only; omega) ?_)
        simp only
        rw [has_ev s e2 k2]
        simp only [Option.bind_some]
        exact g1
      refine pf ?_
      have qf : ∀ {p} , Lit s i p (fun k => smithyref02_literal.j1 k s (i : Int) (e2 : Int) (pre s e2 [101])) → Lit s i p (fun k => smithyref02_literal.j0 k s (i : Int) (e1 : Int) (pre s e1 [46])) := by
        have go : ∀ r, Ev (fun k => smithyref02_literal.j1 k s (i : Int) (e2 : Int) (pre s e2 [101])) r → Ev (fun k => smithyref02_literal.j0 k s (i : Int) (e1 : Int) (pre s e1 [46])) r := by
          intro r h
          rw [pre1 s e2] at h
          refine hqs r (Ev.ite_neg (by omega) ?_)
          by_cases hz2 : e2 < s.size
          · rw [decide_eq_true hz2, Bool.true_and] at h
            exact Ev.ite_pos (by omega) (Ev.ite_pos (by omega) h)
          · rw [decide_eq_false hz2, Bool.false_and] at h
            exact Ev.ite_neg (by omega) h
        rintro p ⟨K, e, b, g1, g2, g3, g4⟩
        exact ⟨K, e, b, g1, g2, g3, g4.imp (fun ⟨a, b, c⟩ => ⟨a, b, go _ c⟩) (fun ⟨a, c⟩ => ⟨a, go _ c⟩)⟩
      refine qf ?_
      by_cases he : pre s e2 [101] = true
      · have hz2 : e2 < s.size := by
          rw [pre1, Bool.and_eq_true, decide_eq_true_eq] at he; exact he.1
        have ew2 : wrap64 ((e2 : Int) + 1) = ((e2 + 1 : Nat) : Int) := by rw [w64 (by omega) (by omega)]; omega
        have ew3 : wrap64 (((e2 + 1 : Nat) : Int) + 1) = ((e2 + 2 : Nat) : Int) := by rw [w64 (by omega) (by omega)]; omega
        -- the place behind a sign
        by_cases hpl : pre s (e2 + 1) [43] = true
        · have hz3 : e2 + 1 < s.size := by rw [pre1, Bool.and_eq_true, decide_eq_true_eq] at hpl; exact hpl.1
          obtain ⟨K, e, b, g1, g2, g3, g4⟩ := exp_both s hs i (e2 + 2) (by omega) (by omega)
          have hj : ∀ r, Ev (fun k => smithyref02_literal.j3 k s (i : Int) ((e2 + 2 : Nat) : Int)) r → Ev (fun k => smithyref02_literal.j1 k s (i : Int) (e2 : Int) (pre s e2 [101])) r := by
            intro r h
            rw [he]
            refine Ev.step (fun k => by rw [smithyref02_literal.j1]) ?_
            refine Ev.ite_pos rfl ?_
            rw [ew2]
            have hb : bt s ((e2 + 1 : Nat) : Int) = 43 := by rw [pre1, Bool.and_eq_true, beq_iff_eq] at hpl; exact hpl.2
            refine Ev.ite_pos (by omega) (Ev.ite_pos (by omega) (Ev.ite_pos hb ?_))
            refine Ev.step (fun k => by rw [smithyref02_literal.j2]) ?_
            refine Ev.ite_pos rfl ?_
            rw [ew3]; exact h
          refine ⟨K, e, b, ?_, g2, g3, g4.imp (fun ⟨a, b, c⟩ => ⟨a, b, hj _ c⟩) (fun ⟨a, c⟩ => ⟨a, hj _ c⟩)⟩
          rw [he]
          refine Ev.step (fun k => by rw [token_cutter_literal.j0]) ?_
          refine Ev.ite_pos rfl ?_
          rw [ew2, has_ev s (e2 + 1) (by omega)]
          simp only [Option.bind_some]
          refine Ev.ite_pos hpl ?_
          rw [ew3]; exact g1
        · by_cases hmi : pre s (e2 + 1) [45] = true
          · have hz3 : e2 + 1 < s.size := by rw [pre1, Bool.and_eq_true, decide_eq_true_eq] at hmi; exact hmi.1
            obtain ⟨K, e, b, g1, g2, g3, g4⟩ := exp_both s hs i (e2 + 2) (by omega) (by omega)
            have hb : bt s ((e2 + 1 : Nat) : Int) = 45 := by rw [pre1, Bool.and_eq_true, beq_iff_eq] at hmi; exact hmi.2
            have hj : ∀ r, Ev (fun k => smithyref02_literal.j3 k s (i : Int) ((e2 + 2 : Nat) : Int)) r → Ev (fun k => smithyref02_literal.j1 k s (i : Int) (e2 : Int) (pre s e2 [101])) r := by
              intro r h
              rw [he]
              refine Ev.step (fun k => by rw [smithyref02_literal.j1]) ?_
              refine Ev.ite_pos rfl ?_
              rw [ew2]
              refine Ev.ite_pos (by omega) (Ev.ite_pos (by omega) (Ev.ite_neg (by rw [hb]; decide) ?_))
              rw [hb]
              refine Ev.step (fun k => by rw [smithyref02_literal.j2]) ?_
              refine Ev.ite_pos rfl ?_
              rw [ew3]; exact h
            refine ⟨K, e, b, ?_, g2, g3, g4.imp (fun ⟨a, b, c⟩ => ⟨a, b, hj _ c⟩) (fun ⟨a, c⟩ => ⟨a, hj _ c⟩)⟩
            rw [he]
            refine Ev.step (fun k => by rw [token_cutter_literal.j0]) ?_
            refine Ev.ite_pos rfl ?_
            rw [ew2, has_ev s (e2 + 1) (by omega)]
            simp only [Option.bind_some]
            refine Ev.ite_neg hpl ?_
            rw [has_ev s (e2 + 1) (by omega)]
            simp only [Option.bind_some]
            refine Ev.ite_pos hmi ?_
            rw [ew3]; exact g1
          · obtain ⟨K, e, b, g1, g2, g3, g4⟩ := exp_both s hs i (e2 + 1) (by omega) (by omega)
            have hj : ∀ r, Ev (fun k => smithyref02_literal.j3 k s (i : Int) ((e2 + 1 : Nat) : Int)) r → Ev (fun k => smithyref02_literal.j1 k s (i : Int) (e2 : Int) (pre s e2 [101])) r := by
              intro r h
              rw [he]
              refine Ev.step (fun k => by rw [smithyref02_literal.j1]) ?_
              refine Ev.ite_pos rfl ?_
              rw [ew2]
              have fin : ∀ t : Bool, t = false → Ev (fun k => smithyref02_literal.j2 k s (i : Int) ((e2 + 1 : Nat) : Int) t) r := by
                intro t ht
                subst ht
                refine Ev.step (fun k => by rw [smithyref02_literal.j2]) ?_
                exact Ev.ite_neg (by decide) h
              by_cases hz3 : e2 + 1 < s.size
              · rw [pre1, decide_eq_true hz3, Bool.true_and, beq_iff_eq] at hpl hmi
                exact Ev.ite_pos (by omega) (Ev.ite_pos (by omega) (Ev.ite_neg hpl (fin _ (beq_eq_false_iff_ne.mpr hmi))))
              · exact Ev.ite_neg (by omega) (fin _ rfl)
            refine ⟨K, e, b, ?_, g2, g3, g4.imp (fun ⟨a, b, c⟩ => ⟨a, b, hj _ c⟩) (fun ⟨a, c⟩ => ⟨a, hj _ c⟩)⟩
            rw [he]
            refine Ev.step (fun k => by rw [token_cutter_literal.j0]) ?_
            refine Ev.ite_pos rfl ?_
            rw [ew2, has_ev s (e2 + 1) (by omega)]
            simp only [Option.bind_some]
            refine Ev.ite_neg hpl ?_
            rw [has_ev s (e2 + 1) (by omega)]
            simp only [Option.bind_some]
            exact Ev.ite_neg hmi g1
      · obtain ⟨e, b, g1, g2, g3, g4⟩ := tail_both s hs i e2 k2
        have he' : pre s e2 [101] = false := by simpa using he
        refine ⟨5, e, b, ?_, by decide, g3, ?_⟩
        · rw [he']
          refine Ev.step (fun k => by rw [token_cutter_literal.j0]) ?_
          exact Ev.ite_neg (by decide) g1
        · rw [he']
          rcases g4 with ⟨rfl, rfl, g5⟩ | ⟨rfl, g5⟩
          · refine .inl ⟨rfl, by omega, ?_⟩
            refine Ev.step (fun k => by rw [smithyref02_literal.j1]) ?_
            exact Ev.ite_neg (by decide) g5
          · refine .inr ⟨by omega, ?_⟩
            refine Ev.step (fun k => by rw [smithyref02_literal.j1]) ?_
            exact Ev.ite_neg (by decide) g5
  · have hpt' : pre s e1 [46] = false := by simpa using hpt
    have hp5 := row_ev s hs [2, 3] (by simp) (-1) e1 h2
    have hr5 := rrow_ev s hs true e1 h2
    simp only [if_true] at hr5
    have k1 := le_rowEnd (inL [2, 3]) s e1
    have k2 := rowEnd_size (p := inL [2, 3]) h2
    generalize rowEnd (inL [2, 3]) s e1 = e5 at *
    -- the two ends
    have pj : ∀ t : Bool, Ev (fun k => token_cutter_literal.j3 k (e1 : Int) t s (e5 : Int) (-1)) (4, s, (e5 : Int), if t = true then -1 else (e1 : Int)) := by
      intro t
      refine Ev.step (fun k => by rw [token_cutter_literal.j3]) ?_
      cases t with
      | true => exact Ev.ite_pos rfl (Ev.now _)
      | false => exact Ev.ite_neg (by decide) (Ev.now _)
    have qj : ∀ t : Bool, Ev (fun k => smithyref02_literal.j6 k (i : Int) (e1 : Int) (e5 : Int) t) (if t = true then ((0 : Int), (0 : Int), (0 : Int), (e1 : Int), false) else (4, (i : Int), (e5 : Int), 0, true)) := by
      intro t
      refine Ev.step (fun k => by rw [smithyref02_literal.j6]) ?_
      cases t with
      | true => exact Ev.ite_pos rfl (Ev.now _)
      | false => exact Ev.ite_neg (by decide) (Ev.now _)
    have main : ∃ t : Bool, Ev (fun k => if (s.extract e1 e5).toList = ([] : List UInt8) then (token_cutter_literal.j3 k (e1 : Int) ((s.extract e1 e5).toList == ([] : List UInt8)) s (e5 : Int) (-1)) else (if (s.extract e1 e5).toList = ([105, 54, 52] : List UInt8) then (token_cutter_literal.j3 k (e1 : Int) ((s.extract e1 e5).toList == ([105, 54, 52] : List UInt8)) s (e5 : Int) (-1)) else (if (s.extract e1 e5).toList = ([105, 51, 50] : List UInt8) then (token_cutter_literal.j3 k (e1 : Int) ((s.extract e1 e5).toList == ([105, 51, 50] : List UInt8)) s (e5 : Int) (-1)) else (token_cutter_literal.j3 k (e1 : Int) ((s.extract e1 e5).toList == ([117, 56] : List UInt8)) s (e5 : Int) (-1))))) (4, s, (e5 : Int), if t = true then -1 else (e1 : Int)) ∧
        Ev (fun k => if (s.extract e1 e5).toList = ([] : List UInt8) then (smithyref02_literal.j6 k (i : Int) (e1 : Int) (e5 : Int) false) else (if (s.extract e1 e5).toList = ([105, 54, 52] : List UInt8) then (smithyref02_literal.j6 k (i : Int) (e1 : Int) (e5 : Int) false) else (if (s.extract e1 e5).toList = ([105, 51, 50] : List UInt8) then (smithyref02_literal.j6 k (i : Int) (e1 : Int) (e5 : Int) false) else (smithyref02_literal.j6 k (i : Int) (e1 : Int) (e5 : Int) ((s.extract e1 e5).toList != ([117, 56] : List UInt8)))))) (if (!t) = true then ((0 : Int), (0 : Int), (0 : Int), (e1 : Int), false) else (4, (i : Int), (e5 : Int), 0, true)) := by
      generalize (s.extract e1 e5).toList = x
      by_cases c1 : x = []
      · exact ⟨true, Ev.ite_pos c1 (by rw [beq_iff_eq.mpr c1]; exact pj true), Ev.ite_pos c1 (qj false)⟩
      by_cases c2 : x = [105, 54, 52]
      · exact ⟨true, Ev.ite_neg c1 (Ev.ite_pos c2 (by rw [beq_iff_eq.mpr c2]; exact pj true)), Ev.ite_neg c1 (Ev.ite_pos c2 (qj false))⟩
      by_cases c3 : x = [105, 51, 50]
      · exact ⟨true, Ev.ite_neg c1 (Ev.ite_neg c2 (Ev.ite_pos c3 (by rw [beq_iff_eq.mpr c3]; exact pj true))), Ev.ite_neg c1 (Ev.ite_neg c2 (Ev.ite_pos c3 (qj false)))⟩
      exact ⟨x == [117, 56], Ev.ite_neg c1 (Ev.ite_neg c2 (Ev.ite_neg c3 (pj _))), Ev.ite_neg c1 (Ev.ite_neg c2 (Ev.ite_neg c3 (qj _)))⟩
    obtain ⟨t, m1, m2⟩ := main
    have q1 : Ev (fun k => smithyref02_literal.j0 k s (i : Int) (e1 : Int) (pre s e1 [46])) (if (!t) = true then ((0 : Int), (0 : Int), (0 : Int), (e1 : Int), false) else (4, (i : Int), (e5 : Int), 0, true)) := by
      rw [hpt']
      refine Ev.step (fun k => by rw [smithyref02_literal.j0]) ?_
      refine Ev.ite_neg (by decide) (Ev.bind hr5 (Ev.ite_pos (by omega) (Ev.ite_pos (by omega) (Ev.ite_pos (by omega) ?_))))
      simp only [Int.toNat_natCast]
      exact m2
    refine ⟨4, e5, if t = true then -1 else (e1 : Int), Ev.ite_neg hpt (Ev.bind hp5 ?_), by decide, k2, ?_⟩
    · simp only
      refine Ev.ite_pos (by omega) (Ev.ite_pos (by omega) (Ev.ite_pos (by omega) ?_))
      simp only [Int.toNat_natCast]
      exact m1
    · cases t with
      | true => exact .inl ⟨rfl, by omega, q1⟩
      | false => exact .inr ⟨by simp, q1⟩
end Go.Proofs.Ytimnlnkjogbjfaa.Pure
