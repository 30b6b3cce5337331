/- Signs, and whole sources: the program's Scan and the document's come to the same answer (no condition but the size of a text that a machine holds). -/
import Derived.Test.YtimnlnkjogbjfaaLemD
namespace Go.Proofs.Ytimnlnkjogbjfaa.Pure
set_option linter.unusedVariables false
open Go.RowKit Go.Proofs.Ytimnlnkjogbjfaa.X Go.Proofs.YtimnlnkjogbjfaaW.PrintWords Go.Proofs.YtimnlnkjogbjfaaW.PrintLast

def TWOS : List ByteArray := [(⟨#[61, 61]⟩ : ByteArray), (⟨#[33, 61]⟩ : ByteArray), (⟨#[60, 61]⟩ : ByteArray), (⟨#[62, 61]⟩ : ByteArray), (⟨#[60, 60]⟩ : ByteArray), (⟨#[62, 62]⟩ : ByteArray), (⟨#[38, 38]⟩ : ByteArray), (⟨#[124, 124]⟩ : ByteArray)]
def twoAt (s : ByteArray) (i : Nat) (l : List ByteArray) : Bool := l.any (fun p => pre s i p.data.toList)
theorem sign_l0 (s : ByteArray) (hs : s.size ≤ 140737488351232) (l : List ByteArray) (hl : l.length ≤ 1000) (i : Nat) (hi : i ≤ s.size) (bad : Int) (d : Nat) : ∀ q : Nat, l.length - q = d → q ≤ l.length →
    Ev (fun k => token_cutter_sign.l0 k l (l.length : Int) (q : Int) s (i : Int) bad) (6, s, if twoAt s i (l.drop q) = true then ((i + 2 : Nat) : Int) else ((i + 1 : Nat) : Int), bad) := by
  induction d with
  | zero =>
    intro q h h0
    refine Ev.step (fun k => by rw [token_cutter_sign.l0]) ?_
    refine Ev.ite_neg (by omega) ?_
    rw [List.drop_eq_nil_of_le (by omega), w64 (by omega) (by omega)]
    exact Ev.now _
  | succ d ih =>
    intro q h h0
    have hq : q < l.length := by omega
    refine Ev.step (fun k => by rw [token_cutter_sign.l0]) ?_
    refine Ev.ite_pos (by omega) (Ev.ite_pos (by omega) (Ev.ite_pos (by omega) ?_))
    have he : rdOf ByteArray.empty l (q : Int) = l[q] := by unfold rdOf; rw [Int.toNat_natCast, List.getD_eq_getElem?_getD, List.getElem?_eq_getElem hq]; rfl
    rw [he, has_ev s i hi]
    simp only [Option.bind_some]
    rw [List.drop_eq_getElem_cons hq]
    unfold twoAt
    rw [List.any_cons]
    by_cases hp : pre s i (l[q]).data.toList = true
    · refine Ev.ite_pos hp ?_
      rw [hp, Bool.true_or, if_pos rfl, w64 (x := (i : Int) + 1) (by omega) (by omega), w64 (by omega) (by omega), show (i : Int) + 1 + 1 = ((i + 2 : Nat) : Int) by omega]
      exact Ev.now _
    · refine Ev.ite_neg hp ?_
      have hp' : pre s i (l[q]).data.toList = false := by simpa using hp
      rw [hp', Bool.false_or, w64 (by omega) (by omega), show (q : Int) + 1 = ((q + 1 : Nat) : Int) by omega]
      exact ih (q + 1) (by omega) (by omega)
theorem sign_prog (s : ByteArray) (hs : s.size ≤ 140737488351232) (i : Nat) (hi : i ≤ s.size) (bad : Int) :
    Ev (fun k => token_cutter_sign.f k s (i : Int) bad) (6, s, if twoAt s i TWOS = true then ((i + 2 : Nat) : Int) else ((i + 1 : Nat) : Int), bad) := by
  refine Ev.congr (fun k => by rw [token_cutter_sign.f]) ?_
  simp only [Option.bind_some]
  exact sign_l0 s hs TWOS (by decide) i hi bad 8 0 rfl (by decide)

def TB : ByteArray := ⟨#[32, 61, 61, 32, 33, 61, 32, 60, 61, 32, 62, 61, 32, 60, 60, 32, 62, 62, 32, 38, 38, 32, 124, 124, 32]⟩
def OB : ByteArray := ⟨#[40, 41, 123, 125, 91, 93, 44, 59, 61, 60, 62, 43, 45, 42, 47, 37, 38, 124, 94, 33]⟩
theorem twos_fin : ∀ q : Fin 8, (TB.extract (3 * q.val + 1) (3 * q.val + 3)).toList = (TWOS.getD q.val ByteArray.empty).data.toList ∧ ((TWOS.getD q.val ByteArray.empty).data.toList).length = 2 := by decide +kernel
theorem ones_fin : ∀ n : Fin 256, (kindOf (n.val : Int) == 4) = ((List.range 20).any (fun q => bt OB (q : Int) == (n.val : Int))) := by decide +kernel
theorem first_fin : ∀ q : Fin 8, kindOf ((((TWOS.getD q.val ByteArray.empty).data.toList).getD 0 0).toNat : Int) = 4 := by decide +kernel
theorem pre_extract (s : ByteArray) (i : Nat) (p : List UInt8) (h : i + p.length ≤ s.size) : pre s i p = ((s.extract i (i + p.length)).toList == p) := by
  unfold pre
  rw [Bool.eq_iff_iff, List.isPrefixOf_iff_prefix, List.prefix_iff_eq_take, beq_iff_eq, ByteArray.toList_eq, Lib.extract_data, Nat.add_sub_cancel_left]
  exact ⟨fun h => h.symm, fun h => h.symm⟩
theorem pre_short (s : ByteArray) (i : Nat) (p : List UInt8) (h : ¬ i + p.length ≤ s.size) (hp : p ≠ []) : pre s i p = false := by
  unfold pre
  rw [Bool.eq_false_iff, Ne, List.isPrefixOf_iff_prefix]
  intro hq
  have := hq.length_le
  rw [List.length_drop, size_list] at this
  have : p.length ≠ 0 := fun e => hp (List.eq_nil_of_length_eq_zero e)
  omega
theorem pre_first (s : ByteArray) (i : Nat) (a : UInt8) (p : List UInt8) (h : pre s i (a :: p) = true) : i < s.size ∧ bt s (i : Int) = (a.toNat : Int) := by
  unfold pre at h
  by_cases hi : i < s.size
  · refine ⟨hi, ?_⟩
    have h' : i < s.data.toList.length := by rw [size_list]; exact hi
    rw [List.drop_eq_getElem_cons h'] at h
    simp only [List.isPrefixOf, Bool.and_eq_true, beq_iff_eq] at h
    rw [bt_get s i h', ← h.1]
  · rw [List.drop_eq_nil_of_le (by rw [size_list]; omega)] at h; cases h
/-- One-byte signs, as the document looks for them. -/
theorem rsign_l1 (s : ByteArray) (hs : s.size ≤ 140737488351232) (i : Nat) (hi : i < s.size) (d : Nat) : ∀ q : Nat, 20 - q = d → q ≤ 20 →
    Ev (fun k => smithyref02_Sign.l1 k s (i : Int) (q : Int)) (if ((List.range 20).drop q).any (fun q => bt OB (q : Int) == bt s (i : Int)) = true then 1 else 0) := by
  induction d with
  | zero =>
    intro q h h0
    refine Ev.step (fun k => by rw [smithyref02_Sign.l1]) ?_
    refine Ev.ite_neg (by omega) ?_
    rw [List.drop_eq_nil_of_le (by rw [List.length_range]; omega)]
    exact Ev.now _
  | succ d ih =>
    intro q h h0
    refine Ev.step (fun k => by rw [smithyref02_Sign.l1]) ?_
    refine Ev.ite_pos (by omega) (Ev.ite_pos (by omega) (Ev.ite_pos (by omega) (Ev.ite_pos (by omega) ?_)))
    rw [List.drop_eq_getElem_cons (by rw [List.length_range]; omega), List.any_cons, List.getElem_range]
    rw [show (⟨#[40, 41, 123, 125, 91, 93, 44, 59, 61, 60, 62, 43, 45, 42, 47, 37, 38, 124, 94, 33]⟩ : ByteArray) = OB from rfl]
    by_cases hc : bt OB (q : Int) = bt s (i : Int)
    · refine Ev.ite_pos hc ?_
      rw [beq_iff_eq.mpr hc, Bool.true_or, if_pos rfl]
      exact Ev.now _
    · refine Ev.ite_neg hc ?_
      rw [beq_eq_false_iff_ne.mpr hc, Bool.false_or, w64 (by omega) (by omega), show (q : Int) + 1 = ((q + 1 : Nat) : Int) by omega]
      exact ih (q + 1) (by omega) (by omega)
theorem one_kind (s : ByteArray) (i : Int) : ((List.range 20).any (fun q => bt OB (q : Int) == bt s i)) = (kindOf (bt s i) == 4) :=
  (byte_fin (P := fun c => (kindOf c == 4) = ((List.range 20).any (fun q => bt OB (q : Int) == c))) ones_fin (bt_range s i).1 (bt_range s i).2).symm
theorem rsign_l0 (s : ByteArray) (hs : s.size ≤ 140737488351232) (i : Nat) (hi : i < s.size) (d : Nat) : ∀ q : Nat, 8 - q = d → q ≤ 8 →
    Ev (fun k => smithyref02_Sign.l0 k s (i : Int) ((3 * q : Nat) : Int)) (if twoAt s i (TWOS.drop q) = true then 2 else if kindOf (bt s (i : Int)) = 4 then 1 else 0) := by
  have h1 := rsign_l1 s hs i hi 20 0 rfl (by decide)
  rw [List.drop_zero, one_kind] at h1
  have one : Ev (fun k => smithyref02_Sign.l1 k s (i : Int) 0) (if kindOf (bt s (i : Int)) = 4 then 1 else 0) := by
    by_cases hk : kindOf (bt s (i : Int)) = 4
    · rw [if_pos hk]; rw [if_pos (by rw [hk]; rfl)] at h1; exact h1
    · rw [if_neg hk]; rw [if_neg (by rw [beq_iff_eq]; exact hk)] at h1; exact h1
  have ew : wrap64 ((i : Int) + 2) = ((i + 2 : Nat) : Int) := by rw [w64 (by omega) (by omega)]; omega
  have off : ∀ q : Nat, q ≤ 8 → Ev (fun k => smithyref02_Sign.j1 k s (i : Int) ((3 * q : Nat) : Int) false) (if kindOf (bt s (i : Int)) = 4 then 1 else 0) := by
    intro q hq
    refine Ev.step (fun k => by rw [smithyref02_Sign.j1]) ?_
    exact Ev.ite_neg (by decide) one
  induction d with
  | zero =>
    intro q h h0
    obtain rfl : q = 8 := by omega
    refine Ev.step (fun k => by rw [smithyref02_Sign.l0]) ?_
    rw [show TWOS.drop 8 = [] from rfl, show twoAt s i [] = false from rfl, if_neg (by decide)]
    rw [ew, show (decide (wrap64 (((3 * 8 : Nat) : Int) + 2) < 25)) = false from decide_eq_false (by rw [w64 (by omega) (by omega)]; omega)]
    by_cases hz : i + 2 ≤ s.size
    · exact Ev.ite_pos (by omega) (off 8 (by decide))
    · exact Ev.ite_neg (by omega) (off 8 (by decide))
  | succ d ih =>
    intro q h h0
    have hq : q < 8 := by omega
    obtain ⟨f1, f2⟩ := twos_fin ⟨q, hq⟩
    simp only at f1 f2
    have hql : q < TWOS.length := hq
    have hg : TWOS.getD q ByteArray.empty = TWOS[q] := by rw [List.getD_eq_getElem?_getD, List.getElem?_eq_getElem hql]; rfl
    rw [hg] at f1 f2
    refine Ev.step (fun k => by rw [smithyref02_Sign.l0]) ?_
    rw [ew, decide_eq_true (show wrap64 (((3 * q : Nat) : Int) + 2) < 25 by rw [w64 (by omega) (by omega)]; omega)]
    rw [List.drop_eq_getElem_cons hql]
    unfold twoAt
    rw [List.any_cons]
    by_cases hz : i + 2 ≤ s.size
    · refine Ev.ite_pos (by omega) ?_
      refine Ev.step (fun k => by rw [smithyref02_Sign.j1]) ?_
      have e1 : wrap64 (((3 * q : Nat) : Int) + 1) = ((3 * q + 1 : Nat) : Int) := by rw [w64 (by omega) (by omega)]; omega
      have e3 : wrap64 (((3 * q : Nat) : Int) + 3) = ((3 * q + 3 : Nat) : Int) := by rw [w64 (by omega) (by omega)]; omega
      rw [ew, e1, e3]
      refine Ev.ite_pos rfl ?_
      refine Ev.ite_pos (by omega) (Ev.ite_pos (by omega) (Ev.ite_pos (by omega) (Ev.ite_pos (by omega) (Ev.ite_pos (by omega) (Ev.ite_pos (by omega) ?_)))))
      simp only [Int.toNat_natCast]
      rw [show (⟨#[32, 61, 61, 32, 33, 61, 32, 60, 61, 32, 62, 61, 32, 60, 60, 32, 62, 62, 32, 38, 38, 32, 124, 124, 32]⟩ : ByteArray) = TB from rfl]
      have hpe := pre_extract s i (TWOS[q]).data.toList (by rw [f2]; exact hz)
      rw [f2] at hpe
      by_cases hp : (TB.extract (3 * q + 1) (3 * q + 3)).toList = (s.extract i (i + 2)).toList
      · refine Ev.ite_pos hp ?_
        rw [hpe, beq_iff_eq.mpr (f1 ▸ hp).symm, Bool.true_or, if_pos rfl]
        exact Ev.now _
      · refine Ev.ite_neg hp ?_
        rw [hpe, beq_eq_false_iff_ne.mpr (fun e => hp (f1.trans e.symm)), Bool.false_or, show 3 * q + 3 = 3 * (q + 1) by omega]
        exact ih (q + 1) (by omega) (by omega)
    · refine Ev.ite_neg (by omega) ?_
      have none2 : ∀ l : List ByteArray, (∀ p ∈ l, p.data.toList.length = 2) → l.any (fun p => pre s i p.data.toList) = false := by
        intro l hl
        rw [List.any_eq_false]
        intro p hp
        rw [pre_short s i _ (by rw [hl p hp]; exact hz) (fun e => by have := hl p hp; rw [e] at this; cases this)]
        decide
      have all2 : ∀ p ∈ TWOS, p.data.toList.length = 2 := by decide +kernel
      rw [pre_short s i _ (by rw [f2]; exact hz) (fun e => by rw [e] at f2; cases f2), Bool.false_or, none2 _ (fun p hp => all2 p (List.mem_of_mem_drop hp)), if_neg (by decide)]
      exact off q (by omega)
theorem sign_ref (s : ByteArray) (hs : s.size ≤ 140737488351232) (i : Nat) (hi : i < s.size) :
    Ev (fun k => smithyref02_Sign.f k s (i : Int)) (if kindOf (bt s (i : Int)) = 4 then (if twoAt s i TWOS = true then 2 else 1) else 0) := by
  have h := rsign_l0 s hs i hi 8 0 rfl (by decide)
  rw [List.drop_zero] at h
  refine Ev.congr (fun k => by rw [smithyref02_Sign.f]) ?_
  by_cases hk : kindOf (bt s (i : Int)) = 4
  · rw [if_pos hk]; rw [if_pos hk] at h; exact h
  · rw [if_neg hk]; rw [if_neg hk] at h
    have : twoAt s i TWOS = false := by
      unfold twoAt
      rw [List.any_eq_false]
      intro p hp hq
      have : ∀ p ∈ TWOS, ∃ a r, p.data.toList = a :: r ∧ kindOf (a.toNat : Int) = 4 := by
        intro p hp
        simp only [TWOS, List.mem_cons, List.not_mem_nil, or_false] at hp
        rcases hp with rfl | rfl | rfl | rfl | rfl | rfl | rfl | rfl <;> exact ⟨_, _, rfl, by decide +kernel⟩
      obtain ⟨a, r, e, hk'⟩ := this p hp
      rw [e] at hq
      exact hk (by rw [(pre_first s i a r hq).2]; exact hk')
    rw [this, if_neg (by decide)] at h
    exact h
theorem two_size (s : ByteArray) (i : Nat) (h : twoAt s i TWOS = true) : i + 2 ≤ s.size := by
  unfold twoAt at h
  rw [List.any_eq_true] at h
  obtain ⟨p, hp, hq⟩ := h
  have all2 : ∀ p ∈ TWOS, p.data.toList.length = 2 := by decide +kernel
  have h2 := all2 p hp
  by_cases hz : i + 2 ≤ s.size
  · exact hz
  · rw [pre_short s i _ (by rw [h2]; exact hz) (fun e => by rw [e] at h2; cases h2)] at hq; cases hq

/-! ### Scan -/
theorem not_blank_at (s : ByteArray) (d : Nat) : ∀ i, s.size - i ≤ d → skipEnd s i < s.size → kindOf (bt s ((skipEnd s i : Nat) : Int)) ≠ 1 := by
  induction d with
  | zero =>
    intro i h h2
    have := le_skipEnd s i
    omega
  | succ d ih =>
    intro i h h2
    have h1 := le_rowEnd (inL [1]) s i
    rw [skipEnd] at h2 ⊢
    split at h2
    · rename_i hc
      rw [dif_pos hc]
      have h3 := not10 (show rowEnd (inL [1]) s i < s.size by omega) hc.2.1
      exact ih _ (by omega) h2
    · rename_i hc
      rw [dif_neg hc]
      have := rowEnd_at (inL [1]) s _ i rfl h2
      intro he
      generalize rowEnd (inL [1]) s i = jj at *
      unfold inL at this
      rw [he] at this
      cases this

theorem kind_range : ∀ n : Fin 256, kindOf (n.val : Int) = 0 ∨ kindOf (n.val : Int) = 1 ∨ kindOf (n.val : Int) = 2 ∨ kindOf (n.val : Int) = 3 ∨ kindOf (n.val : Int) = 4 := by decide +kernel

theorem scan_both (s : ByteArray) (hs : s.size ≤ 65536) (d : Nat) : ∀ (i : Nat) (x : List S35), i ≤ s.size → s.size - i ≤ d → x.length ≤ i →
    ∃ r, Ev (fun k => token_Scan.l0 k s s (i : Int) (-1) x) r ∧ Ev (fun k => smithyref02_Scan.l0 k s x ((skipEnd s i : Nat) : Int)) r ∧ r.1.length ≤ 65537 := by
  have hs' : s.size ≤ 140737488351232 := by omega
  induction d with
  | zero =>
    intro i x h0 h hx
    have e : skipEnd s i = s.size := by have := le_skipEnd s i; have := skipEnd_size h0; omega
    refine ⟨(x ++ [(⟨1, (s.size : Int), (s.size : Int)⟩ : S35)], 0, 0), ?_, ?_, by simp; omega⟩
    · have h1 := skip_ev s hs' (-1) i h0
      rw [e] at h1
      refine Ev.step (fun k => by rw [token_Scan.l0]) ?_
      refine Ev.bind h1 (Ev.ite_pos rfl (Ev.ite_pos (by omega) (Ev.now _)))
    · rw [e]
      refine Ev.step (fun k => by rw [smithyref02_Scan.l0]) ?_
      exact Ev.ite_neg (by omega) (Ev.ite_pos (by omega) (Ev.now _))
  | succ d ih =>
    intro i x h0 h hx
    have h1 := skip_ev s hs' (-1) i h0
    have k1 := le_skipEnd s i
    have k2 := skipEnd_size h0
    have k3 := not_blank_at s _ i (Nat.le_refl _)
    generalize skipEnd s i = j at *
    by_cases hz : j = s.size
    · subst hz
      refine ⟨(x ++ [(⟨1, (s.size : Int), (s.size : Int)⟩ : S35)], 0, 0), ?_, ?_, by simp; omega⟩
      · refine Ev.step (fun k => by rw [token_Scan.l0]) ?_
        exact Ev.bind h1 (Ev.ite_pos rfl (Ev.ite_pos (by omega) (Ev.now _)))
      · refine Ev.step (fun k => by rw [smithyref02_Scan.l0]) ?_
        exact Ev.ite_neg (by omega) (Ev.ite_pos (by omega) (Ev.now _))
    · have hj : j < s.size := by omega
      have k3' := k3 hj
      have k4 := byte_fin (P := fun c => kindOf c = 0 ∨ kindOf c = 1 ∨ kindOf c = 2 ∨ kindOf c = 3 ∨ kindOf c = 4) kind_range (bt_range s (j : Int)).1 (bt_range s (j : Int)).2
      -- the program behind a cut
      have P : ∀ (c : Int × ByteArray × Int × Int) r, Ev (fun k => (if kindOf (bt s (j : Int)) = 2 then (token_cutter_name.f k s (j : Int) (-1)) else (if kindOf (bt s (j : Int)) = 3 then (token_cutter_literal.f k s (j : Int) (-1)) else (if kindOf (bt s (j : Int)) = 4 then (token_cutter_sign.f k s (j : Int) (-1)) else (some ((0 : Int), s, (j : Int), (-1 : Int))))))) c →
          Ev (fun k => if c.1 = 0 then (some (([] : List (S35)), 120, (j : Int))) else (if c.2.2.2 ≥ 0 then (some (([] : List (S35)), 120, c.2.2.2)) else (if x.length < 5864062014805 then (token_Scan.l0 k s c.2.1 c.2.2.1 c.2.2.2 (x ++ [(⟨c.1, (j : Int), c.2.2.1⟩ : S35)])) else (none)))) r →
          Ev (fun k => token_Scan.l0 k s s (i : Int) (-1) x) r := by
        intro c r hc hr
        refine Ev.step (fun k => by rw [token_Scan.l0]) ?_
        refine Ev.bind h1 (Ev.ite_neg (by simp only; omega) (Ev.ite_pos (by simp only; omega) (Ev.ite_pos (by simp only; omega) ?_)))
        exact Ev.bind (of_bt s (j : Int)) (Ev.bind hc hr)
      -- the document's loop behind a token
      have Q : ∀ r, Ev (fun k => (smithyref02_Letter.f (bt s (j : Int))).bind fun t228 => (if t228 = true then ((smithyref02_row.f k s (j : Int) true).bind fun t229 => (if (wrap64 (t229 - (j : Int))) > 32 then (some (([] : List (S35)), 120, (j : Int))) else (if (j : Int) ≤ t229 then (if t229 ≤ (s.size : Int) then ((smithyref02_Word.f k (s.extract ((j : Int)).toNat (t229 : Int).toNat)).bind fun t230 => (if t230 = true then (if x.length < 5864062014805 then ((smithyref02_skip.f k s t229).bind fun t234 => (smithyref02_Scan.l0 k s (x ++ [(⟨3, (j : Int), t229⟩ : S35)]) t234)) else (none)) else (if x.length < 5864062014805 then ((smithyref02_skip.f k s t229).bind fun t238 => (smithyref02_Scan.l0 k s (x ++ [(⟨2, (j : Int), t229⟩ : S35)]) t238)) else (none)))) else (none)) else (none)))) else ((smithyref02_Digit.f (bt s (j : Int))).bind fun t239 => (if t239 = true then ((smithyref02_literal.f k s (j : Int)).bind fun bt240 => (if bt240.2.2.2.2 = true then (if x.length < 5864062014805 then ((smithyref02_skip.f k s bt240.2.2.1).bind fun t249 => (smithyref02_Scan.l0 k s (x ++ [(⟨bt240.1, bt240.2.1, bt240.2.2.1⟩ : S35)]) t249)) else (none)) else (some (([] : List (S35)), 120, bt240.2.2.2.1)))) else ((smithyref02_Sign.f k s (j : Int)).bind fun t250 => (if t250 = 0 then (some (([] : List (S35)), 120, (j : Int))) else (if x.length < 5864062014805 then ((smithyref02_skip.f k s (wrap64 ((j : Int) + t250))).bind fun t254 => (smithyref02_Scan.l0 k s (x ++ [(⟨6, (j : Int), wrap64 ((j : Int) + t250)⟩ : S35)]) t254)) else (none)))))))) r →
          Ev (fun k => smithyref02_Scan.l0 k s x (j : Int)) r := by
        intro r hr
        refine Ev.step (fun k => by rw [smithyref02_Scan.l0]) ?_
        exact Ev.ite_pos (by omega) (Ev.ite_pos (by omega) hr)
      simp only [letter_bt, digit_bt, Option.bind_some] at Q
      rcases k4 with hk | hk | hk | hk | hk
      · -- no sort
        refine ⟨([], 120, (j : Int)), P _ _ (Ev.ite_neg (by omega) (Ev.ite_neg (by omega) (Ev.ite_neg (by omega) (Ev.now _)))) (Ev.ite_pos rfl (Ev.now _)), Q _ ?_, by simp⟩
        refine Ev.ite_neg (by rw [hk]; decide) (Ev.ite_neg (by rw [hk]; decide) ?_)
        have hsn := sign_ref s hs' j hj
        rw [if_neg (by omega)] at hsn
        exact Ev.bind hsn (Ev.ite_pos rfl (Ev.now _))
      · exact absurd hk k3'
      · -- a name
        have n1 := name_ev s hs' (-1) j (Nat.le_of_lt hj)
        have n2 := rrow_ev s hs' true j (Nat.le_of_lt hj)
        simp only [if_true] at n2
        have m0 : j < rowEnd (inL [2, 3]) s j := by
          rw [rowEnd_yes hj (by unfold inL; rw [hk]; rfl)]
          have := le_rowEnd (inL [2, 3]) s (j + 1); omega
        have m1 := rowEnd_size (p := inL [2, 3]) (Nat.le_of_lt hj)
        generalize rowEnd (inL [2, 3]) s j = e at *
        have eb : wrap64 ((e : Int) - (j : Int)) = (e : Int) - j := w64 (by omega) (by omega)
        by_cases hc : 32 < (e : Int) - j
        · rw [if_pos hc] at n1
          refine ⟨([], 120, (j : Int)), P _ _ (Ev.ite_pos hk n1) ?_, Q _ ?_, by simp⟩
          · refine Ev.ite_neg (by simp only; split <;> decide) (Ev.ite_pos (by simp only; omega) (Ev.now _))
          · refine Ev.ite_pos (by rw [hk]; rfl) (Ev.bind n2 ?_)
            rw [eb]
            exact Ev.ite_pos hc (Ev.now _)
        · rw [if_neg hc] at n1
          have hw := ref_word (s.extract j e) (by rw [← size_list, Lib.extract_data, List.length_take]; omega)
          have sk := rskip_ev s hs' e m1
          have fin : ∀ (K : Int), K ≠ 0 → (decide ((s.extract j e).toList ∈ WORDS) = true ↔ K = 3) → (K = 2 ∨ K = 3) → (if (s.extract j e).toList ∈ WORDS then (3 : Int) else 2) = K → ∃ r, Ev (fun k => token_Scan.l0 k s s (i : Int) (-1) x) r ∧ Ev (fun k => smithyref02_Scan.l0 k s x (j : Int)) r ∧ r.1.length ≤ 65537 := by
            intro K hK0 hK hK2 hKe
            obtain ⟨r, r1, r2, r3⟩ := ih e (x ++ [(⟨K, (j : Int), (e : Int)⟩ : S35)]) m1 (by omega) (by simp; omega)
            rw [hKe] at n1
            refine ⟨r, P _ _ (Ev.ite_pos hk n1) ?_, Q _ ?_, r3⟩
            · exact Ev.ite_neg (by simp only; exact hK0) (Ev.ite_neg (by simp only; omega) (Ev.ite_pos (by omega) r1))
            · refine Ev.ite_pos (by rw [hk]; rfl) (Ev.bind n2 ?_)
              rw [eb]
              refine Ev.ite_neg (by omega) (Ev.ite_pos (by omega) (Ev.ite_pos (by omega) ?_))
              simp only [Int.toNat_natCast]
              refine Ev.bind hw ?_
              rcases hK2 with rfl | rfl
              · exact Ev.ite_neg (fun hh => by have := hK.mp hh; omega) (Ev.ite_pos (by omega) (Ev.bind sk r2))
              · exact Ev.ite_pos (hK.mpr rfl) (Ev.ite_pos (by omega) (Ev.bind sk r2))
          by_cases hW : (s.extract j e).toList ∈ WORDS
          · exact fin 3 (by decide) ⟨fun _ => rfl, fun _ => decide_eq_true hW⟩ (.inr rfl) (by rw [if_pos hW])
          · exact fin 2 (by decide) ⟨fun hh => absurd (of_decide_eq_true hh) hW, fun hh => absurd hh (by decide)⟩ (.inl rfl) (by rw [if_neg hW])
      · -- a literal
        obtain ⟨K, e, b, g1, g2, g3, g4⟩ := lit_both s hs' j hj hk
        rcases g4 with ⟨rfl, g5, g6⟩ | ⟨g5, g6⟩
        · obtain ⟨r, r1, r2, r3⟩ := ih e (x ++ [(⟨K, (j : Int), (e : Int)⟩ : S35)]) g3 (by omega) (by simp; omega)
          refine ⟨r, P _ _ (Ev.ite_neg (by omega) (Ev.ite_pos hk g1)) ?_, Q _ ?_, r3⟩
          · exact Ev.ite_neg (by simp only; exact g2) (Ev.ite_neg (by simp only; omega) (Ev.ite_pos (by omega) r1))
          · refine Ev.ite_neg (by rw [hk]; decide) (Ev.ite_pos (by rw [hk]; rfl) (Ev.bind g6 ?_))
            exact Ev.ite_pos rfl (Ev.ite_pos (by omega) (Ev.bind (rskip_ev s hs' e g3) r2))
        · refine ⟨([], 120, b), P _ _ (Ev.ite_neg (by omega) (Ev.ite_pos hk g1)) ?_, Q _ ?_, by simp⟩
          · exact Ev.ite_neg (by simp only; exact g2) (Ev.ite_pos (by simp only; omega) (Ev.now _))
          · refine Ev.ite_neg (by rw [hk]; decide) (Ev.ite_pos (by rw [hk]; rfl) (Ev.bind g6 ?_))
            exact Ev.ite_neg (by simp) (Ev.now _)
      · -- a sign
        have s1 := sign_prog s hs' j (Nat.le_of_lt hj) (-1)
        have s2 := sign_ref s hs' j hj
        rw [if_pos hk] at s2
        have fin : ∀ n : Nat, (n = 1 ∨ n = 2) → j + n ≤ s.size → Ev (fun k => token_cutter_sign.f k s (j : Int) (-1)) (6, s, ((j + n : Nat) : Int), -1) → Ev (fun k => smithyref02_Sign.f k s (j : Int)) (n : Int) → ∃ r, Ev (fun k => token_Scan.l0 k s s (i : Int) (-1) x) r ∧ Ev (fun k => smithyref02_Scan.l0 k s x (j : Int)) r ∧ r.1.length ≤ 65537 := by
          intro n hn hn2 t1 t2
          obtain ⟨r, r1, r2, r3⟩ := ih (j + n) (x ++ [(⟨6, (j : Int), ((j + n : Nat) : Int)⟩ : S35)]) hn2 (by omega) (by simp; omega)
          have ew : wrap64 ((j : Int) + (n : Int)) = ((j + n : Nat) : Int) := by rw [w64 (by omega) (by omega)]; omega
          refine ⟨r, P _ _ (Ev.ite_neg (by omega) (Ev.ite_neg (by omega) (Ev.ite_pos hk t1))) ?_, Q _ ?_, r3⟩
          · exact Ev.ite_neg (by simp only; decide) (Ev.ite_neg (by simp only; omega) (Ev.ite_pos (by omega) r1))
          · refine Ev.ite_neg (by rw [hk]; decide) (Ev.ite_neg (by rw [hk]; decide) (Ev.bind t2 ?_))
            rw [ew]
            exact Ev.ite_neg (by omega) (Ev.ite_pos (by omega) (Ev.bind (rskip_ev s hs' (j + n) hn2) r2))
        by_cases ht : twoAt s j TWOS = true
        · rw [if_pos ht] at s1 s2
          exact fin 2 (.inr rfl) (two_size s j ht) s1 s2
        · rw [if_neg ht] at s1 s2
          exact fin 1 (.inl rfl) (by omega) s1 s2

/-- THE PROGRAM'S Scan AND THE DOCUMENT'S come to one answer. -/
theorem scan_same (s : ByteArray) (hs : s.size ≤ 140737488351232) : ∃ r, Ev (fun k => token_Scan.f k s) r ∧ Ev (fun k => smithyref02_Scan.f k s) r ∧ r.1.length ≤ 65537 := by
  by_cases hc : (s.size : Int) > 65536
  · exact ⟨([], 3, 0), Ev.congr (fun k => by rw [token_Scan.f]) (Ev.ite_pos hc (Ev.now _)), Ev.congr (fun k => by rw [smithyref02_Scan.f]) (Ev.ite_pos hc (Ev.now _)), by simp⟩
  · obtain ⟨r, r1, r2, r3⟩ := scan_both s (by omega) _ 0 [] (Nat.zero_le _) (Nat.le_refl _) (Nat.zero_le _)
    have r1' : Ev (fun k => token_Scan.l0 k s s 0 (-1) []) r := r1
    have r2' : Ev (fun k => smithyref02_skip.f k s 0) ((skipEnd s 0 : Nat) : Int) := rskip_ev s hs 0 (Nat.zero_le _)
    refine ⟨r, ?_, ?_, r3⟩
    · refine Ev.congr (fun k => by rw [token_Scan.f]) ?_
      exact Ev.ite_neg hc r1'
    · refine Ev.congr (fun k => by rw [smithyref02_Scan.f]) ?_
      exact Ev.ite_neg hc (Ev.bind r2' r2)
theorem same_l0 (l : List S35) (hl : l.length ≤ 1000000) (d : Nat) : ∀ q : Nat, l.length - q = d → q ≤ l.length → Ev (fun k => smithylaw02_same.l0 k l l (q : Int)) true := by
  induction d with
  | zero =>
    intro q h h0
    refine Ev.step (fun k => by rw [smithylaw02_same.l0]) ?_
    exact Ev.ite_neg (by omega) (Ev.now _)
  | succ d ih =>
    intro q h h0
    refine Ev.step (fun k => by rw [smithylaw02_same.l0]) ?_
    refine Ev.ite_pos (by omega) (Ev.ite_pos (by omega) (Ev.ite_pos (by omega) (Ev.ite_neg (by simp) ?_)))
    rw [w64 (by omega) (by omega), show (q : Int) + 1 = ((q + 1 : Nat) : Int) by omega]
    exact ih (q + 1) (by omega) (by omega)
theorem same_ev (l : List S35) (hl : l.length ≤ 1000000) : Ev (fun k => smithylaw02_same.f k l l) true := by
  have h : Ev (fun k => smithylaw02_same.l0 k l l 0) true := same_l0 l hl _ 0 rfl (Nat.zero_le _)
  refine Ev.congr (fun k => by rw [smithylaw02_same.f]) ?_
  exact Ev.ite_pos rfl h
end Go.Proofs.Ytimnlnkjogbjfaa.Pure
