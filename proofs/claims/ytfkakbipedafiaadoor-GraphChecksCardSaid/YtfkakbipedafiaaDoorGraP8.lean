/- Type and the reference's two parts agree, whole (no program in sight; conditions: those stated). -/
import Derived.Test.YtfkakbipedafiaaDoorGraP7
namespace Go.Eng.Gra
open Go Go.Eng
set_option linter.unusedSectionVars false
set_option linter.unusedVariables false
set_option linter.unusedSimpArgs false

theorem F31_open {p : List T_Graph} {g : T_Graph} {x : T_Ins} {f : T_form} (hx : Sz x.fArgs) (hfm : fm g x = true) (hA : (x.fArgs.all fun v => inb v g.fVars.length) = true) (hf : idx G0 x.fKind = some f) (hd : f.fdst = true → inb x.fDst g.fVars.length = true) :
    F31 p g x = F31_j1 p g x (x.fArgs.map (tv g.fVars)) (if f.fdst = true then tv g.fVars x.fDst else 0) := by
  unfold F31
  rw [F51_is g x hx, Option.bind_some, hfm]
  simp only [Bool.not_true, Bool.false_eq_true, if_false]
  rw [F52_is g x.fArgs hx hA, Option.bind_some, hf, Option.bind_some]
  cases h : f.fdst
  · rfl
  · simp only [if_true, idx_tv (hd h), Option.bind_some]
theorem F31_shut {p : List T_Graph} {g : T_Graph} {x : T_Ins} (hx : Sz x.fArgs) (hfm : fm g x = false) : F31 p g x = some (0, false) := by
  unfold F31
  rw [F51_is g x hx, Option.bind_some, hfm]; rfl
theorem idx_arr {l : List T_Array} {r : Int} (h : inb r l.length = true) : ∃ a, idx l r = some a := by
  have h := of_decide_eq_true h
  unfold idx
  rw [if_pos h.1]
  exact ⟨l[r.toNat]'(by omega), List.getElem?_eq_getElem (by omega)⟩

theorem fmV_args {g : T_Graph} {x : T_Ins} {d o b r : Bool} {n : Option Nat} {arr : Bool} (h : fmV g x d o b r n arr = true) : (x.fArgs.all fun v => inb v g.fVars.length) = true := by
  unfold fmV at h; simp only [Bool.and_eq_true] at h; exact h.2.2.2.2.2.2
theorem fmC_args {g : T_Graph} {x : T_Ins} (h : fmC g x = true) : (x.fArgs.all fun v => inb v g.fVars.length) = true := by
  unfold fmC at h
  iterate 10 (split at h; · exact fmV_args h)
  cases h

theorem type_eq (p : List T_Graph) (g : T_Graph) (x : T_Ins) (hx : Sz x.fArgs) (hb0 : 0 ≤ x.fBits) (hb1 : x.fBits < 18446744073709551616) (hp : ∀ f ∈ p, Sz f.fParams) :
    ∃ (c b : Bool) (t : Int), F84 g x = some c ∧ F31 p g x = some (t, b) ∧ (x.fKind ≠ 9 → b = c) ∧ (x.fKind = 9 → (c = false → b = false) ∧ (c = true → F63 p g x = some b)) := by
  rw [F84_cond g x hx]
  cases hC : fmC g x
  case false =>
    have hfm : fm g x = false := by rw [fm_eq, hC]; rfl
    exact ⟨false, false, 0, rfl, F31_shut hx hfm, fun _ => rfl, fun _ => ⟨fun _ => rfl, fun h => by cases h⟩⟩
  simp only [if_true]
  have hk : 1 ≤ x.fKind ∧ x.fKind ≤ 10 := by
    unfold fmC at hC
    by_cases h : 1 ≤ x.fKind ∧ x.fKind ≤ 10
    · exact h
    · rw [if_neg (by omega), if_neg (by omega), if_neg (by omega), if_neg (by omega), if_neg (by omega), if_neg (by omega), if_neg (by omega), if_neg (by omega), if_neg (by omega), if_neg (by omega)] at hC
      cases hC
  cases hN : lnV (fmN x.fKind) x.fArgs
  case false =>
    have hfm : fm g x = false := by rw [fm_eq, hC, hN]; rfl
    refine ⟨false, false, 0, ?_, F31_shut hx hfm, fun _ => rfl, fun _ => ⟨fun _ => rfl, fun h => by cases h⟩⟩
    obtain ⟨k, op, dst, args, bits, ref⟩ := x
    have ne : ∀ n : Nat, args.length ≠ n → (((List.length args : Nat) : Int) == (n : Int)) = false := fun n h => beq_f (by omega)
    rcases kinds hk.1 hk.2 with rfl | rfl | rfl | rfl | rfl | rfl | rfl | rfl | rfl | rfl
    · cases hN
    · cases hN
    · have := ne 1 (by simpa [fmN, lnV] using hN)
      unfold F84_j2; simp only [Int.reduceBEq, Bool.false_eq_true, if_false, if_true]; rw [show ((1 : Int)) = ((1 : Nat) : Int) from rfl, this]; rfl
    · cases hN
    · have := ne 1 (by simpa [fmN, lnV] using hN)
      unfold F84_j2; simp only [Int.reduceBEq, Bool.false_eq_true, if_false, if_true]; rw [show ((1 : Int)) = ((1 : Nat) : Int) from rfl, this]; rfl
    · have := ne 1 (by simpa [fmN, lnV] using hN)
      unfold F84_j2; simp only [Int.reduceBEq, Bool.false_eq_true, if_false, if_true]; rw [show ((1 : Int)) = ((1 : Nat) : Int) from rfl, this]; rfl
    · have := ne 2 (by simpa [fmN, lnV] using hN)
      unfold F84_j2; simp only [Int.reduceBEq, Bool.false_eq_true, if_false, if_true]; rw [show ((2 : Int)) = ((2 : Nat) : Int) from rfl, this]; rfl
    · cases hN
    · cases hN
    · have := ne 1 (by simpa [fmN, lnV] using hN)
      unfold F84_j2; simp only [Int.reduceBEq, Bool.false_eq_true, if_false, if_true]; rw [show ((1 : Int)) = ((1 : Nat) : Int) from rfl, this]
  have hfm : fm g x = true := by rw [fm_eq, hC, hN]; rfl
  have hA : (x.fArgs.all fun v => inb v g.fVars.length) = true := fmC_args hC
  have op31 := fun f hf hd => F31_open (p := p) (f := f) hx hfm hA hf hd
  have opq := op_eq g x
  have opF := fun f hf hr hp => F58_is p x (x.fArgs.map (tv g.fVars)) (tv g.fVars x.fDst) f hf hr hp
  have op63 := fun f hf hr hp hd => F63_is p g x f hf hr hp hx hd hA
  obtain ⟨k, op, dst, args, bits, ref⟩ := x
  simp only at hk hN hA op31 hb0 hb1 opF op63 opq
  rcases kinds hk.1 hk.2 with rfl | rfl | rfl | rfl | rfl | rfl | rfl | rfl | rfl | rfl
  -- a phi
  · have hd : inb dst g.fVars.length = true := by simp only [fmC, fmV, Int.reduceEq, if_true, if_false, Bool.and_eq_true] at hC; exact hC.1
    have e := op31 _ rfl (fun _ => hd)
    simp only [F31_j1, F31_j3, Int.reduceBEq, if_true, Bool.false_eq_true, if_false] at e
    rw [F53_is _ _ (by unfold Sz at hx ⊢; simpa using hx), Option.bind_some, Bool.not_not] at e
    have e2 : F84_j2 g ⟨1, op, dst, args, bits, ref⟩ = some (args.all fun a => tv g.fVars a == tv g.fVars dst) := by
      unfold F84_j2
      simp only [Int.reduceBEq, if_true]
      have : iter (fun s : (Int) => F84_1_b g ⟨1, op, dst, args, bits, ref⟩ s) FUEL (0 : Int) = some (if (args.all fun a => tv g.fVars a == tv g.fVars dst) = true then .go () else .ret false) := by
        rw [← allI_const (fun a => tv g.fVars a == tv g.fVars dst) 0]
        unfold Sz at hx
        simp only at hx
        refine loop_all (fun _ a => tv g.fVars a == tv g.fVars dst) (by omega) (fun i a h => ?_) ?_
        · have hil := lt_of h
          have h1 : inb a g.fVars.length = true := List.all_eq_true.1 hA a (List.mem_of_getElem? h)
          simp only [F84_1_b, lt_dec hil, if_true, idx_some h, Option.bind_some, idx_tv h1, idx_tv hd, wnat (show i ≤ 4611686018427387904 by omega), bne_not]
          cases (tv g.fVars a == tv g.fVars dst) <;> rfl
        · simp only [F84_1_b, ge_dec, Bool.false_eq_true, if_false]
      rw [this]
      cases (args.all fun a => tv g.fVars a == tv g.fVars dst) <;> rfl
    obtain ⟨t, ht⟩ := j2_is (if (true : Bool) = true then tv g.fVars dst else 0) ((args.map (tv g.fVars)).all fun a => a == tv g.fVars dst)
    refine ⟨_, _, t, e2, e.trans ht, fun _ => ?_, fun h => by cases h⟩
    rw [List.all_map]; rfl
  -- a number
  · have hd : inb dst g.fVars.length = true := by simp only [fmC, fmV, Int.reduceEq, if_true, if_false, Bool.and_eq_true] at hC; exact hC.1
    have e := op31 _ rfl (fun _ => hd)
    simp only [F31_j1, F31_j3, Int.reduceBEq, if_true, Bool.false_eq_true, if_false] at e
    obtain ⟨v, h1, h2⟩ := right_eq (tv g.fVars dst) bits hb0 hb1
    obtain ⟨t, ht⟩ := j2_is (if (true : Bool) = true then tv g.fVars dst else 0) v
    refine ⟨v, v, t, ?_, ?_, fun _ => rfl, fun h => by cases h⟩
    · unfold F84_j2; simp only [Int.reduceBEq, Bool.false_eq_true, if_false, if_true, idx_tv hd, Option.bind_some, h2]
    · rw [e]; simp only [show (G0[2]'(by decide)).fdst = true from rfl, if_true, h1, Option.bind_some] at ht ⊢; exact ht
  -- a copy
  · have hd : inb dst g.fVars.length = true := by simp only [fmC, fmV, Int.reduceEq, if_true, if_false, Bool.and_eq_true] at hC; exact hC.1
    have e := op31 _ rfl (fun _ => hd)
    simp only [F31_j1, F31_j3, Int.reduceBEq, if_true, Bool.false_eq_true, if_false] at e
    obtain ⟨a, rfl⟩ : ∃ a, args = [a] := List.length_eq_one_iff.mp (by simpa [fmN, lnV] using hN)
    have ha : inb a g.fVars.length = true := by simpa using hA
    rw [F53_is _ _ (by unfold Sz; simp), Option.bind_some, Bool.not_not] at e
    obtain ⟨t, ht⟩ := j2_is (if (true : Bool) = true then tv g.fVars dst else 0) (([a].map (tv g.fVars)).all fun a => a == tv g.fVars dst)
    refine ⟨tv g.fVars a == tv g.fVars dst, _, t, ?_, e.trans ht, fun _ => by simp, fun h => by cases h⟩
    unfold F84_j2
    simp only [Int.reduceBEq, Bool.false_eq_true, if_false, if_true, List.length_singleton, Int.natCast_one, beq_self_eq_true, show idx [a] (0 : Int) = some a from rfl, Option.bind_some, idx_tv ha, idx_tv hd]
  -- an operation
  · have hd : inb dst g.fVars.length = true := by simp only [fmC, fmV, Int.reduceEq, if_true, if_false, Bool.and_eq_true] at hC; exact hC.1
    have e := op31 _ rfl (fun _ => hd)
    simp only [F31_j1, F31_j3, Int.reduceBEq, if_true, Bool.false_eq_true, if_false] at e
    obtain ⟨v, h1, h2⟩ := opq hd hA
    obtain ⟨t, ht⟩ := j2_is (if (true : Bool) = true then tv g.fVars dst else 0) v
    refine ⟨v, v, t, ?_, ?_, fun _ => rfl, fun h => by cases h⟩
    · unfold F84_j2; simp only [Int.reduceBEq, Bool.false_eq_true, if_false, if_true, h1, Option.bind_some]
    · rw [e]; simp only [show (G0[4]'(by decide)).fdst = true from rfl, if_true, h2, Option.bind_some] at ht ⊢; exact ht
  -- a turn
  · have hd : inb dst g.fVars.length = true := by simp only [fmC, fmV, Int.reduceEq, if_true, if_false, Bool.and_eq_true] at hC; exact hC.1
    have e := op31 _ rfl (fun _ => hd)
    simp only [F31_j1, F31_j3, Int.reduceBEq, if_true, Bool.false_eq_true, if_false] at e
    obtain ⟨a, rfl⟩ : ∃ a, args = [a] := List.length_eq_one_iff.mp (by simpa [fmN, lnV] using hN)
    have ha : inb a g.fVars.length = true := by simpa using hA
    obtain ⟨v, h1, h2⟩ := turns_eq (tv g.fVars dst) (tv g.fVars a)
    obtain ⟨t, ht⟩ := j2_is (if (true : Bool) = true then tv g.fVars dst else 0) v
    refine ⟨v, v, t, ?_, ?_, fun _ => rfl, fun h => by cases h⟩
    · unfold F84_j2; simp only [Int.reduceBEq, Bool.false_eq_true, if_false, if_true, List.length_singleton, Int.natCast_one, beq_self_eq_true, show idx [a] (0 : Int) = some a from rfl, Option.bind_some, idx_tv ha, idx_tv hd, h2]
    · rw [e]; simp only [show (G0[5]'(by decide)).fdst = true from rfl, if_true, List.map_cons, List.map_nil, show idx [tv g.fVars a] (0 : Int) = some (tv g.fVars a) from rfl, h1, Option.bind_some] at ht ⊢; exact ht
  -- a load
  · have hC2 := hC
    simp only [fmC, fmV, Int.reduceEq, if_true, if_false, Bool.and_eq_true] at hC2
    have hd : inb dst g.fVars.length = true := hC2.1
    have hr : inb ref g.fArrays.length = true := by simpa using hC2.2.2.2.2.2.1
    have e := op31 _ rfl (fun _ => hd)
    simp only [F31_j1, F31_j3, Int.reduceBEq, if_true, Bool.false_eq_true, if_false] at e
    obtain ⟨a, rfl⟩ : ∃ a, args = [a] := List.length_eq_one_iff.mp (by simpa [fmN, lnV] using hN)
    have ha : inb a g.fVars.length = true := by simpa using hA
    obtain ⟨w, hw⟩ := idx_arr hr
    obtain ⟨t, ht⟩ := j2_is (if (true : Bool) = true then tv g.fVars dst else 0) ((tv g.fVars a == 4) && (tv g.fVars dst == w.fType))
    refine ⟨(tv g.fVars a == 4) && (tv g.fVars dst == w.fType), _, t, ?_, ?_, fun _ => rfl, fun h => by cases h⟩
    · unfold F84_j2; simp only [Int.reduceBEq, Bool.false_eq_true, if_false, if_true, List.length_singleton, Int.natCast_one, beq_self_eq_true, show idx [a] (0 : Int) = some a from rfl, Option.bind_some, idx_tv ha, idx_tv hd, hw]
      exact ite_tt rfl
    · rw [e]; simp only [show (G0[6]'(by decide)).fdst = true from rfl, if_true, List.map_cons, List.map_nil, show idx [tv g.fVars a] (0 : Int) = some (tv g.fVars a) from rfl, hw, Option.bind_some] at ht ⊢
      cases hq : (tv g.fVars a == 4) <;> rw [hq] at ht <;> exact ht
  -- a store
  · have hC2 := hC
    simp only [fmC, fmV, Int.reduceEq, if_true, if_false, Bool.and_eq_true] at hC2
    have hr : inb ref g.fArrays.length = true := by simpa using hC2.2.2.2.2.2.1
    have e := op31 _ rfl (fun h => by cases h)
    simp only [F31_j1, F31_j3, Int.reduceBEq, if_true, Bool.false_eq_true, if_false] at e
    obtain ⟨a, c, rfl⟩ : ∃ a c, args = [a, c] := len_two (by simpa [fmN, lnV] using hN)
    have hac : inb a g.fVars.length = true ∧ inb c g.fVars.length = true := by simpa using hA
    obtain ⟨w, hw⟩ := idx_arr hr
    obtain ⟨t, ht⟩ := j2_is (0 : Int) ((tv g.fVars a == 4) && (tv g.fVars c == w.fType))
    refine ⟨(tv g.fVars a == 4) && (tv g.fVars c == w.fType), _, t, ?_, ?_, fun _ => rfl, fun h => by cases h⟩
    · unfold F84_j2; simp only [Int.reduceBEq, Bool.false_eq_true, if_false, if_true, show ((List.length [a, c] : Nat) : Int) = 2 from rfl, beq_self_eq_true, show idx [a, c] (0 : Int) = some a from rfl, show idx [a, c] (1 : Int) = some c from rfl, Option.bind_some, idx_tv hac.1, idx_tv hac.2, hw]
      exact ite_tt rfl
    · rw [e]; simp only [show (G0[7]'(by decide)).fdst = false from rfl, Bool.false_eq_true, if_false, if_true, List.map_cons, List.map_nil, show idx [tv g.fVars a, tv g.fVars c] (0 : Int) = some (tv g.fVars a) from rfl, show idx [tv g.fVars a, tv g.fVars c] (1 : Int) = some (tv g.fVars c) from rfl, hw, Option.bind_some] at ht ⊢
      cases hq : (tv g.fVars a == 4) <;> rw [hq] at ht <;> exact ht
  -- a clear
  · have e := op31 _ rfl (fun h => by cases h)
    simp only [F31_j1, F31_j3, Int.reduceBEq, if_true, Bool.false_eq_true, if_false] at e
    exact ⟨true, true, _, rfl, e.trans rfl, fun _ => rfl, fun h => by cases h⟩
  -- a call
  · have hd : inb dst g.fVars.length = true := by simp only [fmC, fmV, Int.reduceEq, if_true, if_false, Bool.and_eq_true] at hC; exact hC.1
    have e := op31 _ rfl (fun _ => hd)
    simp only [F31_j1, F31_j3, Int.reduceBEq, if_true, Bool.false_eq_true, if_false] at e
    have e2 : F84_j2 g ⟨9, op, dst, args, bits, ref⟩ = some (decide (ref ≥ 0)) := by
      unfold F84_j2; simp only [Int.reduceBEq, Bool.false_eq_true, if_false, if_true]
    cases hr : inb ref p.length
    case false =>
      have e3 : F58 p ⟨9, op, dst, args, bits, ref⟩ (args.map (tv g.fVars)) (if (true : Bool) = true then tv g.fVars dst else 0) = some false := by
        unfold F58; simp only [in34', hr, Option.bind_some, Bool.not_false, if_true]
      have e4 : F63 p g ⟨9, op, dst, args, bits, ref⟩ = some false := by
        unfold F63; simp only [in38', hr, Option.bind_some, Bool.not_false, if_true]
      obtain ⟨t, ht⟩ := j2_is (if (true : Bool) = true then tv g.fVars dst else 0) false
      refine ⟨_, false, t, e2, ?_, fun h => absurd rfl h, fun _ => ⟨fun _ => rfl, fun _ => e4⟩⟩
      rw [e]; simp only [show (G0[9]'(by decide)).fdst = true from rfl, if_true] at e3 ht ⊢; rw [e3, Option.bind_some]; exact ht
    case true =>
      have hr' := of_decide_eq_true hr
      have hf : p[ref.toNat]? = some (p[ref.toNat]'(by omega)) := List.getElem?_eq_getElem (by omega)
      have hmem : p[ref.toNat]'(by omega) ∈ p := List.getElem_mem _
      generalize p[ref.toNat]'(by omega) = f at hf hmem
      have e3 := opF f hf hr (hp f hmem)
      have e4 := op63 f hf hr (hp f hmem) hd
      have e5 : (decide (f.fParams.length = args.length) && ((f.fParams.all fun v => inb v f.fVars.length) && (tv g.fVars dst == f.fResult && decide (f.fParams.map (tv f.fVars) = args.map (tv g.fVars))))) = ((f.fParams.all fun v => inb v f.fVars.length) && (f.fResult == tv g.fVars dst && decide (f.fParams.map (tv f.fVars) = args.map (tv g.fVars)))) := by
        rw [show (f.fResult == tv g.fVars dst) = (tv g.fVars dst == f.fResult) from Bool.beq_comm]
        by_cases hl : f.fParams.length = args.length
        · rw [decide_eq_true hl, Bool.true_and]
        · have : ¬ f.fParams.map (tv f.fVars) = args.map (tv g.fVars) := fun h => hl (by simpa using congrArg List.length h)
          rw [decide_eq_false hl, decide_eq_false this]; simp
      obtain ⟨t, ht⟩ := j2_is (if (true : Bool) = true then tv g.fVars dst else 0) ((f.fParams.all fun v => inb v f.fVars.length) && (f.fResult == tv g.fVars dst && decide (f.fParams.map (tv f.fVars) = args.map (tv g.fVars))))
      refine ⟨_, _, t, e2, ?_, fun h => absurd rfl h, fun _ => ⟨fun h => ?_, fun _ => by rw [e4, e5]⟩⟩
      · rw [e]; simp only [show (G0[9]'(by decide)).fdst = true from rfl, if_true] at ht ⊢; rw [e3, Option.bind_some]; exact ht
      · exact absurd hr'.1 (of_decide_eq_false h)
  -- a print
  · have e := op31 _ rfl (fun h => by cases h)
    simp only [F31_j1, F31_j3, Int.reduceBEq, if_true, Bool.false_eq_true, if_false] at e
    obtain ⟨a, rfl⟩ : ∃ a, args = [a] := List.length_eq_one_iff.mp (by simpa [fmN, lnV] using hN)
    exact ⟨true, true, _, rfl, e.trans rfl, fun _ => rfl, fun h => by cases h⟩
end Go.Eng.Gra
