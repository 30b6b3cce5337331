/- Type and the reference's two parts agree (no program in sight; conditions: those stated). -/
import Derived.Test.YtfkakbipedafiaaDoorGraP6
namespace Go.Eng.Gra
open Go Go.Eng
set_option linter.unusedSectionVars false
set_option linter.unusedVariables false
set_option linter.unusedSimpArgs false

theorem j2_is (to : Int) (y : Bool) : ∃ t, F31_j2 to y = some (t, y) := by cases y <;> exact ⟨_, rfl⟩
/-- lists that are alike place by place -/
theorem allI_eq {h : Int → Int} (b : List Int) : ∀ (l : List Int) (i : Nat), l.length + i = b.length → allI (fun i x => decide (b[i]? = some (h x))) i l = decide (l.map h = b.drop i)
  | [], i, hl => by
    have : b.drop i = [] := List.drop_eq_nil_of_le (by simp at hl; omega)
    rw [this]; rfl
  | x :: l, i, hl => by
    have hi : i < b.length := by simp at hl; omega
    have ih := allI_eq (h := h) b l (i + 1) (by simp at hl; omega)
    rw [allI, ih, List.drop_eq_getElem_cons hi, List.getElem?_eq_getElem hi, List.map_cons, Bool.eq_iff_iff]
    simp only [decide_eq_true_eq, Bool.and_eq_true, List.cons.injEq, Option.some.injEq]
    exact ⟨fun ⟨a, c⟩ => ⟨a.symm, c⟩, fun ⟨a, c⟩ => ⟨a.symm, c⟩⟩
theorem len_two {α : Type} {l : List α} (h : l.length = 2) : ∃ a c, l = [a, c] := by
  match l, h with
  | [a, c], _ => exact ⟨a, c, rfl⟩
theorem F63_loop (g : T_Graph) (x : T_Ins) (f : T_Graph) (hx : Sz x.fArgs) (hA : (x.fArgs.all fun v => inb v g.fVars.length) = true) (hP : (f.fParams.all fun v => inb v f.fVars.length) = true) (hl : f.fParams.length = x.fArgs.length) :
    iter (fun s : (Int) => F63_1_b g x f s) FUEL (0 : Int) = some (if decide (f.fParams.map (tv f.fVars) = x.fArgs.map (tv g.fVars)) = true then .go () else .ret false) := by
  have e := allI_eq (h := tv g.fVars) (f.fParams.map (tv f.fVars)) x.fArgs 0 (by simp [hl])
  rw [List.drop_zero] at e
  have e2 : decide (f.fParams.map (tv f.fVars) = x.fArgs.map (tv g.fVars)) = decide (x.fArgs.map (tv g.fVars) = f.fParams.map (tv f.fVars)) := decide_eq_decide.mpr eq_comm
  rw [e2, ← e]
  unfold Sz at hx
  refine loop_all (fun i a => decide ((f.fParams.map (tv f.fVars))[i]? = some (tv g.fVars a))) (by omega) (fun i a h => ?_) ?_
  · have hil := lt_of h
    have hp : f.fParams[i]? = some f.fParams[i] := List.getElem?_eq_getElem (by omega)
    have h1 : inb a g.fVars.length = true := List.all_eq_true.1 hA a (List.mem_of_getElem? h)
    have h2 : inb f.fParams[i] f.fVars.length = true := List.all_eq_true.1 hP _ (List.getElem_mem _)
    simp only [F63_1_b, lt_dec hil, if_true, idx_some h, idx_some hp, Option.bind_some, idx_tv h1, idx_tv h2, wnat (show i ≤ 4611686018427387904 by omega), List.getElem?_map, hp, Option.map_some]
    by_cases hq : tv g.fVars a = tv f.fVars f.fParams[i]
    · have q1 : (tv g.fVars a != tv f.fVars f.fParams[i]) = false := by simp [hq]
      have q2 : decide (some (tv f.fVars f.fParams[i]) = some (tv g.fVars a)) = true := by simp [hq]
      rw [q1, q2]; rfl
    · have q1 : (tv g.fVars a != tv f.fVars f.fParams[i]) = true := by simp [hq]
      have q2 : decide (some (tv f.fVars f.fParams[i]) = some (tv g.fVars a)) = false := decide_eq_false (fun e => hq (Option.some.inj e).symm)
      rw [q1, q2]; rfl
  · simp only [F63_1_b, ge_dec, Bool.false_eq_true, if_false]
theorem ite_nn' {c : Bool} {k : Option Bool} {b : Bool} (h : c = true → k = some b) : (if (!c) = true then some false else k) = some (c && b) := by cases c <;> simp_all
theorem ite_tt' {c : Bool} {k : Option Bool} {b : Bool} (h : c = true → k = some b) : (if c = true then k else some false) = some (c && b) := by cases c <;> simp_all
theorem loop_tt' {q : Bool} {k : Option Bool} {b : Bool} (h : q = true → k = some b) : ((some (if q = true then Out.go () else Out.ret false) : Option (Out Bool Unit)).bind fun o => match o with | .ret r => some r | .go () => k) = some (q && b) := by cases q <;> simp_all
theorem F58_is (p : List T_Graph) (x : T_Ins) (ts : List Int) (to : Int) (f : T_Graph) (hf : p[x.fRef.toNat]? = some f) (hr : inb x.fRef p.length = true) (hp : Sz f.fParams) :
    F58 p x ts to = some ((f.fParams.all fun v => inb v f.fVars.length) && (f.fResult == to && decide (f.fParams.map (tv f.fVars) = ts))) := by
  have hr' := of_decide_eq_true hr
  have hix : idx p x.fRef = some f := by unfold idx; rw [if_pos hr'.1, hf]
  unfold F58
  rw [in34', Option.bind_some, hr]
  simp only [Bool.not_true, Bool.false_eq_true, if_false, hix, Option.bind_some]
  have e : iter (fun s : (Int) => F58_1_b ts to f s) FUEL (0 : Int) = some (if (f.fParams.all fun v => inb v f.fVars.length) = true then .go () else .ret false) := by
    rw [← allI_const (fun v => inb v f.fVars.length) 0]
    unfold Sz at hp
    refine loop_all (fun _ v => inb v f.fVars.length) (by omega) (fun i a h => ?_) ?_
    · have := lt_of h
      simp only [F58_1_b, lt_dec this, if_true, idx_some h, Option.bind_some, in34', wnat (show i ≤ 4611686018427387904 by omega)]
      cases inb a f.fVars.length <;> rfl
    · simp only [F58_1_b, ge_dec, Bool.false_eq_true, if_false]
  rw [e]
  refine loop_tt' fun hP => ite_tt' fun _ => ?_
  rw [F52_is f f.fParams hp hP, Option.bind_some, F77_is _ _ (by unfold Sz at hp ⊢; simpa using hp), Option.bind_some]
theorem F63_is (p : List T_Graph) (g : T_Graph) (x : T_Ins) (f : T_Graph) (hf : p[x.fRef.toNat]? = some f) (hr : inb x.fRef p.length = true) (hp : Sz f.fParams) (hx : Sz x.fArgs) (hd : inb x.fDst g.fVars.length = true) (hA : (x.fArgs.all fun v => inb v g.fVars.length) = true) :
    F63 p g x = some (decide (f.fParams.length = x.fArgs.length) && ((f.fParams.all fun v => inb v f.fVars.length) && (tv g.fVars x.fDst == f.fResult && decide (f.fParams.map (tv f.fVars) = x.fArgs.map (tv g.fVars))))) := by
  have hr' := of_decide_eq_true hr
  have hix : idx p x.fRef = some f := by unfold idx; rw [if_pos hr'.1, hf]
  unfold F63
  rw [in38', Option.bind_some, hr]
  simp only [Bool.not_true, Bool.false_eq_true, if_false, hix, Option.bind_some, F86_is f f.fParams hp, idx_tv hd]
  by_cases hl : f.fParams.length = x.fArgs.length
  · have q : (((List.length f.fParams : Nat) : Int) != ((List.length x.fArgs : Nat) : Int)) = false := by simp [hl]
    rw [q, decide_eq_true hl]
    simp only [Bool.false_eq_true, if_false, Bool.true_and]
    refine ite_tt' fun hP => ?_
    rw [F63_loop g x f hx hA hP hl]
    have q2 : (tv g.fVars x.fDst != f.fResult) = !(tv g.fVars x.fDst == f.fResult) := rfl
    rw [q2]
    refine ite_nn ?_
    cases decide (f.fParams.map (tv f.fVars) = x.fArgs.map (tv g.fVars)) <;> rfl
  · have q : (((List.length f.fParams : Nat) : Int) != ((List.length x.fArgs : Nat) : Int)) = true := by simp; omega
    rw [q, decide_eq_false hl]; rfl
/-- operations -/
theorem op_eq (g : T_Graph) (x : T_Ins) (hd : inb x.fDst g.fVars.length = true) (hA : (x.fArgs.all fun v => inb v g.fVars.length) = true) : ∃ b, F95 g x = some b ∧ F56 x.fOp (x.fArgs.map (tv g.fVars)) (tv g.fVars x.fDst) = some b := by
  have e0 : IntKind.i64.wrap ((1 : Int) - 1) = 0 := by rw [IntKind.wrap_i64]; omega
  have e1 : IntKind.i64.wrap ((2 : Int) - 1) = 1 := by rw [IntKind.wrap_i64]; omega
  have one : ∀ a, inb a g.fVars.length = true → x.fArgs = [a] → ∃ b, F95_j1 g x 1 = some b ∧ F56_j1 x.fOp (x.fArgs.map (tv g.fVars)) (tv g.fVars x.fDst) 1 = some b := by
    intro a ha hl
    unfold F95_j1 F56_j1
    rw [hl]
    obtain ⟨r, h1, h2, h3⟩ := of_eq x.fOp (tv g.fVars a)
    simp only [List.map_cons, List.map_nil, List.length_singleton, e0, show idx [a] (0 : Int) = some a from rfl, show idx [tv g.fVars a] (0 : Int) = some (tv g.fVars a) from rfl, Option.bind_some, idx_tv ha, idx_tv hd, h1, Int.natCast_one, bne_self_eq_false, Bool.false_eq_true, if_false, beq_self_eq_true, if_true]
    by_cases ho : 1 ≤ x.fOp ∧ x.fOp ≤ 18
    · rw [decide_eq_false (show ¬ x.fOp < 1 by omega), decide_eq_false (show ¬ x.fOp > 18 by omega), h2 ho.1 ho.2]
      simp only [Bool.false_eq_true, if_false, Option.bind_some]
      cases hr : r.2
      · exact ⟨_, rfl, rfl⟩
      · refine ⟨_, rfl, ?_⟩
        simp only [if_true]
        rw [show (r.1 == tv g.fVars x.fDst) = (tv g.fVars x.fDst == r.1) from Bool.beq_comm]
    · rw [h3 ho]
      refine ⟨false, ?_, rfl⟩
      by_cases q : x.fOp < 1
      · simp [q]
      · simp [q, show x.fOp > 18 by omega]
  have two : ∀ a c, inb a g.fVars.length = true → inb c g.fVars.length = true → x.fArgs = [a, c] → ∃ b, F95_j1 g x 2 = some b ∧ F56_j1 x.fOp (x.fArgs.map (tv g.fVars)) (tv g.fVars x.fDst) 2 = some b := by
    intro a c ha hc hl
    unfold F95_j1 F56_j1
    rw [hl]
    obtain ⟨r, h1, h2, h3⟩ := of_eq x.fOp (tv g.fVars a)
    simp only [List.map_cons, List.map_nil, show ((List.length [a, c] : Nat) : Int) = 2 from rfl, show ((List.length [tv g.fVars a, tv g.fVars c] : Nat) : Int) = 2 from rfl, e1, show idx [a, c] (0 : Int) = some a from rfl, show idx [a, c] (1 : Int) = some c from rfl, show idx [tv g.fVars a, tv g.fVars c] (0 : Int) = some (tv g.fVars a) from rfl, show idx [tv g.fVars a, tv g.fVars c] (1 : Int) = some (tv g.fVars c) from rfl, Option.bind_some, idx_tv ha, idx_tv hc, idx_tv hd, h1, bne_self_eq_false, Bool.false_eq_true, if_false]
    by_cases hac : tv g.fVars a = tv g.fVars c
    · have q1 : (tv g.fVars a != tv g.fVars c) = false := by simp [hac]
      have q2 : (tv g.fVars c == tv g.fVars a) = true := by simp [hac]
      rw [q1, q2]
      simp only [Bool.false_eq_true, if_false, if_true]
      by_cases ho : 1 ≤ x.fOp ∧ x.fOp ≤ 18
      · rw [decide_eq_false (show ¬ x.fOp < 1 by omega), decide_eq_false (show ¬ x.fOp > 18 by omega), h2 ho.1 ho.2]
        simp only [Bool.false_eq_true, if_false, Option.bind_some]
        cases hr : r.2
        · exact ⟨_, rfl, rfl⟩
        · refine ⟨_, rfl, ?_⟩
          simp only [if_true]
          rw [show (r.1 == tv g.fVars x.fDst) = (tv g.fVars x.fDst == r.1) from Bool.beq_comm]
      · rw [h3 ho]
        refine ⟨false, ?_, rfl⟩
        by_cases q : x.fOp < 1
        · simp [q]
        · simp [q, show x.fOp > 18 by omega]
    · have q1 : (tv g.fVars a != tv g.fVars c) = true := by simp [hac]
      have q2 : (tv g.fVars c == tv g.fVars a) = false := beq_f (fun e => hac e.symm)
      rw [q1, q2]
      refine ⟨false, ?_, rfl⟩
      by_cases ho : 1 ≤ x.fOp ∧ x.fOp ≤ 18
      · rw [decide_eq_false (show ¬ x.fOp < 1 by omega), decide_eq_false (show ¬ x.fOp > 18 by omega), h2 ho.1 ho.2]
        simp only [Bool.false_eq_true, if_false, Option.bind_some]
        cases hr : r.2 <;> rfl
      · by_cases q : x.fOp < 1
        · simp [q]
        · simp [q, show x.fOp > 18 by omega]
  have bad : ∀ n : Nat, x.fArgs.length ≠ n → ∃ b, F95_j1 g x (n : Int) = some b ∧ F56_j1 x.fOp (x.fArgs.map (tv g.fVars)) (tv g.fVars x.fDst) (n : Int) = some b := by
    intro n hn
    have q : (((List.length x.fArgs : Nat) : Int) != (n : Int)) = true := by simp; omega
    refine ⟨false, ?_, ?_⟩
    · unfold F95_j1; rw [q]; rfl
    · unfold F56_j1; rw [List.length_map, q]; rfl
  have all1 : ∃ b, F95_j1 g x 1 = some b ∧ F56_j1 x.fOp (x.fArgs.map (tv g.fVars)) (tv g.fVars x.fDst) 1 = some b := by
    by_cases h : x.fArgs.length = 1
    · obtain ⟨a, ha⟩ := List.length_eq_one_iff.mp h
      exact one a (by rw [ha] at hA; simpa using hA) ha
    · exact bad 1 h
  have all2 : ∃ b, F95_j1 g x 2 = some b ∧ F56_j1 x.fOp (x.fArgs.map (tv g.fVars)) (tv g.fVars x.fDst) 2 = some b := by
    by_cases h : x.fArgs.length = 2
    · obtain ⟨a, c, ha⟩ := len_two h
      rw [ha] at hA
      simp at hA
      exact two a c hA.1 hA.2 ha
    · exact bad 2 h
  unfold F95 F56
  by_cases h1 : x.fOp = 17
  · have q : (x.fOp == 17) = true := by simp [h1]
    simp only [q, if_true]; exact all1
  by_cases h2 : x.fOp = 18
  · have q : (x.fOp == 17) = false := beq_f h1
    have q2 : (x.fOp == 18) = true := by simp [h2]
    simp only [q, q2, if_true, Bool.false_eq_true, if_false]; exact all1
  · have q : (x.fOp == 17) = false := beq_f h1
    have q2 : (x.fOp == 18) = false := beq_f h2
    simp only [q, q2, Bool.false_eq_true, if_false]; exact all2
end Go.Eng.Gra
