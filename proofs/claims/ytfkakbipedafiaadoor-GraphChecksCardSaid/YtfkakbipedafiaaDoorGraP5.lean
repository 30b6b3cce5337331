/- What an instruction may be: the program and the reference alike (no program in sight; conditions: those stated). -/
import Derived.Test.YtfkakbipedafiaaDoorGraP4
namespace Go.Eng.Gra
open Go Go.Eng
set_option linter.unusedSectionVars false
set_option linter.unusedVariables false
set_option linter.unusedSimpArgs false

theorem beq_f {a b : Int} (h : a ≠ b) : (a == b) = false := by simp [h]
theorem bne_t {a b : Int} (h : a ≠ b) : (a != b) = true := by simp [h]
theorem bne_not (a b : Int) : (a != b) = !(a == b) := rfl

def lnV (n : Option Nat) (l : List Int) : Bool := match n with | none => true | some k => decide (l.length = k)
/-- are a kind's fields as they must be? dst, op, bits, ref named; how many arguments (none: some); an array as ref -/
def fmV (g : T_Graph) (x : T_Ins) (d o b r : Bool) (n : Option Nat) (arr : Bool) : Bool :=
  (if d then inb x.fDst g.fVars.length else x.fDst == 0) && ((o || x.fOp == 0) && ((b || x.fBits == 0) && ((r || x.fRef == 0) && (lnV n x.fArgs && ((!arr || inb x.fRef g.fArrays.length) && x.fArgs.all fun v => inb v g.fVars.length)))))

def fm (g : T_Graph) (x : T_Ins) : Bool :=
  if x.fKind = 1 then fmV g x true false false false none false
  else if x.fKind = 2 then fmV g x true false true false (some 0) false
  else if x.fKind = 3 then fmV g x true false false false (some 1) false
  else if x.fKind = 4 then fmV g x true true false false none false
  else if x.fKind = 5 then fmV g x true false false false (some 1) false
  else if x.fKind = 6 then fmV g x true false false true (some 1) true
  else if x.fKind = 7 then fmV g x false false false true (some 2) true
  else if x.fKind = 8 then fmV g x false false false true (some 0) true
  else if x.fKind = 9 then fmV g x true false false true none false
  else if x.fKind = 10 then fmV g x false false false false (some 1) false
  else false

theorem F51_is (g : T_Graph) (x : T_Ins) (hx : Sz x.fArgs) : F51 g x = some (fm g x) := by
  have ha := F71_is x.fArgs g hx
  obtain ⟨k, op, dst, args, bits, ref⟩ := x
  simp only at ha
  by_cases h1 : k < 1
  · unfold F51 fm
    simp only [decide_eq_true h1, if_true]
    rw [if_neg (by omega), if_neg (by omega), if_neg (by omega), if_neg (by omega), if_neg (by omega), if_neg (by omega), if_neg (by omega), if_neg (by omega), if_neg (by omega), if_neg (by omega)]
  by_cases h2 : k > 10
  · unfold F51 fm
    simp only [decide_eq_false h1, decide_eq_true h2, if_true, Bool.false_eq_true, if_false]
    rw [if_neg (by omega), if_neg (by omega), if_neg (by omega), if_neg (by omega), if_neg (by omega), if_neg (by omega), if_neg (by omega), if_neg (by omega), if_neg (by omega), if_neg (by omega)]
  have fin : ∀ (d o b r : Bool) (n : Option Nat) (arr : Bool) (f : T_form), idx G0 k = some f → f.fdst = d → f.fop = o → f.fbits = b → f.fref = r → (match n with | none => f.fargs < 0 | some m => f.fargs = (m : Int)) → (arr = (r && !(k == 9))) → 
      F51 g ⟨k, op, dst, args, bits, ref⟩ = some (fmV g ⟨k, op, dst, args, bits, ref⟩ d o b r n arr) := by
    intro d o b r n arr f hf hd ho hb hr hn harr
    have e1 : F51_j1 g ⟨k, op, dst, args, bits, ref⟩ = some (args.all fun v => inb v g.fVars.length) := by
      unfold F51_j1; simp only [ha, Option.bind_some, Bool.not_not]
    have e4 : ∀ y, F51_j4 g ⟨k, op, dst, args, bits, ref⟩ f y = some (!y && ((!arr || inb ref g.fArrays.length) && args.all fun v => inb v g.fVars.length)) := by
      intro y
      unfold F51_j4
      refine ite_ff ?_
      simp only [e1, in34', Option.bind_some, hr, harr, bne_not]
      cases r
      · rfl
      · simp only [if_true, Bool.true_and, Bool.not_not]
        cases (k == 9)
        · exact ite_nn rfl
        · rfl
    have e3 : ∀ y, F51_j3 g ⟨k, op, dst, args, bits, ref⟩ f y = some (!y && (lnV n args && ((!arr || inb ref g.fArrays.length) && args.all fun v => inb v g.fVars.length))) := by
      intro y
      unfold F51_j3
      refine ite_ff ?_
      cases n with
      | none =>
        simp only at hn
        rw [decide_eq_false (show ¬ f.fargs ≥ 0 by omega)]
        simp only [Bool.false_eq_true, if_false, e4]; rfl
      | some m =>
        simp only at hn
        rw [decide_eq_true (show f.fargs ≥ 0 by omega)]
        simp only [if_true, e4, hn]
        by_cases hm : args.length = m
        · have : (((List.length args : Nat) : Int) != (m : Int)) = false := by simp [hm]
          simp [this, hm, lnV]
        · have : (((List.length args : Nat) : Int) != (m : Int)) = true := by simp; omega
          simp [this, hm, lnV]
    have e5 : ∀ y, F51_j5 g ⟨k, op, dst, args, bits, ref⟩ f y = some (!y && ((b || bits == 0) && ((r || ref == 0) && (lnV n args && ((!arr || inb ref g.fArrays.length) && args.all fun v => inb v g.fVars.length))))) := by
      intro y
      unfold F51_j5
      simp only [e3, hb, hr, bne_not]
      generalize (lnV n args && ((!arr || inb ref g.fArrays.length) && args.all fun v => inb v g.fVars.length)) = Z
      generalize (bits == 0) = A
      generalize (ref == 0) = B
      cases y <;> cases b <;> cases A <;> cases r <;> cases B <;> cases Z <;> rfl
    have e2 : ∀ y, F51_j2 g ⟨k, op, dst, args, bits, ref⟩ f y = some (!y && ((o || op == 0) && ((b || bits == 0) && ((r || ref == 0) && (lnV n args && ((!arr || inb ref g.fArrays.length) && args.all fun v => inb v g.fVars.length)))))) := by
      intro y
      unfold F51_j2
      refine ite_ff ?_
      simp only [e5, ho, bne_not]
      generalize ((b || bits == 0) && ((r || ref == 0) && (lnV n args && ((!arr || inb ref g.fArrays.length) && args.all fun v => inb v g.fVars.length)))) = Z
      generalize (op == 0) = A
      cases o <;> cases A <;> cases Z <;> rfl
    unfold F51
    simp only [decide_eq_false h1, decide_eq_false h2, Bool.false_eq_true, if_false, hf, Option.bind_some, in34', e2, hd, bne_not, fmV]
    cases d
    · cases (dst == 0) <;> rfl
    · simp only [if_true, Bool.not_not]
  have hk : k = 1 ∨ k = 2 ∨ k = 3 ∨ k = 4 ∨ k = 5 ∨ k = 6 ∨ k = 7 ∨ k = 8 ∨ k = 9 ∨ k = 10 := by omega
  rcases hk with rfl | rfl | rfl | rfl | rfl | rfl | rfl | rfl | rfl | rfl
  · exact fin true false false false none false _ rfl rfl rfl rfl rfl (by decide) rfl
  · exact fin true false true false (some 0) false _ rfl rfl rfl rfl rfl (by decide) rfl
  · exact fin true false false false (some 1) false _ rfl rfl rfl rfl rfl (by decide) rfl
  · exact fin true true false false none false _ rfl rfl rfl rfl rfl (by decide) rfl
  · exact fin true false false false (some 1) false _ rfl rfl rfl rfl rfl (by decide) rfl
  · exact fin true false false true (some 1) true _ rfl rfl rfl rfl rfl (by decide) rfl
  · exact fin false false false true (some 2) true _ rfl rfl rfl rfl rfl (by decide) rfl
  · exact fin false false false true (some 0) true _ rfl rfl rfl rfl rfl (by decide) rfl
  · exact fin true false false true none false _ rfl rfl rfl rfl rfl (by decide) rfl
  · exact fin false false false false (some 1) false _ rfl rfl rfl rfl rfl (by decide) rfl

/-- the reference's: fields that a kind does not name are 0 -/
theorem F93_is (x : T_Ins) (h1 : 1 ≤ x.fKind) (h2 : x.fKind ≤ 10) : F93 x = some (
    ((decide (x.fKind ≤ 6 ∨ x.fKind = 9)) || x.fDst == 0) && ((decide (x.fKind = 4) || x.fOp == 0) && ((decide (x.fKind = 2) || x.fBits == 0) && ((decide (6 ≤ x.fKind ∧ x.fKind ≤ 9) || x.fRef == 0) && (!decide (x.fKind = 2 ∨ x.fKind = 8) || decide (x.fArgs.length = 0)))))) := by
  obtain ⟨k, op, dst, args, bits, ref⟩ := x
  simp only at h1 h2
  have hl : (((List.length args : Nat) : Int) == 0) = decide (args.length = 0) := by
    by_cases h : args.length = 0
    · simp [h]
    · rw [decide_eq_false h]; exact beq_f (by omega)
  have hk : k = 1 ∨ k = 2 ∨ k = 3 ∨ k = 4 ∨ k = 5 ∨ k = 6 ∨ k = 7 ∨ k = 8 ∨ k = 9 ∨ k = 10 := by omega
  unfold F93 F93_j1 F93_j2 F93_j3
  simp only [hl, bne_not]
  generalize decide (args.length = 0) = q
  rcases hk with rfl | rfl | rfl | rfl | rfl | rfl | rfl | rfl | rfl | rfl <;>
    (generalize (dst == 0) = a; generalize (op == 0) = b; generalize (bits == 0) = c; generalize (ref == 0) = d; cases a <;> cases b <;> cases c <;> cases d <;> cases q <;> rfl)
end Go.Eng.Gra
