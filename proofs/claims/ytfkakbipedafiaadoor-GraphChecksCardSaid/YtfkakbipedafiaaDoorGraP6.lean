/- What an instruction may be, whole: the program and the reference alike (no program in sight; conditions: those stated). -/
import Derived.Test.YtfkakbipedafiaaDoorGraP5
namespace Go.Eng.Gra
open Go Go.Eng
set_option linter.unusedSectionVars false
set_option linter.unusedVariables false
set_option linter.unusedSimpArgs false

/-- a kind's fields, but for how many arguments there are -/
def fmC (g : T_Graph) (x : T_Ins) : Bool :=
  if x.fKind = 1 then fmV g x true false false false none false
  else if x.fKind = 2 then fmV g x true false true false (some 0) false
  else if x.fKind = 3 then fmV g x true false false false none false
  else if x.fKind = 4 then fmV g x true true false false none false
  else if x.fKind = 5 then fmV g x true false false false none false
  else if x.fKind = 6 then fmV g x true false false true none true
  else if x.fKind = 7 then fmV g x false false false true none true
  else if x.fKind = 8 then fmV g x false false false true (some 0) true
  else if x.fKind = 9 then fmV g x true false false true none false
  else if x.fKind = 10 then fmV g x false false false false none false
  else false
/-- how many arguments a kind has -/
def fmN (k : Int) : Option Nat := if k = 3 then some 1 else if k = 5 then some 1 else if k = 6 then some 1 else if k = 7 then some 2 else if k = 10 then some 1 else none
theorem kinds {k : Int} (h1 : 1 ≤ k) (h2 : k ≤ 10) : k = 1 ∨ k = 2 ∨ k = 3 ∨ k = 4 ∨ k = 5 ∨ k = 6 ∨ k = 7 ∨ k = 8 ∨ k = 9 ∨ k = 10 := by omega
theorem fm_eq (g : T_Graph) (x : T_Ins) : fm g x = (fmC g x && lnV (fmN x.fKind) x.fArgs) := by
  obtain ⟨k, op, dst, args, bits, ref⟩ := x
  by_cases h : 1 ≤ k ∧ k ≤ 10
  · rcases kinds h.1 h.2 with rfl | rfl | rfl | rfl | rfl | rfl | rfl | rfl | rfl | rfl
    all_goals
      simp only [fm, fmC, fmN, fmV, Int.reduceEq, if_true, if_false]
      generalize (args.all fun v => inb v g.fVars.length) = A
      generalize (dst == 0) = D
      generalize (op == 0) = O
      generalize (bits == 0) = B
      generalize (ref == 0) = R
      generalize inb dst g.fVars.length = D'
      generalize inb ref g.fArrays.length = R'
      simp only [lnV]
      try generalize decide (args.length = 0) = L
      try generalize decide (args.length = 1) = L
      try generalize decide (args.length = 2) = L
      cases A <;> cases D <;> cases O <;> cases B <;> cases R <;> cases D' <;> cases R' <;> simp
  · unfold fm fmC
    simp only
    rw [if_neg (by omega), if_neg (by omega), if_neg (by omega), if_neg (by omega), if_neg (by omega), if_neg (by omega), if_neg (by omega), if_neg (by omega), if_neg (by omega), if_neg (by omega), if_neg (by omega), if_neg (by omega), if_neg (by omega), if_neg (by omega), if_neg (by omega), if_neg (by omega), if_neg (by omega), if_neg (by omega), if_neg (by omega), if_neg (by omega)]
    rfl
theorem F84_cond (g : T_Graph) (x : T_Ins) (hx : Sz x.fArgs) : F84 g x = if fmC g x = true then F84_j2 g x else some false := by
  have h86 := F86_is g x.fArgs hx
  have h93 := F93_is x
  obtain ⟨k, op, dst, args, bits, ref⟩ := x
  simp only at h86 h93
  by_cases h : 1 ≤ k ∧ k ≤ 10
  · have h93 := h93 h.1 h.2
    rcases kinds h.1 h.2 with rfl | rfl | rfl | rfl | rfl | rfl | rfl | rfl | rfl | rfl
    all_goals
      unfold F84 F84_j1
      simp only [h93, h86, in38', Option.bind_some, fmC, fmV, Int.reduceEq, if_true, if_false, lnV]
      generalize F84_j2 g _ = J
      generalize (args.all fun v => inb v g.fVars.length) = A
      generalize (dst == 0) = D
      generalize (op == 0) = O
      generalize (bits == 0) = B
      generalize (ref == 0) = R
      generalize inb dst g.fVars.length = D'
      generalize inb ref g.fArrays.length = R'
      generalize decide (args.length = 0) = L
      cases A <;> cases D <;> cases O <;> cases B <;> cases R <;> cases D' <;> cases R' <;> cases L <;> rfl
  · unfold F84 fmC
    simp only
    rw [if_neg (show ¬ k = 1 by omega), if_neg (show ¬ k = 2 by omega), if_neg (show ¬ k = 3 by omega), if_neg (show ¬ k = 4 by omega), if_neg (show ¬ k = 5 by omega), if_neg (show ¬ k = 6 by omega), if_neg (show ¬ k = 7 by omega), if_neg (show ¬ k = 8 by omega), if_neg (show ¬ k = 9 by omega), if_neg (show ¬ k = 10 by omega)]
    by_cases h1 : k < 1
    · simp [h1]
    · have h2 : k > 10 := by omega
      simp [h1, h2]
end Go.Eng.Gra
