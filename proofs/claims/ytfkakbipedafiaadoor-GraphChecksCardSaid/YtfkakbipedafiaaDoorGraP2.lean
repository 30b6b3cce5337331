/- What stands ahead of the blocks, and their ends: the program and the reference alike (no program in sight; conditions: those stated). -/
import Derived.Test.YtfkakbipedafiaaDoorGraP1
namespace Go.Eng.Gra
open Go Go.Eng
set_option linter.unusedSectionVars false
set_option linter.unusedVariables false
set_option linter.unusedSimpArgs false

theorem ite_ff {c : Bool} {k : Option Bool} {b : Bool} (h : k = some b) : (if c = true then some false else k) = some (!c && b) := by cases c <;> simp [h]
theorem ite_nn {c : Bool} {k : Option Bool} {b : Bool} (h : k = some b) : (if (!c) = true then some false else k) = some (c && b) := by cases c <;> simp [h]
theorem ite_tt {c : Bool} {k : Option Bool} {b : Bool} (h : k = some b) : (if c = true then k else some false) = some (c && b) := by cases c <;> simp [h]
theorem loop_tt {q : Bool} {k : Option Bool} {b : Bool} (h : k = some b) : ((some (if q = true then Out.go () else Out.ret false) : Option (Out Bool Unit)).bind fun o => match o with | .ret r => some r | .go () => k) = some (q && b) := by cases q <;> simp [h]
theorem part0 {α : Type} {l : List α} {i : Nat} (h : i ≤ l.length) : part l 0 (i : Int) = some (l.take i) := by
  unfold part
  rw [if_pos ⟨by omega, by omega, by omega⟩]; simp

/-- sizes of a graph -/
structure SzG (g : T_Graph) : Prop where
  params : Sz g.fParams
  vars : Sz g.fVars
  arrays : Sz g.fArrays
  blocks : Sz g.fBlocks
  ins : ∀ b ∈ g.fBlocks, Sz b.fIns
  args : ∀ b ∈ g.fBlocks, ∀ x ∈ b.fIns, Sz x.fArgs
  bits : ∀ b ∈ g.fBlocks, ∀ x ∈ b.fIns, 0 ≤ x.fBits ∧ x.fBits < 18446744073709551616

def okA (a : T_Array) : Bool := ty a.fType && (!decide (a.fSize < 1) && !decide (a.fSize > 256))
def hdV (g : T_Graph) (q : Bool) : Bool :=
  !decide (((List.length g.fBlocks : Nat) : Int) < (1 : Int)) && (!decide (((List.length g.fBlocks : Nat) : Int) > (1048576 : Int)) && (!decide (((List.length g.fVars : Nat) : Int) > (1048576 : Int)) && (!decide (((List.length g.fArrays : Nat) : Int) > (1048576 : Int)) && (!decide (((List.length g.fParams : Nat) : Int) > (8 : Int)) && (ty g.fResult && q)))))
def once (l : List Int) : Bool := allI (fun i v => !((l.take i).any (v == ·))) 0 l
def hd (g : T_Graph) : Bool := hdV g (g.fVars.all ty && (g.fArrays.all okA && ((g.fParams.all (fun v => inb v g.fVars.length) && once g.fParams) && true)))

theorem F59_is (g : T_Graph) (hs : SzG g) : F59 g = some (hd g) := by
  have h1 := hs.params; have h2 := hs.vars; have h3 := hs.arrays
  unfold Sz at h1 h2 h3
  have e1 : iter (fun s : (Int) => F59_1_b g s) FUEL (0 : Int) = some (if g.fVars.all ty = true then Out.go () else Out.ret false) := by
    rw [← allI_const ty 0]
    refine loop_all (fun _ t => ty t) (by omega) (fun i a h => ?_) ?_
    · have := lt_of h
      simp only [F59_1_b, lt_dec this, if_true, idx_some h, Option.bind_some, F78_is, wnat (show i ≤ 4611686018427387904 by omega)]
      cases ty a <;> rfl
    · simp only [F59_1_b, ge_dec, Bool.false_eq_true, if_false]
  have e2 : iter (fun s : (Int) => F59_2_b g s) FUEL (0 : Int) = some (if g.fArrays.all okA = true then Out.go () else Out.ret false) := by
    rw [← allI_const okA 0]
    refine loop_all (fun _ t => okA t) (by omega) (fun i a h => ?_) ?_
    · have := lt_of h
      simp only [F59_2_b, lt_dec this, if_true, idx_some h, Option.bind_some, F78_is, wnat (show i ≤ 4611686018427387904 by omega), okA]
      by_cases q1 : ty a.fType = true <;> by_cases q2 : a.fSize < 1 <;> by_cases q3 : a.fSize > 256 <;> simp [q1, q2, q3]
    · simp only [F59_2_b, ge_dec, Bool.false_eq_true, if_false]
  have e3 : iter (fun s : (Int) => F59_3_b g s) FUEL (0 : Int) = some (if (g.fParams.all (fun v => inb v g.fVars.length) && once g.fParams) = true then Out.go () else Out.ret false) := by
    rw [← allI_const (fun v => inb v g.fVars.length) 0, once, ← allI_and]
    refine loop_all (fun i v => inb v g.fVars.length && !((g.fParams.take i).any (v == ·))) (by omega) (fun i a h => ?_) ?_
    · have := lt_of h
      simp only [F59_3_b, lt_dec this, if_true, idx_some h, Option.bind_some, in34', part0 (Nat.le_of_lt this), F79_is (g.fParams.take i) a (by unfold Sz; rw [List.length_take]; omega), wnat (show i ≤ 4611686018427387904 by omega)]
      cases inb a g.fVars.length <;> cases (g.fParams.take i).any (a == ·) <;> rfl
    · simp only [F59_3_b, ge_dec, Bool.false_eq_true, if_false]
  unfold F59 hd hdV
  rw [e1, e2, e3, F78_is, Option.bind_some]
  exact ite_ff (ite_ff (ite_ff (ite_ff (ite_ff (ite_nn (loop_tt (loop_tt (loop_tt rfl))))))))
theorem F82_is (g : T_Graph) (hs : SzG g) : F82 g = some (hd g) := by
  have h1 := hs.params; have h2 := hs.vars; have h3 := hs.arrays
  have h4 := F86_is g g.fParams h1
  unfold Sz at h1 h2 h3
  have e1 : iter (fun s : (Int) => F82_1_b g s) FUEL (0 : Int) = some (if g.fVars.all ty = true then Out.go () else Out.ret false) := by
    rw [← allI_const ty 0]
    refine loop_all (fun _ t => ty t) (by omega) (fun i a h => ?_) ?_
    · have := lt_of h
      simp only [F82_1_b, lt_dec this, if_true, idx_some h, Option.bind_some, F91_is, wnat (show i ≤ 4611686018427387904 by omega)]
      cases ty a <;> rfl
    · simp only [F82_1_b, ge_dec, Bool.false_eq_true, if_false]
  have e2 : iter (fun s : (Int) => F82_2_b g s) FUEL (0 : Int) = some (if g.fArrays.all okA = true then Out.go () else Out.ret false) := by
    rw [← allI_const okA 0]
    refine loop_all (fun _ t => okA t) (by omega) (fun i a h => ?_) ?_
    · have := lt_of h
      simp only [F82_2_b, lt_dec this, if_true, idx_some h, Option.bind_some, F91_is, wnat (show i ≤ 4611686018427387904 by omega), okA]
      by_cases q1 : ty a.fType = true <;> by_cases q2 : a.fSize < 1 <;> by_cases q3 : a.fSize > 256 <;> simp [q1, q2, q3]
    · simp only [F82_2_b, ge_dec, Bool.false_eq_true, if_false]
  have e3 : iter (fun s : (Int) => F82_3_b g s) FUEL (0 : Int) = some (if once g.fParams = true then Out.go () else Out.ret false) := by
    rw [once]
    refine loop_all (fun i v => !((g.fParams.take i).any (v == ·))) (by omega) (fun i a h => ?_) ?_
    · have := lt_of h
      obtain ⟨r, hr1, hr2⟩ := F49_is (g.fParams.take i) a (by unfold Sz; rw [List.length_take]; omega)
      simp only [F82_3_b, lt_dec this, if_true, idx_some h, Option.bind_some, part0 (Nat.le_of_lt this), hr1, hr2, wnat (show i ≤ 4611686018427387904 by omega)]
      cases (g.fParams.take i).any (a == ·) <;> rfl
    · simp only [F82_3_b, ge_dec, Bool.false_eq_true, if_false]
  have e : hd g = hdV g (g.fParams.all (fun v => inb v g.fVars.length) && (g.fVars.all ty && (g.fArrays.all okA && (once g.fParams && true)))) := by
    unfold hd
    congr 1
    cases g.fParams.all (fun v => inb v g.fVars.length) <;> cases g.fVars.all ty <;> cases g.fArrays.all okA <;> cases once g.fParams <;> rfl
  rw [e]
  unfold F82 hdV
  rw [e1, e2, e3, F91_is, Option.bind_some, h4, Option.bind_some]
  exact ite_ff (ite_ff (ite_ff (ite_ff (ite_ff (ite_tt (ite_nn (loop_tt (loop_tt (loop_tt rfl)))))))))

/-- a block, but not the entry -/
def blkV (x : Int) (n : Nat) : Bool := decide (x > 0) && decide (x < (n : Int))
theorem F80_is (x : Int) (g : T_Graph) : F80 x g = some (blkV x g.fBlocks.length) := by unfold F80 blkV; by_cases h : 0 < x <;> simp [h]
theorem F92_is (x : Int) (n : Nat) : F92 x (n : Int) = some (blkV x n) := by unfold F92 blkV; by_cases h : 0 < x <;> simp [h]
def ofV (w : Int) (t : T_Term) (g : T_Graph) : Bool := inb t.fArg g.fVars.length && (tv g.fVars t.fArg == w)
theorem F81_is (w : Int) (t : T_Term) (g : T_Graph) : F81 w t g = some (ofV w t g) := by
  unfold F81 ofV
  rw [in34', Option.bind_some]
  cases h : inb t.fArg g.fVars.length
  · rfl
  · simp only [if_true, idx_tv h, Option.bind_some, Bool.true_and]
def endV (g : T_Graph) (t : T_Term) : Bool :=
  if t.fKind = 1 then blkV t.fTo.a0 g.fBlocks.length && ((t.fTo.a1 == 0) && ((t.fArg == 0) && (t.fTrap == 0)))
  else if t.fKind = 2 then blkV t.fTo.a0 g.fBlocks.length && (blkV t.fTo.a1 g.fBlocks.length && (ofV 1 t g && (t.fTrap == 0)))
  else if t.fKind = 3 then ofV g.fResult t g && (decide (t.fTo = ⟨0, 0⟩) && (t.fTrap == 0))
  else if t.fKind = 4 then decide (t.fTrap ≥ 1) && (decide (t.fTrap ≤ 3) && ((t.fArg == 0) && decide (t.fTo = ⟨0, 0⟩)))
  else false
theorem beq_dec (a b : Int) : (a == b) = decide (a = b) := by by_cases h : a = b <;> simp [h]
theorem F60_is (g : T_Graph) (t : T_Term) : F60 g t = some (endV g t) := by
  unfold F60 endV
  simp only [F80_is, F81_is, Option.bind_some]
  by_cases h1 : t.fKind = 1
  · rw [if_pos (show (t.fKind == 1) = true by simp [h1]), if_pos h1]
    exact ite_tt (ite_tt (ite_tt rfl))
  rw [if_neg (show ¬ (t.fKind == 1) = true by simp [h1]), if_neg h1]
  by_cases h2 : t.fKind = 2
  · rw [if_pos (show (t.fKind == 2) = true by simp [h2]), if_pos h2]
    exact ite_tt (ite_tt (ite_tt rfl))
  rw [if_neg (show ¬ (t.fKind == 2) = true by simp [h2]), if_neg h2]
  by_cases h3 : t.fKind = 3
  · rw [if_pos (show (t.fKind == 3) = true by simp [h3]), if_pos h3]
    exact ite_tt (ite_tt rfl)
  rw [if_neg (show ¬ (t.fKind == 3) = true by simp [h3]), if_neg h3]
  by_cases h4 : t.fKind = 4
  · rw [if_pos (show (t.fKind == 4) = true by simp [h4]), if_pos h4]
    exact ite_tt (ite_tt (ite_tt rfl))
  rw [if_neg (show ¬ (t.fKind == 4) = true by simp [h4]), if_neg h4]
theorem F83_is (g : T_Graph) (t : T_Term) : F83 g t = some (endV g t) := by
  have key : ∀ y, (t.fKind = 2 → y = (blkV t.fTo.a0 g.fBlocks.length && blkV t.fTo.a1 g.fBlocks.length)) → F83_j1 g t y = some (endV g t) := by
    intro y hy
    obtain ⟨k, a, ⟨t0, t1⟩, tr⟩ := t
    unfold F83_j1 endV
    simp only [F92_is, in38', Option.bind_some, beq_dec k, decide_eq_true_eq]
    split
    · rename_i hk; subst hk
      simp only [T_Term.mk.injEq, T_2int.mk.injEq, true_and, and_true]
      cases blkV t0 g.fBlocks.length
      · rfl
      · simp only [if_true, Bool.true_and]
        by_cases h1 : a = 0 <;> by_cases h2 : t1 = 0 <;> by_cases h3 : tr = 0 <;> simp [h1, h2, h3]
    · split
      · rename_i _ hk; subst hk
        rw [hy rfl]
        simp only [ofV]
        cases blkV t0 g.fBlocks.length <;> cases blkV t1 g.fBlocks.length
        · rfl
        · rfl
        · rfl
        · simp only [Bool.and_self, Bool.true_and, if_true]
          cases h : inb a g.fVars.length
          · rfl
          · simp only [if_true, idx_tv h, Option.bind_some, Bool.true_and]
            cases (tv g.fVars a == 1) <;> rfl
      · split
        · rename_i _ _ hk; subst hk
          simp only [ofV]
          cases h : inb a g.fVars.length
          · rfl
          · simp only [if_true, idx_tv h, Option.bind_some, Bool.true_and, T_Term.mk.injEq, T_2int.mk.injEq, true_and]
            cases (tv g.fVars a == g.fResult)
            · rfl
            · simp only [if_true, Bool.true_and]
              by_cases h1 : t0 = 0 <;> by_cases h2 : t1 = 0 <;> by_cases h3 : tr = 0 <;> simp [h1, h2, h3]
        · split
          · rename_i _ _ _ hk; subst hk
            simp only [T_Term.mk.injEq, T_2int.mk.injEq, true_and, and_true]
            by_cases q1 : 1 ≤ tr <;> by_cases q2 : tr ≤ 3 <;> by_cases h1 : a = 0 <;> by_cases h2 : t0 = 0 <;> by_cases h3 : t1 = 0 <;> simp [h1, h2, h3, q1, q2]
          · rfl
  unfold F83
  simp only [F92_is, Option.bind_some]
  cases h : blkV t.fTo.a0 g.fBlocks.length
  · exact key false (fun _ => by rw [h]; rfl)
  · exact key _ (fun _ => by rw [h]; rfl)
end Go.Eng.Gra
