/- What the small functions answer, in plain words (no program in sight; conditions: those stated). -/
import Derived.Test.YtfkakbipedafiaaDoorGraF
import Derived.Test.YtfkakbipedafiaaDoorEngY
namespace Go.Eng.Gra
open Go Go.Eng
set_option linter.unusedSectionVars false
set_option linter.unusedVariables false
set_option linter.unusedSimpArgs false

/-- no list is longer than memory is wide -/
abbrev Sz {α : Type} (l : List α) : Prop := l.length ≤ 140737488355328
def inb (k : Int) (n : Nat) : Bool := decide (0 ≤ k ∧ k < (n : Int))
theorem in34' (k : Int) (n : Nat) : F34 k (n : Int) = some (inb k n) := in34 k n
theorem in38' (k : Int) (n : Nat) : F38 k (n : Int) = some (inb k n) := in38 k n
/-- a variable's type -/
def tv (l : List Int) (v : Int) : Int := l.getD v.toNat 0
theorem idx_tv {l : List Int} {v : Int} (h : inb v l.length = true) : idx l v = some (tv l v) := by
  have h := of_decide_eq_true h
  have hv : v.toNat < l.length := by omega
  unfold idx
  rw [if_pos h.1]
  simp [tv, List.getD, hv]
def ty (t : Int) : Bool := decide (1 ≤ t) && decide (t ≤ 5)
theorem F78_is (t : Int) : F78 t = some (ty t) := by unfold F78 ty; by_cases h : 1 ≤ t <;> simp [h]
theorem F91_is (t : Int) : F91 t = some (ty t) := by unfold F91 ty; by_cases h : 1 ≤ t <;> simp [h]
theorem lt_dec {n : Nat} {i : Nat} (h : i < n) : decide ((i : Int) < (n : Int)) = true := decide_eq_true (by omega)
theorem ge_dec (n : Nat) : decide ((n : Int) < (n : Int)) = false := decide_eq_false (by omega)
theorem lt_of {α : Type} {l : List α} {i : Nat} {a : α} (h : l[i]? = some a) : i < l.length := (List.getElem?_eq_some_iff.mp h).1

theorem F86_is (g : T_Graph) (l : List Int) (hl : Sz l) : F86 g l = some (l.all fun v => inb v g.fVars.length) := by
  unfold F86
  rw [loop_all (l := l) (a0 := ()) (r0 := false) (fun _ v => inb v g.fVars.length) (by unfold Sz at hl; omega) (fun i a h => ?_) ?_]
  · rw [allI_const]; cases l.all fun v => inb v g.fVars.length <;> rfl
  · simp only [F86_1_b, ge_dec, Bool.false_eq_true, if_false]
  · have := lt_of h
    unfold Sz at hl
    simp only [F86_1_b, lt_dec this, if_true, idx_some h, Option.bind_some, in38', wnat (show i ≤ 4611686018427387904 by omega)]
    cases inb a g.fVars.length <;> rfl
theorem F65_is (l : List Int) (x : Int) (hl : Sz l) : ∃ r, F65 l x = some r ∧ decide (r ≥ 0) = l.any (x == ·) := by
  unfold F65
  refine loop_find (x == ·) (by unfold Sz at hl; omega) (fun i a h => ?_) ?_
  · have := lt_of h
    unfold Sz at hl
    simp only [F65_1_b, lt_dec this, if_true, idx_some h, Option.bind_some, wnat (show i ≤ 4611686018427387904 by omega)]
    cases x == a <;> rfl
  · simp only [F65_1_b, ge_dec, Bool.false_eq_true, if_false]
theorem F79_is (l : List Int) (x : Int) (hl : Sz l) : F79 l x = some (l.any (x == ·)) := by
  obtain ⟨r, h1, h2⟩ := F65_is l x hl
  unfold F79; rw [h1, Option.bind_some, h2]
theorem F49_is (l : List Int) (x : Int) (hl : Sz l) : ∃ r, F49 l x = some r ∧ decide (r ≥ 0) = l.any (x == ·) := by
  unfold F49
  refine loop_find (x == ·) (by unfold Sz at hl; omega) (fun i a h => ?_) ?_
  · have := lt_of h
    unfold Sz at hl
    simp only [F49_1_b, lt_dec this, if_true, idx_some h, Option.bind_some, wnat (show i ≤ 4611686018427387904 by omega)]
    rw [show (a == x) = (x == a) from Bool.beq_comm]
    cases x == a <;> rfl
  · simp only [F49_1_b, ge_dec, Bool.false_eq_true, if_false]
theorem F71_is (l : List Int) (g : T_Graph) (hl : Sz l) : F71 l g = some (!(l.all fun v => inb v g.fVars.length)) := by
  have key : ∃ r, F89 l g = some r ∧ decide (r ≥ 0) = l.any fun v => !inb v g.fVars.length := by
    unfold F89
    refine loop_find (fun v => !inb v g.fVars.length) (by unfold Sz at hl; omega) (fun i a h => ?_) ?_
    · have := lt_of h
      unfold Sz at hl
      simp only [F89_1_b, F72, lt_dec this, if_true, idx_some h, Option.bind_some, in34', wnat (show i ≤ 4611686018427387904 by omega)]
      cases inb a g.fVars.length <;> rfl
    · simp only [F89_1_b, ge_dec, Bool.false_eq_true, if_false]
  obtain ⟨r, h1, h2⟩ := key
  unfold F71; rw [h1, Option.bind_some, h2]
  congr 1
  rw [List.not_all_eq_any_not]
theorem F53_is (l : List Int) (t : Int) (hl : Sz l) : F53 l t = some (!(l.all fun a => a == t)) := by
  have key : ∃ r, F73 l t = some r ∧ decide (r ≥ 0) = l.any fun a => a != t := by
    unfold F73
    refine loop_find (fun a => a != t) (by unfold Sz at hl; omega) (fun i a h => ?_) ?_
    · have := lt_of h
      unfold Sz at hl
      simp only [F73_1_b, F54, lt_dec this, if_true, idx_some h, Option.bind_some, wnat (show i ≤ 4611686018427387904 by omega)]
      cases a != t <;> rfl
    · simp only [F73_1_b, ge_dec, Bool.false_eq_true, if_false]
  obtain ⟨r, h1, h2⟩ := key
  unfold F53; rw [h1, Option.bind_some, h2]
  congr 1
  rw [List.not_all_eq_any_not]; rfl
theorem F77_is (a b : List Int) (ha : Sz a) : F77 a b = some (decide (a = b)) := by
  unfold F77
  by_cases hl : a.length = b.length
  · have e : (((List.length a : Nat) : Int) != ((List.length b : Nat) : Int)) = false := by rw [hl]; simp
    rw [e]; simp only [Bool.false_eq_true, if_false]
    rw [loop_all (l := a) (a0 := ()) (r0 := false) (fun i x => decide (b[i]? = some x)) (by unfold Sz at ha; omega) (fun i x h => ?_) ?_]
    · have key : ∀ (l m : List Int) (i : Nat), l.length = m.length → m = b.drop i → allI (fun i x => decide (b[i]? = some x)) i l = decide (l = m) := by
        intro l
        induction l with
        | nil => intro m i h1 h2; cases m with
          | nil => rfl
          | cons y m => simp at h1
        | cons x l ih =>
          intro m i h1 h2
          cases m with
          | nil => simp at h1
          | cons y m =>
            have h3 : b[i]? = some y := by
              have := congrArg (·[0]?) h2
              simpa using this.symm
            have h4 : m = b.drop (i + 1) := by
              have := congrArg (·.drop 1) h2
              simpa [List.drop_drop] using this
            rw [allI, ih m (i + 1) (by simpa using h1) h4, h3]
            by_cases hxy : y = x
            · subst hxy; simp
            · have : ¬ x = y := fun h => hxy h.symm
              simp [hxy, this]
      rw [key a b 0 hl rfl]
      by_cases hab : a = b <;> simp [hab]
    · simp only [F77_1_b, ge_dec, Bool.false_eq_true, if_false]
    · have := lt_of h
      unfold Sz at ha
      have hb : b[i]? = some b[i] := List.getElem?_eq_getElem (by omega)
      simp only [F77_1_b, lt_dec this, if_true, idx_some h, idx_some hb, Option.bind_some, wnat (show i ≤ 4611686018427387904 by omega)]
      rw [hb]
      by_cases hx : x = b[i]
      · have h2 : (x != b[i]) = false := by simp [hx]
        have h3 : decide (some b[i] = some x) = true := by simp [hx]
        rw [h2, h3]; rfl
      · have h2 : (x != b[i]) = true := by simp [hx]
        have h3 : decide (some b[i] = some x) = false := decide_eq_false (fun h => hx (Option.some.inj h).symm)
        rw [h2, h3]; rfl
  · have e : (((List.length a : Nat) : Int) != ((List.length b : Nat) : Int)) = true := by simp; omega
    rw [e]; simp only [if_true]
    have : a ≠ b := fun h => hl (by rw [h])
    simp [this]
/-- types of variables -/
theorem F52_is (g : T_Graph) (l : List Int) (hl : Sz l) (h : (l.all fun v => inb v g.fVars.length) = true) : F52 g l = some (l.map (tv g.fVars)) := by
  unfold Sz at hl
  unfold F52
  rw [made_nat (by omega) (by omega), Option.bind_some]
  have := loop_st (l := l) (f := fun s : List Int × Int => F52_1_b g l s.1 s.2) (mk := fun s i => (s, i)) (fin := fun s => s) (R := List Int) (fun i s a => .inr (s.set i (tv g.fVars a)))
    (fun i s => s.length = l.length) (by omega) (fun i s a hI ha => ?_) (fun s hI => ?_) (s := List.replicate l.length 0) (by simp)
  · rw [this]
    have key : ∀ (m : List Int) (i : Nat) (s : List Int), m = l.drop i → s.length = l.length → runs (R := List Int) (fun i s a => .inr (s.set i (tv g.fVars a))) i s m = .inr (s.take i ++ m.map (tv g.fVars)) := by
      intro m
      induction m with
      | nil =>
        intro i s h1 h2
        have : l.length ≤ i := by
          have := congrArg List.length h1; simp at this; omega
        rw [runs, List.map_nil, List.append_nil, List.take_of_length_le (by omega)]
      | cons a m ih =>
        intro i s h1 h2
        have hil : i < l.length := by
          have := congrArg List.length h1; simp at this; omega
        have h4 : m = l.drop (i + 1) := by
          have := congrArg (·.drop 1) h1
          simpa [List.drop_drop] using this
        rw [runs]
        show runs _ (i + 1) (s.set i (tv g.fVars a)) m = _
        rw [ih (i + 1) _ h4 (by simpa using h2), List.map_cons]
        congr 1
        rw [List.take_succ_eq_append_getElem (by simpa using by omega), List.getElem_set_self, List.take_set_of_le (Nat.le_refl i), List.append_assoc]; rfl
    rw [key l 0 _ rfl (by simp)]
    simp [outOf]
  · have hil := lt_of ha
    have hv : inb a g.fVars.length = true := List.all_eq_true.1 h a (List.mem_of_getElem? ha)
    refine ⟨?_, fun s' hs' => by cases hs'; simpa using hI⟩
    show F52_1_b g l s (i : Int) = _
    have hs : s[i]? = some s[i] := List.getElem?_eq_getElem (by omega)
    simp only [F52_1_b, lt_dec hil, if_true, idx_some ha, idx_some hs, Option.bind_some, idx_tv hv, upd_nat (show i < s.length by omega), wnat (show i ≤ 4611686018427387904 by omega), stpOf]
  · show F52_1_b g l s (l.length : Int) = _
    simp only [F52_1_b, ge_dec, Bool.false_eq_true, if_false]
end Go.Eng.Gra
