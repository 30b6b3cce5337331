/- Floats that fit, in plain numbers (no condition beyond those stated). -/
import Derived.Test.YtiacbfphlgbiiaaScaP
import Derived.Test.YtiacbfphlgbiiaaScaO
import Derived.Test.YtiacbfphlgbiiaaEngFl
namespace Go.Eng.Sca
open Go Go.Eng
set_option linter.unusedVariables false
set_option linter.unusedSimpArgs false
set_option maxHeartbeats 4000000

theorem k_0 : IsI (Ieee.double.read 0) 0 := ⟨false, 0, -1074, 0, by decide, by rw [Nat.zero_mul, Nat.zero_mul], by decide⟩
theorem k_255 : IsI (Ieee.double.read 4643176031446892544) 255 := ⟨false, 255 * 2 ^ 45, -45, 255, by decide, by decide, by decide⟩
theorem k_l32 : IsI (Ieee.double.read 13970166044103278592) (-2147483648) := ⟨true, 2 ^ 52, -21, 2147483648, by decide, by decide, by decide⟩
theorem k_h32 : IsI (Ieee.double.read 4746794007244308480) 2147483647 := ⟨false, 2147483647 * 2 ^ 22, -22, 2147483647, by decide, by decide, by decide⟩
theorem k_l64 : IsI (Ieee.double.read 14114281232179134464) (-9223372036854775808) := ⟨true, 2 ^ 52, 11, 9223372036854775808, by decide, by decide, by decide⟩
theorem k_h64 : IsI (Ieee.double.read 4890909195324358656) 9223372036854775808 := ⟨false, 2 ^ 52, 11, 9223372036854775808, by decide, by decide, by decide⟩

theorem cmp_int (a b : Int) : compare a b = if a < b then Ordering.lt else if a = b then .eq else .gt := rfl
theorem ge_of {t c : Nat} {z C : Int} (h : IsI (Ieee.double.read t) z) (h' : IsI (Ieee.double.read c) C) : (flO (some t) (some c) == some .gt || flO (some t) (some c) == some .eq) = decide (C ≤ z) := by
  have e : flO (some t) (some c) = some (compare z C) := h.cmp h'
  rw [e, cmp_int]
  by_cases c1 : z < C
  · rw [if_pos c1, decide_eq_false (by omega)]; rfl
  · rw [if_neg c1, decide_eq_true (by omega)]
    split <;> rfl
theorem le_of {t c : Nat} {z C : Int} (h : IsI (Ieee.double.read t) z) (h' : IsI (Ieee.double.read c) C) : (flO (some t) (some c) == some .lt || flO (some t) (some c) == some .eq) = decide (z ≤ C) := by
  have e : flO (some t) (some c) = some (compare z C) := h.cmp h'
  rw [e, cmp_int]
  by_cases c1 : z < C
  · rw [if_pos c1, decide_eq_true (by omega)]; rfl
  · rw [if_neg c1]
    by_cases c2 : z = C
    · rw [if_pos c2, decide_eq_true (by omega)]; rfl
    · rw [if_neg c2, decide_eq_false (by omega)]; rfl
theorem lt_of {t c : Nat} {z C : Int} (h : IsI (Ieee.double.read t) z) (h' : IsI (Ieee.double.read c) C) : (flO (some t) (some c) == some .lt) = decide (z < C) := by
  have e : flO (some t) (some c) = some (compare z C) := h.cmp h'
  rw [e, cmp_int]
  by_cases c1 : z < C
  · rw [if_pos c1, decide_eq_true (by omega)]; rfl
  · rw [if_neg c1, decide_eq_false (by omega)]
    split <;> rfl
theorem and_dec (p q : Prop) [Decidable p] [Decidable q] : (if (decide p) = true then decide q else false) = decide (p ∧ q) := by
  by_cases h : p <;> by_cases h' : q <;> simp [h, h']
/-- a float that is a number fits just if its whole part lies in the type -/
theorem f44_num {t : Int} {b tb : Nat} {z : Int} (ht : truncB b = some tb) (h : IsI (Ieee.double.read tb) z) : f44 t (some b) = decide (lo t ≤ z ∧ z < hi t) := by
  have e : f31 (some b) = some tb := ht
  unfold f44
  rw [e, ge_of h k_0, le_of h k_255, ge_of h k_l32, le_of h k_h32, ge_of h k_l64, lt_of h k_h64, and_dec, and_dec, and_dec]
  unfold lo hi
  by_cases c2 : t = 2
  · subst c2
    simp only [beq_self_eq_true, if_true]
    rw [Bool.eq_iff_iff]; simp only [decide_eq_true_eq]; omega
  · have n2 : (t == 2) = false := by simpa using c2
    by_cases c3 : t = 3
    · subst c3
      simp only [show ((3 : Int) == 2) = false from rfl, beq_self_eq_true, Bool.false_eq_true, if_true, if_false, show ¬ ((3 : Int) = 2) by decide]
      rw [Bool.eq_iff_iff]; simp only [decide_eq_true_eq]; omega
    · have n3 : (t == 3) = false := by simpa using c3
      simp only [n2, n3, Bool.false_eq_true, if_false, c2, c3]
theorem inf_out (s : Bool) (c : Nat) (C : Int) (h : IsI (Ieee.double.read c) C) : flO (some (Ieee.double.write (.infinity s))) (some c) = some (if s then .lt else .gt) := by
  obtain ⟨s', K, l, M, h1, _, _⟩ := h
  have e : Ieee.double.read (Ieee.double.write (.infinity s)) = .infinity s := by cases s <;> decide
  show (Ieee.double.read _).order (Ieee.double.read c) = _
  rw [e, h1]; rfl
theorem f44_not {t : Int} {x : Option Nat} (h : ∀ b, x = some b → (∃ s, Ieee.double.read b = .infinity s) ∨ (Ieee.double.read b).isNaN = true) : f44 t x = false := by
  have none_ : f31 x = none → f44 t x = false := by
    intro e; unfold f44; rw [e]
    show (if (t == 2) = true then false else if (t == 3) = true then false else false) = false
    repeat' split
    all_goals rfl
  cases x with
  | none => exact none_ rfl
  | some b =>
    rcases h b rfl with ⟨s, hs⟩ | hn
    · have e : f31 (some b) = some (Ieee.double.write (.infinity s)) := by
        show truncB b = _
        unfold truncB; rw [hs]; rfl
      unfold f44
      rw [e, inf_out s _ _ k_0, inf_out s _ _ k_255, inf_out s _ _ k_l32, inf_out s _ _ k_h32, inf_out s _ _ k_l64, inf_out s _ _ k_h64]
      cases s
      · repeat' split
        all_goals first | rfl | contradiction
      · repeat' split
        all_goals first | rfl | contradiction | (rename_i hh; revert hh; decide)
    · refine none_ ?_
      show truncB b = none
      unfold truncB
      cases hd : Ieee.double.read b with
      | nan s t => rfl
      | number s m p => rw [hd] at hn; simp [Ieee.Datum.isNaN] at hn
      | infinity s => rw [hd] at hn; simp [Ieee.Datum.isNaN] at hn
/-- what fits is a number, and its whole part lies in the type -/
theorem f44_yes {t : Int} {x : Option Nat} (h : f44 t x = true) : ∃ b tb z, x = some b ∧ truncB b = some tb ∧ IsI (Ieee.double.read tb) z ∧ (Ieee.double.read b).toInt .zero = some z ∧ lo t ≤ z ∧ z < hi t := by
  by_cases hx : ∀ b, x = some b → (∃ s, Ieee.double.read b = .infinity s) ∨ (Ieee.double.read b).isNaN = true
  · rw [f44_not hx] at h; cases h
  · cases x with
    | none => exact absurd (fun b hb => by cases hb) hx
    | some b =>
      rcases read_is b with ⟨s, m, p, h1, h2, h3, h4⟩ | hi | hn
      · obtain ⟨tb, e1, e2, e3⟩ := trunc_is h1 h2 h4
        rw [f44_num e1 e2] at h
        have := of_decide_eq_true h
        exact ⟨b, tb, _, rfl, e1, e2, e3, this.1, this.2⟩
      · exact absurd (fun c hc => by cases hc; exact .inl hi) hx
      · exact absurd (fun c hc => by cases hc; exact .inr hn) hx
theorem lo_hi (t : Int) : -9223372036854775808 ≤ lo t ∧ hi t ≤ 9223372036854775808 := by
  unfold lo hi; repeat' split
  all_goals exact ⟨by decide, by decide⟩
theorem f2i_of {t : Int} {x : Option Nat} (h : (!(f44 t x)) = false) : f2iV .i64 (.fl x) = some (.int .i64 (f2iI x)) := by
  obtain ⟨b, tb, z, rfl, _, _, h3, h4, h5⟩ := f44_yes (show f44 t x = true by simpa using h)
  have e : f2iI (some b) = z := by
    show ((Ieee.double.read b).toInt .zero).getD 0 = z
    rw [h3]; rfl
  have hr := lo_hi t
  have m0 : IntKind.i64.min = -9223372036854775808 := by decide
  have m1 : IntKind.i64.max = 9223372036854775807 := by decide
  rw [e]
  show (match (Ieee.double.read b).toInt .zero with | some n => if IntKind.i64.min ≤ n ∧ n ≤ IntKind.i64.max then some (V.int .i64 n) else none | none => none) = _
  rw [h3]
  show (if IntKind.i64.min ≤ z ∧ z ≤ IntKind.i64.max then _ else _) = _
  rw [if_pos ⟨by omega, by omega⟩]
end Go.Eng.Sca
namespace Go.Eng.Sca
open Go Go.Eng
theorem canon_num {x : Option Nat} {t : Int} (h : f44 t (some (canon13 x).toNat) = true) : ∃ b, x = some b ∧ canon13 x = (b : Int) ∧ (Ieee.double.read b).isNaN = false := by
  have nn : (Ieee.double.read (9221120237041090560 : Int).toNat).isNaN = true := by decide
  have no : ∀ y : Int, y = 9221120237041090560 → f44 t (some y.toNat) = false := by
    rintro y rfl; exact f44_not fun b hb => by cases hb; exact .inr nn
  cases x with
  | none => exact absurd h (by rw [show canon13 none = 9221120237041090560 from rfl, no _ rfl]; decide)
  | some b =>
    have e : canon13 (some b) = if (Ieee.double.read b).isNaN then 9221120237041090560 else (b : Int) := by
      show (if (flO (some ((b : Int).toNat)) (some ((b : Int).toNat)) != some .eq) then (9221120237041090560 : Int) else (b : Int)) = _
      have : (flO (some ((b : Int).toNat)) (some ((b : Int).toNat)) != some .eq) = (Ieee.double.read b).isNaN := by
        show (!((Ieee.double.read b).order (Ieee.double.read b) == some .eq)) = _
        cases hd : Ieee.double.read b with
        | nan s t => rfl
        | infinity s => cases s <;> rfl
        | number s m i =>
          show (!(some (compare (Ieee.signed s m (i - min i i).toNat) (Ieee.signed s m (i - min i i).toNat)) == some Ordering.eq)) = false
          generalize Ieee.signed s m (i - min i i).toNat = x
          have : compare x x = Ordering.eq := Std.ReflCmp.compare_self
          rw [this]; rfl
      rw [this]
    cases hn : (Ieee.double.read b).isNaN with
    | true => rw [hn, if_pos rfl] at e; rw [no _ e] at h; cases h
    | false => rw [hn] at e; exact ⟨b, rfl, by rw [e]; rfl, hn⟩
theorem f30_45 (v : Int) (h : f30 4 5 v = true) : f44 4 (some v.toNat) = true := by
  unfold f30 at h
  simp only [show f34 4 5 = true from rfl, Bool.not_true, Bool.false_eq_true, if_false, show ((5 : Int) != 5) = false from rfl, show ((4 : Int) == 5) = false from rfl] at h
  split at h
  · cases h
  · exact h
theorem f2i_of3 {x : Option Nat} (h : f30 4 5 (canon13 x) = true) : f2iV .i64 (.fl (f31 x)) = some (.int .i64 (f2iI (f31 x))) := by
  have h1 := f30_45 _ h
  obtain ⟨b, rfl, e, _⟩ := canon_num h1
  rw [e] at h1
  obtain ⟨b', tb, z, hb, h2, h3, h4, h5, h6⟩ := f44_yes h1
  have hb' : b' = b := by simpa using hb.symm
  subst hb'
  have e31 : f31 (some b') = some tb := h2
  have e2 : f2iI (some tb) = z := by
    show ((Ieee.double.read tb).toInt .zero).getD 0 = z
    rw [h3.int]; rfl
  have m0 : IntKind.i64.min = -9223372036854775808 := by decide
  have m1 : IntKind.i64.max = 9223372036854775807 := by decide
  have hr := lo_hi 4
  rw [e31, e2]
  show (match (Ieee.double.read tb).toInt .zero with | some n => if IntKind.i64.min ≤ n ∧ n ≤ IntKind.i64.max then some (V.int .i64 n) else none | none => none) = _
  rw [h3.int]
  show (if IntKind.i64.min ≤ z ∧ z ≤ IntKind.i64.max then _ else _) = _
  rw [if_pos ⟨by omega, by omega⟩]
end Go.Eng.Sca
