/- A list turned round (no program in sight; conditions: those stated). -/
import Derived.Test.YtfkakbipedafiaaDoorGreRv
import Derived.Test.YtfkakbipedafiaaDoorEngY
namespace Go.Eng.Gra
open Go Go.Eng
set_option linter.unusedSectionVars false
set_option linter.unusedVariables false
set_option linter.unusedSimpArgs false

theorem F36_is (l : List Int) (hl : l.length ≤ 140737488355328) : F36 l = some l.reverse := by
  unfold F36
  have hw : IntKind.i64.wrap (((List.length l : Nat) : Int) - 1) = ((List.length l : Nat) : Int) - 1 := wrap64_in (by omega) (by omega)
  rw [hw]
  have key : iter (fun s : ((List Int) × Int × Int) => F36_1_b s.1 s.2.1 s.2.2) FUEL (l, (0 : Int), ((List.length l : Nat) : Int) - 1) = some (.go l.reverse) := by
    refine iter_eq (fun m s => ∃ i : Nat, s.2.1 = (i : Int) ∧ s.2.2 = (l.length : Int) - 1 - (i : Int) ∧ 2 * i ≤ l.length ∧ m = l.length - i ∧ s.1.length = l.length ∧ ∀ k, k < l.length → s.1[k]? = if k < i ∨ l.length ≤ k + i then l[l.length - 1 - k]? else l[k]?) _ ?_ (m := l.length) ⟨0, rfl, by simp, by omega, by omega, rfl, fun k hk => by rw [if_neg (by omega)]⟩ (by omega)
    rintro m ⟨c, i', j'⟩ ⟨i, h1, h2, h3, rfl, h5, h6⟩
    simp only at h1 h2 h5 h6
    subst h1; subst h2
    unfold F36_1_b
    by_cases hc : (i : Int) < (l.length : Int) - 1 - (i : Int)
    · have hj : (l.length : Int) - 1 - (i : Int) = ((l.length - 1 - i : Nat) : Int) := by omega
      have hil : i < c.length := by omega
      have hjl : l.length - 1 - i < c.length := by omega
      have ei : c[i]? = some c[i] := List.getElem?_eq_getElem hil
      have ej : c[l.length - 1 - i]? = some c[l.length - 1 - i] := List.getElem?_eq_getElem hjl
      have vi : l[i]? = some c[i] := by rw [← ei, h6 i (by omega), if_neg (by omega)]
      have vj : l[l.length - 1 - i]? = some c[l.length - 1 - i] := by rw [← ej, h6 _ (by omega), if_neg (by omega)]
      generalize c[i] = a at ei vi
      generalize c[l.length - 1 - i] = b at ej vj
      have u1 : upd c (i : Int) b = some (c.set i b) := upd_nat hil
      have e1 : (c.set i b)[l.length - 1 - i]? = some b := by rw [List.getElem?_set_ne (by omega)]; exact ej
      have u2 : upd (c.set i b) ((l.length - 1 - i : Nat) : Int) a = some ((c.set i b).set (l.length - 1 - i) a) := upd_nat (by rw [List.length_set]; exact hjl)
      have w1 : IntKind.i64.wrap ((i : Int) + 1) = ((i + 1 : Nat) : Int) := wnat (by omega)
      have w2 : IntKind.i64.wrap (((l.length - 1 - i : Nat) : Int) - 1) = (l.length : Int) - 1 - ((i + 1 : Nat) : Int) := by rw [wrap64_in (by omega) (by omega)]; omega
      rw [decide_eq_true hc]
      simp only [if_true, hj, idx_some ei, idx_some ej, Option.bind_some, u1, idx_some e1, u2, w1, w2]
      refine ⟨_, rfl, l.length - (i + 1), by omega, i + 1, rfl, rfl, by omega, rfl, by simp [h5], fun k hk => ?_⟩
      simp only
      by_cases hkj : k = l.length - 1 - i
      · subst hkj
        rw [List.getElem?_set_self (by rw [List.length_set]; exact hjl), if_pos (by omega), ← vi]
        congr 1; omega
      · rw [List.getElem?_set_ne (fun h => hkj h.symm)]
        by_cases hki : k = i
        · subst hki
          rw [List.getElem?_set_self hil, if_pos (by omega), ← vj]
        · rw [List.getElem?_set_ne (fun h => hki h.symm), h6 k hk]
          by_cases hq : k < i ∨ l.length ≤ k + i
          · rw [if_pos hq, if_pos (by omega)]
          · rw [if_neg hq, if_neg (by omega)]
    · rw [decide_eq_false hc]
      refine ⟨_, rfl, ?_⟩
      show Out.go c = Out.go l.reverse
      congr 1
      refine List.ext_getElem? fun k => ?_
      by_cases hk : k < l.length
      · rw [h6 k hk, List.getElem?_reverse hk]
        by_cases hq : k < i ∨ l.length ≤ k + i
        · rw [if_pos hq]
        · rw [if_neg hq]; congr 1; omega
      · rw [List.getElem?_eq_none (by omega), List.getElem?_eq_none (by simp; omega)]
  rw [key]; rfl
end Go.Eng.Gra
