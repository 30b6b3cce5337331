/- Sizes of a graph that is not great (no program in sight; conditions: those stated). -/
import Derived.Test.YtfkakbipedafiaaDoorGreF
import Derived.Test.YtfkakbipedafiaaDoorEngY
namespace Go.Eng.Gra
open Go Go.Eng
set_option linter.unusedSectionVars false
set_option linter.unusedVariables false
set_option linter.unusedSimpArgs false
/-- no list is longer than memory is wide -/
abbrev Sz {α : Type} (l : List α) : Prop := l.length ≤ 140737488355328
theorem lt_dec {n : Nat} {i : Nat} (h : i < n) : decide ((i : Int) < (n : Int)) = true := decide_eq_true (by omega)
theorem ge_dec (n : Nat) : decide ((n : Int) < (n : Int)) = false := decide_eq_false (by omega)
theorem lt_of {α : Type} {l : List α} {i : Nat} {a : α} (h : l[i]? = some a) : i < l.length := (List.getElem?_eq_some_iff.mp h).1
/-- sizes of a graph -/
structure SzG (g : T_Graph) : Prop where
  params : Sz g.fParams
  vars : Sz g.fVars
  arrays : Sz g.fArrays
  blocks : Sz g.fBlocks
  ins : ∀ b ∈ g.fBlocks, Sz b.fIns
  args : ∀ b ∈ g.fBlocks, ∀ x ∈ b.fIns, Sz x.fArgs
  bits : ∀ b ∈ g.fBlocks, ∀ x ∈ b.fIns, 0 ≤ x.fBits ∧ x.fBits < 18446744073709551616

/-- sizes of a graph that is not great -/
structure Small (g : T_Graph) : Prop where
  blocks : g.fBlocks.length ≤ 400
  ins : ∀ b ∈ g.fBlocks, b.fIns.length ≤ 2000
theorem F12_is (g : T_Graph) (hs : SzG g) : ∃ b, F12 g = some b ∧ (b = false → Small g) := by
  unfold F12
  by_cases h1 : ((List.length g.fBlocks : Nat) : Int) > 400
  · exact ⟨true, by rw [decide_eq_true h1]; rfl, fun h => by cases h⟩
  rw [decide_eq_false h1]
  simp only [Bool.false_eq_true, if_false]
  cases decide (((List.length g.fVars : Nat) : Int) > 2000)
  case true => exact ⟨true, rfl, fun h => by cases h⟩
  cases decide (((List.length g.fArrays : Nat) : Int) > 2000)
  case true => exact ⟨true, rfl, fun h => by cases h⟩
  cases decide (((List.length g.fParams : Nat) : Int) > 2000)
  case true => exact ⟨true, rfl, fun h => by cases h⟩
  simp only [Bool.false_eq_true, if_false]
  have key : ∃ o, iter (fun s : (Int × Int) => F12_1_b g s.1 s.2) FUEL ((0 : Int), (0 : Int)) = some o ∧ (o = .ret true ∨ o = .go () ∧ ∀ b ∈ g.fBlocks, b.fIns.length ≤ 2000) := by
    refine iter_ok (I := fun m s => ∃ i : Nat, i ≤ g.fBlocks.length ∧ m = g.fBlocks.length - i ∧ s.2 = (i : Int) ∧ 0 ≤ s.1 ∧ s.1 ≤ 2000 ∧ ∀ (j : Nat) b, j < i → g.fBlocks[j]? = some b → b.fIns.length ≤ 2000) ?_ FUEL g.fBlocks.length _ ⟨0, by omega, by omega, rfl, by decide, by decide, fun j b h => by omega⟩ (by unfold FUEL; omega)
    rintro m ⟨n, i'⟩ ⟨i, hi, rfl, hi', hn0, hn1, hall⟩
    simp only at hi' hn0 hn1
    subst hi'
    unfold F12_1_b
    by_cases hil : i < g.fBlocks.length
    · have hb : g.fBlocks[i]? = some g.fBlocks[i] := List.getElem?_eq_getElem hil
      generalize g.fBlocks[i] = b at hb
      have hmem : b ∈ g.fBlocks := List.mem_of_getElem? hb
      have hbi := hs.ins b hmem
      unfold Sz at hbi
      have hw : IntKind.i64.wrap (n + ((List.length b.fIns : Nat) : Int)) = n + ((List.length b.fIns : Nat) : Int) := wrap64_in (by omega) (by omega)
      simp only [lt_dec hil, if_true, idx_some hb, Option.bind_some, hw]
      have hin : ∃ o, iter (fun s : (Int × Int) => F12_2_b g (i : Int) s.1 s.2) FUEL (n + ((List.length b.fIns : Nat) : Int), (0 : Int)) = some o ∧ ∃ v, o = .go v ∧ n + ((List.length b.fIns : Nat) : Int) ≤ v := by
        refine iter_ok (I := fun m s => ∃ k : Nat, k ≤ b.fIns.length ∧ m = b.fIns.length - k ∧ s.2 = (k : Int) ∧ n + ((List.length b.fIns : Nat) : Int) ≤ s.1 ∧ s.1 ≤ 562949953421312) ?_ FUEL b.fIns.length _ ⟨0, by omega, by omega, rfl, by simp, by simp only; omega⟩ (by unfold FUEL; omega)
        rintro m ⟨v, k'⟩ ⟨k, hk, rfl, hk', hv0, hv1⟩
        simp only at hk' hv0 hv1
        subst hk'
        unfold F12_2_b
        simp only [idx_some hb, Option.bind_some]
        by_cases hkl : k < b.fIns.length
        · have hx : b.fIns[k]? = some b.fIns[k] := List.getElem?_eq_getElem hkl
          generalize b.fIns[k] = x at hx
          have hxa := hs.args b hmem x (List.mem_of_getElem? hx)
          unfold Sz at hxa
          simp only [lt_dec hkl, if_true, idx_some hx, Option.bind_some]
          by_cases hv : v ≤ 2000
          · rw [decide_eq_true hv]
            have hw2 : IntKind.i64.wrap (v + ((List.length x.fArgs : Nat) : Int)) = v + ((List.length x.fArgs : Nat) : Int) := wrap64_in (by omega) (by omega)
            refine ⟨_, rfl, b.fIns.length - (k + 1), by omega, k + 1, by omega, rfl, wnat (by omega), ?_, ?_⟩
            · simp only [hw2]; omega
            · simp only [hw2]; omega
          · rw [decide_eq_false hv]
            exact ⟨_, rfl, v, rfl, hv0⟩
        · have : k = b.fIns.length := by omega
          subst this
          simp only [ge_dec, Bool.false_eq_true, if_false]
          exact ⟨_, rfl, v, rfl, hv0⟩
      obtain ⟨o, ho, v, rfl, hv⟩ := hin
      rw [ho, Option.bind_some]
      by_cases hv2 : v > 2000
      · exact ⟨.ret true, by simp only [decide_eq_true hv2, if_true], .inl rfl⟩
      · refine ⟨.next (v, IntKind.i64.wrap ((i : Int) + 1)), by simp only [decide_eq_false hv2, Bool.false_eq_true, if_false], g.fBlocks.length - (i + 1), by omega, i + 1, by omega, rfl, wnat (by omega), by simp only; omega, by simp only; omega, fun j c hj hc => ?_⟩
        by_cases hji : j = i
        · subst hji; rw [hb] at hc; cases hc; omega
        · exact hall j c (by omega) hc
    · have : i = g.fBlocks.length := by omega
      subst this
      simp only [ge_dec, Bool.false_eq_true, if_false]
      refine ⟨_, rfl, .inr ⟨rfl, fun b hb => ?_⟩⟩
      obtain ⟨j, hj, rfl⟩ := List.mem_iff_getElem.mp hb
      exact hall j _ hj (List.getElem?_eq_getElem hj)
  obtain ⟨o, ho, h | ⟨h, hall⟩⟩ := key
  · rw [ho, h]; exact ⟨true, rfl, fun h => by cases h⟩
  · rw [ho, h]; exact ⟨false, rfl, fun _ => ⟨by omega, hall⟩⟩
theorem awake9 : F9 = some true := by kernel_rfl
end Go.Eng.Gra
