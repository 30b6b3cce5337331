/- The reference's cutter, told in the words of the program's one, for sources without numbers and with one name (no condition beyond those stated). -/
import Derived.Test.YtimnlnkjogbjfaaTokI
import Derived.Test.YtimnlnkjogbjfaaTokF
import Derived.Test.YtimnlnkjogbjfaaEngP
namespace Go.Eng.Tok
open Go Go.Eng
set_option linter.unusedVariables false
set_option linter.unusedSimpArgs false

theorem f25_fin : ∀ n : Fin 256, (F25 (n.val : Int) == some (decide (kd (UInt8.ofNat n.val) = 3))) = true := by decide +kernel
theorem f23_fin : ∀ n : Fin 256, (F23 (n.val : Int) == some (decide (kd (UInt8.ofNat n.val) = 2))) = true := by decide +kernel
theorem f32_fin : ∀ n : Fin 256, (F32 (n.val : Int) == some (decide (kd (UInt8.ofNat n.val) = 1))) = true := by decide +kernel
theorem fin_of {P : UInt8 → Prop} (h : ∀ n : Fin 256, P (UInt8.ofNat n.val)) (b : UInt8) : P b := by
  have := h ⟨b.toNat, b.toNat_lt⟩
  simpa using this
theorem f25 (b : UInt8) : F25 (b.toNat : Int) = some (decide (kd b = 3)) := by
  have := f25_fin ⟨b.toNat, b.toNat_lt⟩
  simpa using this
theorem f23 (b : UInt8) : F23 (b.toNat : Int) = some (decide (kd b = 2)) := by
  have := f23_fin ⟨b.toNat, b.toNat_lt⟩
  simpa using this
theorem f32 (b : UInt8) : F32 (b.toNat : Int) = some (decide (kd b = 1)) := by
  have := f32_fin ⟨b.toNat, b.toNat_lt⟩
  simpa using this
theorem sidx_get {x : List UInt8} {i : Nat} (h : i < x.length) : sidx x (i : Int) = some (x[i].toNat : Int) := by
  unfold sidx; rw [idx_get h]; rfl

theorem f24 (x : List UInt8) (hl : x.length ≤ 1000000) {a : Nat} (ha : a ≤ x.length) : F24 x (a : Int) true = some ((a + rowN [2, 3] (x.drop a) : Nat) : Int) := by
  have h : iter (fun s : (Int) => F24_1_b x true s) FUEL (a : Int) = some (.go ((a + rowN [2, 3] (x.drop a) : Nat) : Int)) := by
    refine iter_eq (I := fun m s => ∃ i : Nat, a ≤ i ∧ i ≤ x.length ∧ m = x.length - i ∧ s = (i : Int) ∧ a + rowN [2, 3] (x.drop a) = i + rowN [2, 3] (x.drop i)) _ ?_ (m := x.length - a) ⟨a, by omega, ha, rfl, rfl, rfl⟩ (by omega)
    rintro m s ⟨i, hai, hi, rfl, rfl, hr⟩
    show ∃ t, F24_1_b x true (i : Int) = some t ∧ _
    unfold F24_1_b
    by_cases hlt : i < x.length
    · rw [ite_t (decide_eq_true (by omega)), sidx_get hlt, Option.bind_some, f25, Option.bind_some]
      by_cases h3 : kd x[i] = 3
      · rw [ite_t (decide_eq_true h3)]
        refine ⟨_, rfl, x.length - (i + 1), by omega, i + 1, by omega, by omega, rfl, ?_, ?_⟩
        · exact wnat (by omega)
        · rw [hr, rowN_yes hlt (by simp [h3])]; omega
      · rw [ite_f (decide_eq_false h3)]
        simp only [if_true, Option.bind_some, f23]
        by_cases h2 : kd x[i] = 2
        · rw [ite_t (decide_eq_true h2)]
          refine ⟨_, rfl, x.length - (i + 1), by omega, i + 1, by omega, by omega, rfl, ?_, ?_⟩
          · exact wnat (by omega)
          · rw [hr, rowN_yes hlt (by simp [h2])]; omega
        · rw [ite_f (decide_eq_false h2)]
          refine ⟨_, rfl, ?_⟩
          rw [rowN_no hlt (by simp [h2, h3])] at hr
          simp only [Ok, hr, Nat.add_zero]
    · rw [ite_f (decide_eq_false (by omega))]
      refine ⟨_, rfl, ?_⟩
      rw [rowN_end hlt] at hr
      simp only [Ok, hr, Nat.add_zero]
  unfold F24
  rw [h]; rfl

theorem skip_line {x : List UInt8} {a : Nat} (h1 : ∀ y, x[a]? = some y → kd y ≠ 1) (h2 : [47, 47].isPrefixOf (x.drop a) = true) : skipN (x.drop a) = lineN (x.drop a) + skipN (x.drop (a + lineN (x.drop a))) := by
  have hr : rowN [1] (x.drop a) = 0 := by
    by_cases hlt : a < x.length
    · exact rowN_no hlt (by simpa using h1 _ (List.getElem?_eq_getElem hlt))
    · exact rowN_end hlt
  rw [skipN_yes (by rw [hr]; exact h2), hr, List.drop_zero, Nat.zero_add, Nat.zero_add, List.drop_drop]
theorem line_no {x : List UInt8} {i : Nat} (h : i < x.length) (hx : x[i] = 10) : lineN (x.drop i) = 0 := by
  unfold lineN; rw [List.drop_eq_getElem_cons h, List.takeWhile_cons_of_neg (by simp [hx])]; rfl
theorem line_yes {x : List UInt8} {i : Nat} (h : i < x.length) (hx : x[i] ≠ 10) : lineN (x.drop i) = 1 + lineN (x.drop (i + 1)) := by
  unfold lineN; rw [List.drop_eq_getElem_cons h, List.takeWhile_cons_of_pos (by simpa using hx), List.length_cons, Nat.add_comm]
theorem f22_2 (x : List UInt8) (hl : x.length ≤ 1000000) {a : Nat} (ha : a ≤ x.length) : iter (fun s : (Int) => F22_2_b x s) FUEL (a : Int) = some (.go ((a + lineN (x.drop a) : Nat) : Int)) := by
  refine iter_eq (I := fun m s => ∃ i : Nat, a ≤ i ∧ i ≤ x.length ∧ m = x.length - i ∧ s = (i : Int) ∧ a + lineN (x.drop a) = i + lineN (x.drop i)) _ ?_ (m := x.length - a) ⟨a, by omega, ha, rfl, rfl, rfl⟩ (by omega)
  rintro m s ⟨i, hai, hi, rfl, rfl, hr⟩
  show ∃ t, F22_2_b x (i : Int) = some t ∧ _
  unfold F22_2_b
  by_cases hlt : i < x.length
  · rw [ite_t (decide_eq_true (by omega)), sidx_get hlt, Option.bind_some]
    by_cases h10 : x[i] = 10
    · rw [ite_f (by rw [h10]; rfl)]
      refine ⟨_, rfl, ?_⟩
      rw [line_no hlt h10] at hr
      simp only [Ok, hr, Nat.add_zero]
    · rw [ite_t (by
        rw [bne_iff_ne]
        intro h
        apply h10
        apply UInt8.toNat_inj.mp
        have : (x[i].toNat : Int) = ((10 : UInt8).toNat : Int) := h
        omega)]
      refine ⟨_, rfl, x.length - (i + 1), by omega, i + 1, by omega, by omega, rfl, ?_, ?_⟩
      · exact wnat (by omega)
      · rw [hr, line_yes hlt h10]; omega
  · rw [ite_f (decide_eq_false (by omega))]
    refine ⟨_, rfl, ?_⟩
    have : x.drop i = [] := List.drop_of_length_le (by omega)
    rw [this] at hr
    have h0 : lineN [] = 0 := rfl
    rw [h0] at hr
    simp only [Ok, hr, Nat.add_zero]
theorem pre47 {x : List UInt8} {i : Nat} (h : i + 1 < x.length) : [47, 47].isPrefixOf (x.drop i) = (x[i] == 47 && x[i + 1] == 47) := by
  rw [List.drop_eq_getElem_cons (by omega), List.drop_eq_getElem_cons h]
  simp only [List.isPrefixOf, Bool.and_true, BEq.comm (a := (47 : UInt8))]
theorem pre47_short {x : List UInt8} {i : Nat} (h : ¬ i + 1 < x.length) : [47, 47].isPrefixOf (x.drop i) = false := by
  rw [Bool.eq_false_iff]
  intro hp
  have := (List.isPrefixOf_iff_prefix.1 hp).length_le
  rw [List.length_drop] at this
  simp at this; omega
theorem u8_eq (b c : UInt8) : ((b.toNat : Int) == (c.toNat : Int)) = (b == c) := by
  rw [Bool.eq_iff_iff, beq_iff_eq, beq_iff_eq]
  constructor
  · intro h; exact UInt8.toNat_inj.mp (by omega)
  · intro h; rw [h]
theorem f22 (x : List UInt8) (hl : x.length ≤ 1000000) {a : Nat} (ha : a ≤ x.length) : F22 x (a : Int) = some ((a + skipN (x.drop a) : Nat) : Int) := by
  have h : ∃ o : Out Int Int, iter (fun s : (Int) => F22_1_b x s) FUEL (a : Int) = some o ∧ (match o with | .ret r => r = ((a + skipN (x.drop a) : Nat) : Int) | .go r => r = ((a + skipN (x.drop a) : Nat) : Int)) := by
    refine iter_ok (I := fun m s => ∃ i : Nat, a ≤ i ∧ i ≤ x.length ∧ m = x.length - i ∧ s = (i : Int) ∧ a + skipN (x.drop a) = i + skipN (x.drop i)) (P := fun o : Out Int Int => match o with | .ret r => r = ((a + skipN (x.drop a) : Nat) : Int) | .go r => r = ((a + skipN (x.drop a) : Nat) : Int)) ?_ _ (x.length - a) _ ⟨a, by omega, ha, rfl, rfl, rfl⟩ (by unfold FUEL; omega)
    rintro m s ⟨i, hai, hi, rfl, rfl, hr⟩
    show ∃ t, F22_1_b x (i : Int) = some t ∧ _
    unfold F22_1_b
    by_cases hlt : i < x.length
    · rw [ite_t (decide_eq_true (by omega)), sidx_get hlt, Option.bind_some, f32, Option.bind_some]
      by_cases h1 : kd x[i] = 1
      · rw [ite_t (decide_eq_true h1)]
        refine ⟨_, rfl, x.length - (i + 1), by omega, i + 1, by omega, by omega, rfl, ?_, ?_⟩
        · exact wnat (by omega)
        · rw [hr, List.drop_eq_getElem_cons hlt, skip_blank h1]; omega
      · rw [ite_f (decide_eq_false h1), Option.bind_some]
        have hk : ∀ y, x[i]? = some y → kd y ≠ 1 := by
          intro y hy
          rw [List.getElem?_eq_getElem hlt] at hy; cases hy; exact h1
        have hno : [47, 47].isPrefixOf (x.drop i) = false → ∃ t, F22_j1 x (i : Int) false = some t ∧ Ok (fun m s => ∃ i : Nat, a ≤ i ∧ i ≤ x.length ∧ m = x.length - i ∧ s = (i : Int) ∧ a + skipN (x.drop a) = i + skipN (x.drop i)) (x.length - i) (fun o : Out Int Int => match o with | .ret r => r = ((a + skipN (x.drop a) : Nat) : Int) | .go r => r = ((a + skipN (x.drop a) : Nat) : Int)) t := by
          intro hp
          refine ⟨.ret (i : Int), rfl, ?_⟩
          have h0 : skipN (x.drop i) = 0 := skip_none (fun y hy => hk y (by rw [List.getElem?_drop] at hy; simpa using hy)) hp
          show (i : Int) = _
          rw [hr, h0]; rfl
        have hyes : [47, 47].isPrefixOf (x.drop i) = true → ∃ t, F22_j1 x (i : Int) true = some t ∧ Ok (fun m s => ∃ i : Nat, a ≤ i ∧ i ≤ x.length ∧ m = x.length - i ∧ s = (i : Int) ∧ a + skipN (x.drop a) = i + skipN (x.drop i)) (x.length - i) (fun o : Out Int Int => match o with | .ret r => r = ((a + skipN (x.drop a) : Nat) : Int) | .go r => r = ((a + skipN (x.drop a) : Nat) : Int)) t := by
          intro hp
          have h2 := line_pos hp
          have hle := lineN_le (x.drop i)
          rw [List.length_drop] at hle
          refine ⟨.next ((i + lineN (x.drop i) : Nat) : Int), ?_, x.length - (i + lineN (x.drop i)), by omega, i + lineN (x.drop i), by omega, by omega, rfl, rfl, ?_⟩
          · unfold F22_j1; rw [if_pos rfl, f22_2 x hl (by omega)]; rfl
          · rw [hr, skip_line hk hp]; omega
        rw [show ((x[i].toNat : Int) == 47) = (x[i] == 47) from u8_eq x[i] 47]
        by_cases h47 : x[i] = 47
        · rw [ite_t (by simp [h47]), wnat (by omega)]
          by_cases hlt2 : i + 1 < x.length
          · rw [ite_t (decide_eq_true (by omega)), sidx_get hlt2, Option.bind_some, show ((x[i + 1].toNat : Int) == 47) = (x[i + 1] == 47) from u8_eq x[i + 1] 47]
            have hp := pre47 hlt2
            rw [h47] at hp
            cases h2 : (x[i + 1] == 47) with
            | true => rw [h2] at hp; exact hyes hp
            | false => rw [h2] at hp; exact hno hp
          · rw [ite_f (decide_eq_false (by omega))]
            exact hno (pre47_short hlt2)
        · rw [ite_f (by simpa using h47)]
          refine hno ?_
          by_cases hlt2 : i + 1 < x.length
          · rw [pre47 hlt2]; simp [h47]
          · exact pre47_short hlt2
    · rw [ite_f (decide_eq_false (by omega))]
      refine ⟨_, rfl, ?_⟩
      have : x.drop i = [] := List.drop_of_length_le (by omega)
      rw [this] at hr
      have h0 : skipN [] = 0 := rfl
      rw [h0] at hr
      show (i : Int) = _
      rw [hr]; rfl
  obtain ⟨o, h1, h2⟩ := h
  unfold F22
  rw [h1]
  cases o with
  | ret r => subst h2; rfl
  | go r => subst h2; rfl
/-- the signs of one byte -/
def SIGNS : List UInt8 := [40, 41, 123, 125, 91, 93, 44, 59, 61, 60, 62, 43, 45, 42, 47, 37, 38, 124, 94, 33]
theorem signs_fin : ∀ n : Fin 256, (decide (kd (UInt8.ofNat n.val) = 4) == SIGNS.contains (UInt8.ofNat n.val)) = true := by decide +kernel
theorem signs (b : UInt8) : kd b = 4 ↔ b ∈ SIGNS := by
  have := fin_of (P := fun b => (decide (kd b = 4) == SIGNS.contains b) = true) signs_fin b
  rw [beq_iff_eq] at this
  rw [← List.contains_iff_mem, ← this, decide_eq_true_eq]
def LIT2 : List UInt8 := [32, 61, 61, 32, 33, 61, 32, 60, 61, 32, 62, 61, 32, 60, 60, 32, 62, 62, 32, 38, 38, 32, 124, 124, 32]
theorem lit2 : ∀ j : Fin 8, part LIT2 (((3 * j.val : Nat) : Int) + 1) (((3 * j.val : Nat) : Int) + 3) = some (TWOS.getD j.val []) := by decide
theorem wn {x : Nat} (k : Nat) (h : x + k ≤ 4611686018427387904) : IntKind.i64.wrap ((x : Int) + (k : Int)) = ((x + k : Nat) : Int) := by rw [wrap64_in (by omega) (by omega)]; rfl
theorem f27_1 (x : List UInt8) (hl : x.length ≤ 1000000) {a : Nat} (ha : a < x.length) : iter (fun s : (Int) => F27_1_b x (a : Int) s) FUEL (0 : Int) = some (if twoB (x.drop a) then .ret 2 else .go ()) := by
  refine iter_eq (I := fun m s => ∃ j : Nat, j ≤ 8 ∧ m = 8 - j ∧ s = ((3 * j : Nat) : Int) ∧ ∀ w ∈ TWOS.take j, w.isPrefixOf (x.drop a) = false) _ ?_ (m := 8) ⟨0, by omega, rfl, rfl, by simp⟩ (by omega)
  rintro m s ⟨j, hj, rfl, rfl, hno⟩
  show ∃ t, F27_1_b x (a : Int) ((3 * j : Nat) : Int) = some t ∧ _
  unfold F27_1_b
  have e2 : IntKind.i64.wrap ((a : Int) + 2) = ((a + 2 : Nat) : Int) := wn 2 (by omega)
  have e3 : IntKind.i64.wrap (((3 * j : Nat) : Int) + 2) = ((3 * j + 2 : Nat) : Int) := wn 2 (by omega)
  have e4 : IntKind.i64.wrap (((3 * j : Nat) : Int) + 1) = ((3 * j : Nat) : Int) + 1 := wrap64_in (by omega) (by omega)
  have e5 : IntKind.i64.wrap (((3 * j : Nat) : Int) + 3) = ((3 * j : Nat) : Int) + 3 := wrap64_in (by omega) (by omega)
  rw [e2, e3, e4, e5]
  by_cases hlt : a + 2 ≤ x.length
  · rw [ite_t (decide_eq_true (by omega))]
    by_cases hj8 : j < 8
    · rw [ite_t (decide_eq_true (by omega)), show ([32, 61, 61, 32, 33, 61, 32, 60, 61, 32, 62, 61, 32, 60, 60, 32, 62, 62, 32, 38, 38, 32, 124, 124, 32] : List UInt8) = LIT2 from rfl, lit2 ⟨j, hj8⟩, Option.bind_some, part_nat (by omega) hlt, Option.bind_some, Nat.add_sub_cancel_left]
      have hlen : (TWOS.getD j []).length = 2 := two_len hj8
      have hpre : (TWOS.getD j []).isPrefixOf (x.drop a) = (TWOS.getD j [] == (x.drop a).take 2) := by
        rw [prefix_take (by rw [hlen, List.length_drop]; omega), hlen, BEq.comm]
      have hmem : TWOS.getD j [] ∈ TWOS := by
        rw [List.getD, List.getElem?_eq_getElem (show j < TWOS.length from hj8)]; exact List.getElem_mem _
      cases hc : (TWOS.getD j [] == (x.drop a).take 2) with
      | true =>
        rw [if_pos rfl]
        have : twoB (x.drop a) = true := List.any_eq_true.2 ⟨_, hmem, by rw [hpre, hc]⟩
        refine ⟨_, rfl, ?_⟩
        rw [this]; rfl
      | false =>
        rw [if_neg (by simp)]
        refine ⟨_, rfl, 8 - (j + 1), by omega, j + 1, by omega, rfl, by omega, fun w hw => ?_⟩
        rw [List.take_add_one, List.mem_append] at hw
        rcases hw with hw | hw
        · exact hno w hw
        · rw [List.getElem?_eq_getElem (show j < TWOS.length from hj8)] at hw
          simp at hw
          subst hw
          rw [List.getD, List.getElem?_eq_getElem (show j < TWOS.length from hj8)] at hpre hc
          exact hpre.trans hc
    · have : j = 8 := by omega
      subst this
      rw [ite_f (decide_eq_false (by omega))]
      have : twoB (x.drop a) = false := by
        unfold twoB
        rw [List.any_eq_false]
        intro w hw
        have := hno w (by simpa [TWOS] using hw)
        simp [this]
      refine ⟨_, rfl, ?_⟩
      rw [this]; rfl
  · rw [ite_f (decide_eq_false (by omega))]
    have : twoB (x.drop a) = false := by
      rw [Bool.eq_false_iff]
      intro h
      have := two_le h
      rw [List.length_drop] at this; omega
    refine ⟨_, rfl, ?_⟩
    rw [this]; rfl
theorem f27_2 (x : List UInt8) (hl : x.length ≤ 1000000) {a : Nat} (ha : a < x.length) : iter (fun s : (Int) => F27_2_b x (a : Int) s) FUEL (0 : Int) = some (if kd x[a] = 4 then .ret 1 else .go ()) := by
  refine iter_eq (I := fun m s => ∃ j : Nat, j ≤ 20 ∧ m = 20 - j ∧ s = (j : Int) ∧ x[a] ∉ SIGNS.take j) _ ?_ (m := 20) ⟨0, by omega, rfl, rfl, by simp⟩ (by omega)
  rintro m s ⟨j, hj, rfl, rfl, hno⟩
  show ∃ t, F27_2_b x (a : Int) (j : Int) = some t ∧ _
  unfold F27_2_b
  have hS : SIGNS.length = 20 := rfl
  by_cases hj2 : j < 20
  · rw [ite_t (decide_eq_true (by omega)), show ([40, 41, 123, 125, 91, 93, 44, 59, 61, 60, 62, 43, 45, 42, 47, 37, 38, 124, 94, 33] : List UInt8) = SIGNS from rfl, sidx_get (show j < SIGNS.length by omega), Option.bind_some, sidx_get ha, Option.bind_some, u8_eq]
    by_cases he : (SIGNS[j]'(by omega) == x[a]) = true
    · rw [if_pos he]
      have he := beq_iff_eq.1 he
      refine ⟨_, rfl, ?_⟩
      rw [if_pos ((signs _).2 (he ▸ List.getElem_mem _))]; rfl
    · rw [if_neg he]
      have he : ¬ (SIGNS[j]'(by omega) = x[a]) := fun h => he (beq_iff_eq.2 h)
      refine ⟨_, rfl, 20 - (j + 1), by omega, j + 1, by omega, rfl, wnat (by omega), fun hm => ?_⟩
      rw [List.take_add_one, List.mem_append] at hm
      rcases hm with hm | hm
      · exact hno hm
      · rw [List.getElem?_eq_getElem (show j < SIGNS.length by omega)] at hm
        simp at hm; exact he hm.symm
  · have : j = 20 := by omega
    subst this
    rw [ite_f (decide_eq_false (by omega))]
    refine ⟨_, rfl, ?_⟩
    rw [if_neg (fun h => hno (by rw [List.take_of_length_le (by omega)]; exact (signs _).1 h))]; rfl
theorem f27 (x : List UInt8) (hl : x.length ≤ 1000000) {a : Nat} (ha : a < x.length) : F27 x (a : Int) = some (if twoB (x.drop a) then 2 else if kd x[a] = 4 then 1 else 0) := by
  unfold F27
  rw [f27_1 x hl ha]
  cases twoB (x.drop a) with
  | true => rfl
  | false =>
    simp only [Bool.false_eq_true, if_false, Option.bind_some]
    rw [f27_2 x hl ha]
    by_cases h : kd x[a] = 4
    · rw [if_pos h, if_pos h]; rfl
    · rw [if_neg h, if_neg h]; rfl
theorem two_kd {x : List UInt8} {a : Nat} (ha : a < x.length) (h : twoB (x.drop a) = true) : kd x[a] = 4 := by
  obtain ⟨w, hw, hp⟩ := List.any_eq_true.1 h
  have key : ∀ w ∈ TWOS, ∃ y z, w = [y, z] ∧ kd y = 4 := by
    intro w hw
    simp only [TWOS, List.mem_cons, List.not_mem_nil, or_false] at hw
    rcases hw with rfl | rfl | rfl | rfl | rfl | rfl | rfl | rfl <;> exact ⟨_, _, rfl, by decide⟩
  obtain ⟨y, z, rfl, hk⟩ := key w hw
  rw [List.drop_eq_getElem_cons ha] at hp
  simp only [List.isPrefixOf, Bool.and_eq_true, beq_iff_eq] at hp
  rw [← hp.1]; exact hk
theorem f15a : F15 [97] = some false := by kernel_rfl
theorem worda : wordB [97] = false := by decide
end Go.Eng.Tok
