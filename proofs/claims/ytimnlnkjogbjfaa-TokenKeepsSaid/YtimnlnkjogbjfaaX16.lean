/- Go functions of this seat as Lean functions, each with the proof that the Go call comes to the same (lines written by a program of the session's; no condition beyond those stated). -/
import Derived.Test.YtimnlnkjogbjfaaX0
namespace Go.Proofs.Ytimnlnkjogbjfaa.X
open Go.RowKit Go.Proofs.YtimnlnkjogbjfaaW.PrintWords Go.Proofs.YtimnlnkjogbjfaaW.PrintLast Go.Proofs.YtimnlnkjogbjfaaW.PrintMore
attribute [local go_sem] max2_int min2_int max_two min_two max_three min_three max_four min_four   -- for this text's walks alone
set_option linter.unusedVariables false
set_option linter.unusedSimpArgs false

/-! ### smithyref02_Word: function 15 -/
mutual
def smithyref02_Word.l0 : Nat → ByteArray → Int → Option (Bool)
  | 0, _, _ => none
  | k + 1, x0, x3 => if x3 < (x0.size : Int) then (if 0 ≤ x3 then (if (bt x0 x3) = 32 then (some false) else (smithyref02_Word.l0 k x0 (wrap64 (x3 + 1)))) else (none)) else (smithyref02_Word.l1 k x0 0)
def smithyref02_Word.l1 : Nat → ByteArray → Int → Option (Bool)
  | 0, _, _ => none
  | k + 1, x0, x4 => if (wrap64 ((wrap64 (x4 + (x0.size : Int))) + 2)) ≤ 83 then (if 0 ≤ x4 then (if x4 < 83 then (if (bt (⟨#[32, 102, 117, 110, 99, 32, 118, 97, 114, 32, 105, 102, 32, 101, 108, 115, 101, 32, 119, 104, 105, 108, 101, 32, 98, 114, 101, 97, 107, 32, 99, 111, 110, 116, 105, 110, 117, 101, 32, 114, 101, 116, 117, 114, 110, 32, 112, 114, 105, 110, 116, 32, 116, 114, 117, 101, 32, 102, 97, 108, 115, 101, 32, 105, 54, 52, 32, 105, 51, 50, 32, 117, 56, 32, 98, 111, 111, 108, 32, 102, 54, 52, 32]⟩ : ByteArray) x4) = 32 then (if 0 ≤ (wrap64 (x4 + 1)) then (if (wrap64 (x4 + 1)) ≤ (wrap64 ((wrap64 (x4 + 1)) + (x0.size : Int))) then (if (wrap64 ((wrap64 (x4 + 1)) + (x0.size : Int))) ≤ 83 then (if ((⟨#[32, 102, 117, 110, 99, 32, 118, 97, 114, 32, 105, 102, 32, 101, 108, 115, 101, 32, 119, 104, 105, 108, 101, 32, 98, 114, 101, 97, 107, 32, 99, 111, 110, 116, 105, 110, 117, 101, 32, 114, 101, 116, 117, 114, 110, 32, 112, 114, 105, 110, 116, 32, 116, 114, 117, 101, 32, 102, 97, 108, 115, 101, 32, 105, 54, 52, 32, 105, 51, 50, 32, 117, 56, 32, 98, 111, 111, 108, 32, 102, 54, 52, 32]⟩ : ByteArray).extract ((wrap64 (x4 + 1)) : Int).toNat ((wrap64 ((wrap64 (x4 + 1)) + (x0.size : Int))) : Int).toNat).toList = x0.toList then (if 0 ≤ (wrap64 ((wrap64 (x4 + 1)) + (x0.size : Int))) then (if (wrap64 ((wrap64 (x4 + 1)) + (x0.size : Int))) < 83 then (smithyref02_Word.j2 k x0 x4 ((bt (⟨#[32, 102, 117, 110, 99, 32, 118, 97, 114, 32, 105, 102, 32, 101, 108, 115, 101, 32, 119, 104, 105, 108, 101, 32, 98, 114, 101, 97, 107, 32, 99, 111, 110, 116, 105, 110, 117, 101, 32, 114, 101, 116, 117, 114, 110, 32, 112, 114, 105, 110, 116, 32, 116, 114, 117, 101, 32, 102, 97, 108, 115, 101, 32, 105, 54, 52, 32, 105, 51, 50, 32, 117, 56, 32, 98, 111, 111, 108, 32, 102, 54, 52, 32]⟩ : ByteArray) (wrap64 ((wrap64 (x4 + 1)) + (x0.size : Int)))) == 32)) else (none)) else (none)) else (smithyref02_Word.j2 k x0 x4 false)) else (none)) else (none)) else (none)) else (smithyref02_Word.j2 k x0 x4 false)) else (none)) else (none)) else (some false)
def smithyref02_Word.j2 : Nat → ByteArray → Int → Bool → Option (Bool)
  | 0, _, _, _ => none
  | k + 1, x0, x4, x46 => if x46 = true then (some (decide ((x0.size : Int) > 0))) else (smithyref02_Word.l1 k x0 (wrap64 (x4 + 1)))
end
def smithyref02_Word.f (k : Nat) (a0 : ByteArray) : Option (Bool) := smithyref02_Word.l0 k a0 0
theorem smithyref02_Word.mono_l : ∀ k, (∀ y0 y1, LeO (smithyref02_Word.l0 k y0 y1) (smithyref02_Word.l0 (k + 1) y0 y1)) ∧ (∀ y0 y1, LeO (smithyref02_Word.l1 k y0 y1) (smithyref02_Word.l1 (k + 1) y0 y1)) ∧ (∀ y0 y1 y2, LeO (smithyref02_Word.j2 k y0 y1 y2) (smithyref02_Word.j2 (k + 1) y0 y1 y2))
  | 0 => ⟨fun _ _ r h => by simp [smithyref02_Word.l0] at h, fun _ _ r h => by simp [smithyref02_Word.l1] at h, fun _ _ _ r h => by simp [smithyref02_Word.j2] at h⟩
  | k + 1 => by
    obtain ⟨ih0, ih1, ih2⟩ := smithyref02_Word.mono_l k
    refine ⟨?_, ?_, ?_⟩
    · intro y0 y1
      unfold smithyref02_Word.l0
      repeat' first
      | (with_reducible exact ih0 _ _)
      | (with_reducible exact ih1 _ _)
      | (with_reducible exact ih2 _ _ _)
      | (with_reducible exact LeO.refl _)
      | (with_reducible exact LeO.none _)
      | (with_reducible refine LeO.ite ?_ ?_)
      | (with_reducible refine LeO.bind ?_ (fun _ => ?_))
      | exact ih0 _ _
      | exact ih1 _ _
      | exact ih2 _ _ _
      | exact LeO.none _
      | refine LeO.ite ?_ ?_
      | refine LeO.bind ?_ (fun _ => ?_)
    · intro y0 y1
      unfold smithyref02_Word.l1
      repeat' first
      | (with_reducible exact ih0 _ _)
      | (with_reducible exact ih1 _ _)
      | (with_reducible exact ih2 _ _ _)
      | (with_reducible exact LeO.refl _)
      | (with_reducible exact LeO.none _)
      | (with_reducible refine LeO.ite ?_ ?_)
      | (with_reducible refine LeO.bind ?_ (fun _ => ?_))
      | exact ih0 _ _
      | exact ih1 _ _
      | exact ih2 _ _ _
      | exact LeO.none _
      | refine LeO.ite ?_ ?_
      | refine LeO.bind ?_ (fun _ => ?_)
    · intro y0 y1 y2
      unfold smithyref02_Word.j2
      repeat' first
      | (with_reducible exact ih0 _ _)
      | (with_reducible exact ih1 _ _)
      | (with_reducible exact ih2 _ _ _)
      | (with_reducible exact LeO.refl _)
      | (with_reducible exact LeO.none _)
      | (with_reducible refine LeO.ite ?_ ?_)
      | (with_reducible refine LeO.bind ?_ (fun _ => ?_))
      | exact ih0 _ _
      | exact ih1 _ _
      | exact ih2 _ _ _
      | exact LeO.none _
      | refine LeO.ite ?_ ?_
      | refine LeO.bind ?_ (fun _ => ?_)
theorem smithyref02_Word.mono : ∀ a0 k, LeO (smithyref02_Word.f k a0) (smithyref02_Word.f (k + 1) a0) := by
  intro a0 k
  obtain ⟨ih0, ih1, ih2⟩ := smithyref02_Word.mono_l k
  unfold smithyref02_Word.f
  repeat' first
      | (with_reducible exact ih0 _ _)
      | (with_reducible exact ih1 _ _)
      | (with_reducible exact ih2 _ _ _)
      | (with_reducible exact LeO.refl _)
      | (with_reducible exact LeO.none _)
      | (with_reducible refine LeO.ite ?_ ?_)
      | (with_reducible refine LeO.bind ?_ (fun _ => ?_))
      | exact ih0 _ _
      | exact ih1 _ _
      | exact ih2 _ _ _
      | exact LeO.none _
      | refine LeO.ite ?_ ?_
      | refine LeO.bind ?_ (fun _ => ?_)
set_option maxHeartbeats 8000000 in
set_option maxRecDepth 100000 in
theorem smithyref02_Word.calls (k : Nat) (a0 : ByteArray) (r : Bool) (w : World) (h : smithyref02_Word.f k a0 = some r) :
    Calls Try.prog 15 #[.string a0] w fun e w' => e = .returned (.bool r) ∧ Drawn0 w w' := by
  have H : (smithyref02_Word.l0 k a0 0) = some r := h
  clear h
  have H' := Aside0.mk H
  clear H
  go_enter Try.func15, Try.ntmps15
  go_wp2
  go_loopg [3] k (fun kq v3 w' => ∃ (x3_1 : Int), v3 = .int .i64 x3_1 ∧ Aside0 (smithyref02_Word.l0 kq a0 x3_1 = some r) ∧ Aside0 (kq ≤ k) ∧ Drawn0 w w')
  case atStart => exact ⟨(0), (by first | rfl | (simp; done) | (simp [*]; done)), (by first | exact H' | (rw [hji12]; exact H') | (rw [hji17]; exact H')), ⟨Nat.le_refl _⟩, by repeat (first | exact Drawn0.refl _ | apply Drawn0.step)⟩
  case round =>
    clear H'
    try clear c1
    obtain ⟨x3_1, rfl, HA, HK1, ⟨m1, rfl⟩⟩ := hrel
    cases gk with
    | zero => exact absurd HA.out (by simp [smithyref02_Word.l0])
    | succ k1 =>
      have H := HA.out
      clear HA
      simp only [smithyref02_Word.l0] at H
      by_cases c2 : x3_1 < (a0.size : Int)
      · rw [if_pos c2] at H
        have c2b0 : decide (x3_1 < (a0.size : Int)) = true := decide_eq_true c2
        clear c2
        by_cases c3 : 0 ≤ x3_1
        · rw [if_pos c3] at H
          have c3b0 : decide (0 ≤ x3_1) = true := decide_eq_true c3
          clear c3
          by_cases c5 : (bt a0 x3_1) = 32
          · rw [if_pos c5] at H
            have c5b0 : ((bt a0 x3_1) == 32) = true := beq_iff_eq.mpr c5
            have c5b1 : ((bt a0 x3_1) != 32) = false := bne_eq_false_iff_eq.mpr c5
            clear c5
            obtain rfl := Option.some.inj H
            have p4 : 0 ≤ (x3_1 : Int) := of_decide_eq_true (by first | (with_reducible assumption) | assumption)
            have q4 : x3_1 < (a0.size : Int) := of_decide_eq_true (by first | (with_reducible assumption) | assumption)
            have hx4 := bt_at a0 x3_1
            replace p4 := eq_true p4
            replace q4 := eq_true q4
            go_wp2
            go_ret
            exact ⟨by first | rfl | (simp; done) | (simp [*]; done), by repeat (first | exact Drawn0.refl _ | apply Drawn0.step)⟩
          · rw [if_neg c5] at H
            have c5b0 : ((bt a0 x3_1) == 32) = false := beq_eq_false_iff_ne.mpr c5
            have c5b1 : ((bt a0 x3_1) != 32) = true := bne_iff_ne.mpr c5
            have H' := Aside0.mk H
            clear H
            have p4 : 0 ≤ (x3_1 : Int) := of_decide_eq_true (by first | (with_reducible assumption) | assumption)
            have q4 : x3_1 < (a0.size : Int) := of_decide_eq_true (by first | (with_reducible assumption) | assumption)
            have hx4 := bt_at a0 x3_1
            replace p4 := eq_true p4
            replace q4 := eq_true q4
            go_wp2
            go_roundg k1
            case measure => have := HK1.out; omega
            case rel => exact ⟨(wrap64 (x3_1 + 1)), (by first | rfl | (simp; done) | (simp [*]; done)), (by first | exact H' | (rw [hji12]; exact H') | (rw [hji17]; exact H')), ⟨by have := HK1.out; omega⟩, by repeat (first | exact Drawn0.refl _ | apply Drawn0.step)⟩
        · rw [if_neg c3] at H
          exact absurd H (by simp)
      · rw [if_neg c2] at H
        have c2b0 : decide (x3_1 < (a0.size : Int)) = false := decide_eq_false c2
        clear c2
        have H' := Aside0.mk H
        clear H
        go_wp2
        go_loopg [4] k1 (fun kq v4 w' => ∃ (x4_2 : Int), v4 = .int .i64 x4_2 ∧ Aside0 (smithyref02_Word.l1 kq a0 x4_2 = some r) ∧ Aside0 (kq ≤ k1) ∧ Drawn0 w w')
        case atStart => exact ⟨(0), (by first | rfl | (simp; done) | (simp [*]; done)), (by first | exact H' | (rw [hji12]; exact H') | (rw [hji17]; exact H')), ⟨Nat.le_refl _⟩, by repeat (first | exact Drawn0.refl _ | apply Drawn0.step)⟩
        case round =>
          clear H'
          try clear c1
          try clear c2
          try clear c2b0
          try clear p2
          try clear c3
          try clear c3b0
          try clear p4
          try clear q4
          try clear hx4
          try clear c5
          try clear c5b0
          try clear c5b1
          try clear p4
          try clear q4
          obtain ⟨x4_2, rfl, HA, HK2, ⟨m2, rfl⟩⟩ := hrel
          cases gk with
          | zero => exact absurd HA.out (by simp [smithyref02_Word.l1])
          | succ k2 =>
            have H := HA.out
            clear HA
            simp only [smithyref02_Word.l1] at H
            by_cases c6 : (wrap64 ((wrap64 (x4_2 + (a0.size : Int))) + 2)) ≤ 83
            · rw [if_pos c6] at H
              have c6b0 : decide ((wrap64 ((wrap64 (x4_2 + (a0.size : Int))) + 2)) ≤ 83) = true := decide_eq_true c6
              clear c6
              have HC7 := Aside0.mk H
              clear H
              go_upto_region 9 with (fail)
              go_cut [46] (fun v46 wc => ∃ (kq : Nat) (x46_6 : Bool), v46 = .bool x46_6 ∧ Aside0 (smithyref02_Word.j2 kq a0 x4_2 x46_6 = some r) ∧ Aside0 (kq ≤ k2) ∧ Drawn0 w wc)
              case first =>
                have H := HC7.out
                clear HC7
                by_cases c8 : 0 ≤ x4_2
                · rw [if_pos c8] at H
                  have c8b0 : decide (0 ≤ x4_2) = true := decide_eq_true c8
                  clear c8
                  (first | rw [c8b0] | (simp only [i64_w, i32_w]; rw [c8b0]) | rw [c8b2] | skip)
                  by_cases c9 : x4_2 < 83
                  · rw [if_pos c9] at H
                    have c9b0 : decide (x4_2 < 83) = true := decide_eq_true c9
                    clear c9
                    by_cases c11 : (bt (⟨#[32, 102, 117, 110, 99, 32, 118, 97, 114, 32, 105, 102, 32, 101, 108, 115, 101, 32, 119, 104, 105, 108, 101, 32, 98, 114, 101, 97, 107, 32, 99, 111, 110, 116, 105, 110, 117, 101, 32, 114, 101, 116, 117, 114, 110, 32, 112, 114, 105, 110, 116, 32, 116, 114, 117, 101, 32, 102, 97, 108, 115, 101, 32, 105, 54, 52, 32, 105, 51, 50, 32, 117, 56, 32, 98, 111, 111, 108, 32, 102, 54, 52, 32]⟩ : ByteArray) x4_2) = 32
                    · rw [if_pos c11] at H
                      have c11b0 : ((bt (⟨#[32, 102, 117, 110, 99, 32, 118, 97, 114, 32, 105, 102, 32, 101, 108, 115, 101, 32, 119, 104, 105, 108, 101, 32, 98, 114, 101, 97, 107, 32, 99, 111, 110, 116, 105, 110, 117, 101, 32, 114, 101, 116, 117, 114, 110, 32, 112, 114, 105, 110, 116, 32, 116, 114, 117, 101, 32, 102, 97, 108, 115, 101, 32, 105, 54, 52, 32, 105, 51, 50, 32, 117, 56, 32, 98, 111, 111, 108, 32, 102, 54, 52, 32]⟩ : ByteArray) x4_2) == 32) = true := beq_iff_eq.mpr c11
                      have c11b1 : ((bt (⟨#[32, 102, 117, 110, 99, 32, 118, 97, 114, 32, 105, 102, 32, 101, 108, 115, 101, 32, 119, 104, 105, 108, 101, 32, 98, 114, 101, 97, 107, 32, 99, 111, 110, 116, 105, 110, 117, 101, 32, 114, 101, 116, 117, 114, 110, 32, 112, 114, 105, 110, 116, 32, 116, 114, 117, 101, 32, 102, 97, 108, 115, 101, 32, 105, 54, 52, 32, 105, 51, 50, 32, 117, 56, 32, 98, 111, 111, 108, 32, 102, 54, 52, 32]⟩ : ByteArray) x4_2) != 32) = false := bne_eq_false_iff_eq.mpr c11
                      clear c11
                      obtain ⟨ji12, hji12⟩ : ∃ j_ : Int, (wrap64 (x4_2 + 1)) = j_ := ⟨_, rfl⟩
                      replace H : (if 0 ≤ (ji12) then (if (ji12) ≤ (wrap64 ((ji12) + (a0.size : Int))) then (if (wrap64 ((ji12) + (a0.size : Int))) ≤ 83 then (if ((⟨#[32, 102, 117, 110, 99, 32, 118, 97, 114, 32, 105, 102, 32, 101, 108, 115, 101, 32, 119, 104, 105, 108, 101, 32, 98, 114, 101, 97, 107, 32, 99, 111, 110, 116, 105, 110, 117, 101, 32, 114, 101, 116, 117, 114, 110, 32, 112, 114, 105, 110, 116, 32, 116, 114, 117, 101, 32, 102, 97, 108, 115, 101, 32, 105, 54, 52, 32, 105, 51, 50, 32, 117, 56, 32, 98, 111, 111, 108, 32, 102, 54, 52, 32]⟩ : ByteArray).extract ((ji12) : Int).toNat ((wrap64 ((ji12) + (a0.size : Int))) : Int).toNat).toList = a0.toList then (if 0 ≤ (wrap64 ((ji12) + (a0.size : Int))) then (if (wrap64 ((ji12) + (a0.size : Int))) < 83 then (smithyref02_Word.j2 k2 a0 x4_2 ((bt (⟨#[32, 102, 117, 110, 99, 32, 118, 97, 114, 32, 105, 102, 32, 101, 108, 115, 101, 32, 119, 104, 105, 108, 101, 32, 98, 114, 101, 97, 107, 32, 99, 111, 110, 116, 105, 110, 117, 101, 32, 114, 101, 116, 117, 114, 110, 32, 112, 114, 105, 110, 116, 32, 116, 114, 117, 101, 32, 102, 97, 108, 115, 101, 32, 105, 54, 52, 32, 105, 51, 50, 32, 117, 56, 32, 98, 111, 111, 108, 32, 102, 54, 52, 32]⟩ : ByteArray) (wrap64 ((ji12) + (a0.size : Int)))) == 32)) else (none)) else (none)) else (smithyref02_Word.j2 k2 a0 x4_2 false)) else (none)) else (none)) else (none)) = some r := by first | (rw [hji12] at H; exact H) | (simp only [hji12] at H ⊢; exact H)
                      have hji12w : (IntKind.i64.wrap (x4_2 + 1)) = ji12 := (i64_w _).trans hji12
                      by_cases c13 : 0 ≤ (ji12)
                      · rw [if_pos c13] at H
                        have c13b0 := eq_true c13
                        have c13b1 : decide (0 ≤ (ji12)) = true := decide_eq_true c13
                        clear c13
                        by_cases c14 : (ji12) ≤ (wrap64 ((ji12) + (a0.size : Int)))
                        · rw [if_pos c14] at H
                          have c14b0 := eq_true c14
                          have c14b1 : decide ((ji12) ≤ (wrap64 ((ji12) + (a0.size : Int)))) = true := decide_eq_true c14
                          by_cases c15 : (wrap64 ((ji12) + (a0.size : Int))) ≤ 83
                          · rw [if_pos c15] at H
                            have c15b0 := eq_true c15
                            have c15b1 : decide ((wrap64 ((ji12) + (a0.size : Int))) ≤ 83) = true := decide_eq_true c15
                            by_cases c16 : ((⟨#[32, 102, 117, 110, 99, 32, 118, 97, 114, 32, 105, 102, 32, 101, 108, 115, 101, 32, 119, 104, 105, 108, 101, 32, 98, 114, 101, 97, 107, 32, 99, 111, 110, 116, 105, 110, 117, 101, 32, 114, 101, 116, 117, 114, 110, 32, 112, 114, 105, 110, 116, 32, 116, 114, 117, 101, 32, 102, 97, 108, 115, 101, 32, 105, 54, 52, 32, 105, 51, 50, 32, 117, 56, 32, 98, 111, 111, 108, 32, 102, 54, 52, 32]⟩ : ByteArray).extract ((ji12) : Int).toNat ((wrap64 ((ji12) + (a0.size : Int))) : Int).toNat).toList = a0.toList
                            · rw [if_pos c16] at H
                              have c16b0 : (((⟨#[32, 102, 117, 110, 99, 32, 118, 97, 114, 32, 105, 102, 32, 101, 108, 115, 101, 32, 119, 104, 105, 108, 101, 32, 98, 114, 101, 97, 107, 32, 99, 111, 110, 116, 105, 110, 117, 101, 32, 114, 101, 116, 117, 114, 110, 32, 112, 114, 105, 110, 116, 32, 116, 114, 117, 101, 32, 102, 97, 108, 115, 101, 32, 105, 54, 52, 32, 105, 51, 50, 32, 117, 56, 32, 98, 111, 111, 108, 32, 102, 54, 52, 32]⟩ : ByteArray).extract ((ji12) : Int).toNat ((wrap64 ((ji12) + (a0.size : Int))) : Int).toNat).toList == a0.toList) = true := beq_iff_eq.mpr c16
                              have c16b1 : (((⟨#[32, 102, 117, 110, 99, 32, 118, 97, 114, 32, 105, 102, 32, 101, 108, 115, 101, 32, 119, 104, 105, 108, 101, 32, 98, 114, 101, 97, 107, 32, 99, 111, 110, 116, 105, 110, 117, 101, 32, 114, 101, 116, 117, 114, 110, 32, 112, 114, 105, 110, 116, 32, 116, 114, 117, 101, 32, 102, 97, 108, 115, 101, 32, 105, 54, 52, 32, 105, 51, 50, 32, 117, 56, 32, 98, 111, 111, 108, 32, 102, 54, 52, 32]⟩ : ByteArray).extract ((ji12) : Int).toNat ((wrap64 ((ji12) + (a0.size : Int))) : Int).toNat).toList != a0.toList) = false := bne_eq_false_iff_eq.mpr c16
                              clear c16
                              obtain ⟨ji17, hji17⟩ : ∃ j_ : Int, (wrap64 ((ji12) + (a0.size : Int))) = j_ := ⟨_, rfl⟩
                              replace H : (if 0 ≤ (ji17) then (if (ji17) < 83 then (smithyref02_Word.j2 k2 a0 x4_2 ((bt (⟨#[32, 102, 117, 110, 99, 32, 118, 97, 114, 32, 105, 102, 32, 101, 108, 115, 101, 32, 119, 104, 105, 108, 101, 32, 98, 114, 101, 97, 107, 32, 99, 111, 110, 116, 105, 110, 117, 101, 32, 114, 101, 116, 117, 114, 110, 32, 112, 114, 105, 110, 116, 32, 116, 114, 117, 101, 32, 102, 97, 108, 115, 101, 32, 105, 54, 52, 32, 105, 51, 50, 32, 117, 56, 32, 98, 111, 111, 108, 32, 102, 54, 52, 32]⟩ : ByteArray) (ji17)) == 32)) else (none)) else (none)) = some r := by first | (rw [hji17] at H; exact H) | (simp only [hji17] at H ⊢; exact H)
                              (try rw [hji17] at c14b0)
                              (try rw [hji17] at c14b1)
                              (try rw [hji17] at c14)
                              (try rw [hji17] at c15b0)
                              (try rw [hji17] at c15b1)
                              (try rw [hji17] at c15)
                              (try rw [hji17] at c16b0)
                              (try rw [hji17] at c16b1)
                              have hji17w : (IntKind.i64.wrap ((ji12) + (a0.size : Int))) = ji17 := (i64_w _).trans hji17
                              by_cases c18 : 0 ≤ (ji17)
                              · rw [if_pos c18] at H
                                have c18b0 : decide (0 ≤ (ji17)) = true := decide_eq_true c18
                                clear c18
                                by_cases c19 : (ji17) < 83
                                · rw [if_pos c19] at H
                                  have c19b0 : decide ((ji17) < 83) = true := decide_eq_true c19
                                  clear c19
                                  have H' := Aside0.mk H
                                  clear H
                                  have p10 : 0 ≤ (x4_2 : Int) := of_decide_eq_true (by first | (with_reducible assumption) | assumption)
                                  have q10 : x4_2 < (83 : Int) := of_decide_eq_true (by first | (with_reducible assumption) | assumption)
                                  have hx10 := bt_at (⟨#[32, 102, 117, 110, 99, 32, 118, 97, 114, 32, 105, 102, 32, 101, 108, 115, 101, 32, 119, 104, 105, 108, 101, 32, 98, 114, 101, 97, 107, 32, 99, 111, 110, 116, 105, 110, 117, 101, 32, 114, 101, 116, 117, 114, 110, 32, 112, 114, 105, 110, 116, 32, 116, 114, 117, 101, 32, 102, 97, 108, 115, 101, 32, 105, 54, 52, 32, 105, 51, 50, 32, 117, 56, 32, 98, 111, 111, 108, 32, 102, 54, 52, 32]⟩ : ByteArray) x4_2
                                  replace p10 := eq_true p10
                                  replace q10 := eq_true q10
                                  have p20 : 0 ≤ ((ji17) : Int) := of_decide_eq_true (by first | (with_reducible assumption) | assumption)
                                  have q20 : (ji17) < (83 : Int) := of_decide_eq_true (by first | (with_reducible assumption) | assumption)
                                  have hx20 := bt_at (⟨#[32, 102, 117, 110, 99, 32, 118, 97, 114, 32, 105, 102, 32, 101, 108, 115, 101, 32, 119, 104, 105, 108, 101, 32, 98, 114, 101, 97, 107, 32, 99, 111, 110, 116, 105, 110, 117, 101, 32, 114, 101, 116, 117, 114, 110, 32, 112, 114, 105, 110, 116, 32, 116, 114, 117, 101, 32, 102, 97, 108, 115, 101, 32, 105, 54, 52, 32, 105, 51, 50, 32, 117, 56, 32, 98, 111, 111, 108, 32, 102, 54, 52, 32]⟩ : ByteArray) (ji17)
                                  replace p20 := eq_true p20
                                  replace q20 := eq_true q20
                                  go_wp2
                                  go_meet
                                  case rel => exact ⟨_, (((bt (⟨#[32, 102, 117, 110, 99, 32, 118, 97, 114, 32, 105, 102, 32, 101, 108, 115, 101, 32, 119, 104, 105, 108, 101, 32, 98, 114, 101, 97, 107, 32, 99, 111, 110, 116, 105, 110, 117, 101, 32, 114, 101, 116, 117, 114, 110, 32, 112, 114, 105, 110, 116, 32, 116, 114, 117, 101, 32, 102, 97, 108, 115, 101, 32, 105, 54, 52, 32, 105, 51, 50, 32, 117, 56, 32, 98, 111, 111, 108, 32, 102, 54, 52, 32]⟩ : ByteArray) (ji17)) == 32)), (by first | rfl | (simp; done) | (simp only [← hji17] <;> (first | rfl | simp)) | (simp [*]; done)), (by first | exact H' | (rw [hji12]; exact H') | (rw [hji17]; exact H')), ⟨by have := HK1.out; have := HK2.out; first | omega | exact Nat.le_refl _⟩, by repeat (first | exact Drawn0.refl _ | apply Drawn0.step)⟩
                                · rw [if_neg c19] at H
                                  exact absurd H (by simp)
                              · rw [if_neg c18] at H
                                exact absurd H (by simp)
                            · rw [if_neg c16] at H
                              have c16b0 : (((⟨#[32, 102, 117, 110, 99, 32, 118, 97, 114, 32, 105, 102, 32, 101, 108, 115, 101, 32, 119, 104, 105, 108, 101, 32, 98, 114, 101, 97, 107, 32, 99, 111, 110, 116, 105, 110, 117, 101, 32, 114, 101, 116, 117, 114, 110, 32, 112, 114, 105, 110, 116, 32, 116, 114, 117, 101, 32, 102, 97, 108, 115, 101, 32, 105, 54, 52, 32, 105, 51, 50, 32, 117, 56, 32, 98, 111, 111, 108, 32, 102, 54, 52, 32]⟩ : ByteArray).extract ((ji12) : Int).toNat ((wrap64 ((ji12) + (a0.size : Int))) : Int).toNat).toList == a0.toList) = false := beq_eq_false_iff_ne.mpr c16
                              have c16b1 : (((⟨#[32, 102, 117, 110, 99, 32, 118, 97, 114, 32, 105, 102, 32, 101, 108, 115, 101, 32, 119, 104, 105, 108, 101, 32, 98, 114, 101, 97, 107, 32, 99, 111, 110, 116, 105, 110, 117, 101, 32, 114, 101, 116, 117, 114, 110, 32, 112, 114, 105, 110, 116, 32, 116, 114, 117, 101, 32, 102, 97, 108, 115, 101, 32, 105, 54, 52, 32, 105, 51, 50, 32, 117, 56, 32, 98, 111, 111, 108, 32, 102, 54, 52, 32]⟩ : ByteArray).extract ((ji12) : Int).toNat ((wrap64 ((ji12) + (a0.size : Int))) : Int).toNat).toList != a0.toList) = true := bne_iff_ne.mpr c16
                              have H' := Aside0.mk H
                              clear H
                              have p10 : 0 ≤ (x4_2 : Int) := of_decide_eq_true (by first | (with_reducible assumption) | assumption)
                              have q10 : x4_2 < (83 : Int) := of_decide_eq_true (by first | (with_reducible assumption) | assumption)
                              have hx10 := bt_at (⟨#[32, 102, 117, 110, 99, 32, 118, 97, 114, 32, 105, 102, 32, 101, 108, 115, 101, 32, 119, 104, 105, 108, 101, 32, 98, 114, 101, 97, 107, 32, 99, 111, 110, 116, 105, 110, 117, 101, 32, 114, 101, 116, 117, 114, 110, 32, 112, 114, 105, 110, 116, 32, 116, 114, 117, 101, 32, 102, 97, 108, 115, 101, 32, 105, 54, 52, 32, 105, 51, 50, 32, 117, 56, 32, 98, 111, 111, 108, 32, 102, 54, 52, 32]⟩ : ByteArray) x4_2
                              replace p10 := eq_true p10
                              replace q10 := eq_true q10
                              go_wp2
                              go_meet
                              case rel => exact ⟨_, (false), (by first | rfl | (simp; done) | (simp [*]; done)), (by first | exact H' | (rw [hji12]; exact H') | (rw [hji17]; exact H')), ⟨by have := HK1.out; have := HK2.out; first | omega | exact Nat.le_refl _⟩, by repeat (first | exact Drawn0.refl _ | apply Drawn0.step)⟩
                          · rw [if_neg c15] at H
                            exact absurd H (by simp)
                        · rw [if_neg c14] at H
                          exact absurd H (by simp)
                      · rw [if_neg c13] at H
                        exact absurd H (by simp)
                    · rw [if_neg c11] at H
                      have c11b0 : ((bt (⟨#[32, 102, 117, 110, 99, 32, 118, 97, 114, 32, 105, 102, 32, 101, 108, 115, 101, 32, 119, 104, 105, 108, 101, 32, 98, 114, 101, 97, 107, 32, 99, 111, 110, 116, 105, 110, 117, 101, 32, 114, 101, 116, 117, 114, 110, 32, 112, 114, 105, 110, 116, 32, 116, 114, 117, 101, 32, 102, 97, 108, 115, 101, 32, 105, 54, 52, 32, 105, 51, 50, 32, 117, 56, 32, 98, 111, 111, 108, 32, 102, 54, 52, 32]⟩ : ByteArray) x4_2) == 32) = false := beq_eq_false_iff_ne.mpr c11
                      have c11b1 : ((bt (⟨#[32, 102, 117, 110, 99, 32, 118, 97, 114, 32, 105, 102, 32, 101, 108, 115, 101, 32, 119, 104, 105, 108, 101, 32, 98, 114, 101, 97, 107, 32, 99, 111, 110, 116, 105, 110, 117, 101, 32, 114, 101, 116, 117, 114, 110, 32, 112, 114, 105, 110, 116, 32, 116, 114, 117, 101, 32, 102, 97, 108, 115, 101, 32, 105, 54, 52, 32, 105, 51, 50, 32, 117, 56, 32, 98, 111, 111, 108, 32, 102, 54, 52, 32]⟩ : ByteArray) x4_2) != 32) = true := bne_iff_ne.mpr c11
                      have H' := Aside0.mk H
                      clear H
                      have p10 : 0 ≤ (x4_2 : Int) := of_decide_eq_true (by first | (with_reducible assumption) | assumption)
                      have q10 : x4_2 < (83 : Int) := of_decide_eq_true (by first | (with_reducible assumption) | assumption)
                      have hx10 := bt_at (⟨#[32, 102, 117, 110, 99, 32, 118, 97, 114, 32, 105, 102, 32, 101, 108, 115, 101, 32, 119, 104, 105, 108, 101, 32, 98, 114, 101, 97, 107, 32, 99, 111, 110, 116, 105, 110, 117, 101, 32, 114, 101, 116, 117, 114, 110, 32, 112, 114, 105, 110, 116, 32, 116, 114, 117, 101, 32, 102, 97, 108, 115, 101, 32, 105, 54, 52, 32, 105, 51, 50, 32, 117, 56, 32, 98, 111, 111, 108, 32, 102, 54, 52, 32]⟩ : ByteArray) x4_2
                      replace p10 := eq_true p10
                      replace q10 := eq_true q10
                      go_wp2
                      go_meet
                      case rel => exact ⟨_, (false), (by first | rfl | (simp; done) | (simp [*]; done)), (by first | exact H' | (rw [hji12]; exact H') | (rw [hji17]; exact H')), ⟨by have := HK1.out; have := HK2.out; first | omega | exact Nat.le_refl _⟩, by repeat (first | exact Drawn0.refl _ | apply Drawn0.step)⟩
                  · rw [if_neg c9] at H
                    exact absurd H (by simp)
                · rw [if_neg c8] at H
                  exact absurd H (by simp)
              case rest =>
                clear HC7
                try clear c1
                try clear p1
                try clear q1
                try clear hx1
                try clear c2
                try clear c2b0
                try clear p2
                try clear q2
                try clear hx2
                try clear c3
                try clear c3b0
                try clear p4
                try clear q4
                try clear hx4
                try clear c5
                try clear c5b0
                try clear c5b1
                try clear c6
                try clear c6b0
                try clear p6
                try clear c8
                try clear c8b0
                try clear c8b2
                try clear c9
                try clear c9b0
                try clear p10
                try clear q10
                try clear hx10
                try clear c11
                try clear c11b0
                try clear c11b1
                try clear c13
                try clear c13b0
                try clear c13b1
                try clear c14
                try clear c14b0
                try clear c14b1
                try clear c15
                try clear c15b0
                try clear c15b1
                try clear c16
                try clear c16b0
                try clear c16b1
                try clear c18
                try clear c18b0
                try clear c19
                try clear c19b0
                try clear p20
                try clear q20
                try clear hx20
                try clear p10
                try clear p2
                try clear p20
                try clear p4
                try clear q10
                try clear q20
                try clear q4
                obtain ⟨kq, x46_6, rfl, HA, HJ6, ⟨mc6, rfl⟩⟩ := hcut
                cases kq with
                | zero => exact absurd HA.out (by simp [smithyref02_Word.j2])
                | succ kj6 =>
                  have H := HA.out
                  clear HA
                  simp only [smithyref02_Word.j2] at H
                  by_cases c21 : x46_6 = true
                  · subst c21
                    have H1 : (some (decide ((a0.size : Int) > 0))) = some r := by rw [if_pos rfl] at H; exact H
                    clear H
                    have H := H1
                    clear H1
                    obtain rfl := Option.some.inj H
                    go_wp2
                    go_ret
                    exact ⟨by first | rfl | (simp; done) | (simp [*]; done), by repeat (first | exact Drawn0.refl _ | apply Drawn0.step)⟩
                  · replace c21 := Bool.eq_false_iff.mpr c21
                    subst c21
                    have H1 : (smithyref02_Word.l1 kj6 a0 (wrap64 (x4_2 + 1))) = some r := by rw [if_neg (show ¬ (false = true) by decide)] at H; exact H
                    clear H
                    have H := H1
                    clear H1
                    have H' := Aside0.mk H
                    clear H
                    go_wp2
                    go_roundg kj6
                    case measure => have := HK1.out; have := HK2.out; have := HJ6.out; omega
                    case rel => exact ⟨(wrap64 (x4_2 + 1)), (by first | rfl | (simp; done) | (simp [*]; done)), (by first | exact H' | (rw [hji12]; exact H') | (rw [hji17]; exact H')), ⟨by have := HK1.out; have := HK2.out; have := HJ6.out; omega⟩, by repeat (first | exact Drawn0.refl _ | apply Drawn0.step)⟩
            · rw [if_neg c6] at H
              have c6b0 : decide ((wrap64 ((wrap64 (x4_2 + (a0.size : Int))) + 2)) ≤ 83) = false := decide_eq_false c6
              clear c6
              obtain rfl := Option.some.inj H
              go_wp2
              go_ret
              exact ⟨by first | rfl | (simp; done) | (simp [*]; done), by repeat (first | exact Drawn0.refl _ | apply Drawn0.step)⟩

end Go.Proofs.Ytimnlnkjogbjfaa.X
