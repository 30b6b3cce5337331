/- Go functions of this seat as Lean functions, each with the proof that the Go call comes to the same (lines written by a program of the session's; no condition beyond those stated). -/
import Derived.Test.YtimnlnkjogbjfaaX0
import Derived.Test.YtimnlnkjogbjfaaX1
import Derived.Test.YtimnlnkjogbjfaaX3
import Derived.Test.YtimnlnkjogbjfaaX6
import Derived.Test.YtimnlnkjogbjfaaX7
import Derived.Test.YtimnlnkjogbjfaaX8
import Derived.Test.YtimnlnkjogbjfaaX9
namespace Go.Proofs.Ytimnlnkjogbjfaa.X
open Go.RowKit Go.Proofs.YtimnlnkjogbjfaaW.PrintWords Go.Proofs.YtimnlnkjogbjfaaW.PrintLast Go.Proofs.YtimnlnkjogbjfaaW.PrintMore
attribute [local go_sem] max2_int min2_int max_two min_two max_three min_three max_four min_four   -- for this text's walks alone
set_option linter.unusedVariables false
set_option linter.unusedSimpArgs false

attribute [local go_sem high] eqA26
/-! ### smithyref02_Sign: function 27 -/
mutual
def smithyref02_Sign.l0 : Nat → ByteArray → Int → Int → Option (Int)
  | 0, _, _, _ => none
  | k + 1, x0, x1, x5 => if (wrap64 (x1 + 2)) ≤ (x0.size : Int) then (smithyref02_Sign.j1 k x0 x1 x5 (decide ((wrap64 (x5 + 2)) < 25))) else (smithyref02_Sign.j1 k x0 x1 x5 false)
def smithyref02_Sign.j1 : Nat → ByteArray → Int → Int → Bool → Option (Int)
  | 0, _, _, _, _ => none
  | k + 1, x0, x1, x5, x16 => if x16 = true then (if 0 ≤ (wrap64 (x5 + 1)) then (if (wrap64 (x5 + 1)) ≤ (wrap64 (x5 + 3)) then (if (wrap64 (x5 + 3)) ≤ 25 then (if 0 ≤ x1 then (if x1 ≤ (wrap64 (x1 + 2)) then (if (wrap64 (x1 + 2)) ≤ (x0.size : Int) then (if ((⟨#[32, 61, 61, 32, 33, 61, 32, 60, 61, 32, 62, 61, 32, 60, 60, 32, 62, 62, 32, 38, 38, 32, 124, 124, 32]⟩ : ByteArray).extract ((wrap64 (x5 + 1)) : Int).toNat ((wrap64 (x5 + 3)) : Int).toNat).toList = (x0.extract (x1 : Int).toNat ((wrap64 (x1 + 2)) : Int).toNat).toList then (some 2) else (smithyref02_Sign.l0 k x0 x1 (wrap64 (x5 + 3)))) else (none)) else (none)) else (none)) else (none)) else (none)) else (none)) else (smithyref02_Sign.l1 k x0 x1 0)
def smithyref02_Sign.l1 : Nat → ByteArray → Int → Int → Option (Int)
  | 0, _, _, _ => none
  | k + 1, x0, x1, x6 => if x6 < 20 then (if 0 ≤ x6 then (if 0 ≤ x1 then (if x1 < (x0.size : Int) then (if (bt (⟨#[40, 41, 123, 125, 91, 93, 44, 59, 61, 60, 62, 43, 45, 42, 47, 37, 38, 124, 94, 33]⟩ : ByteArray) x6) = (bt x0 x1) then (some 1) else (smithyref02_Sign.l1 k x0 x1 (wrap64 (x6 + 1)))) else (none)) else (none)) else (none)) else (some 0)
end
def smithyref02_Sign.f (k : Nat) (a0 : ByteArray) (a1 : Int) : Option (Int) := smithyref02_Sign.l0 k a0 a1 0
theorem smithyref02_Sign.mono_l : ∀ k, (∀ y0 y1 y2, LeO (smithyref02_Sign.l0 k y0 y1 y2) (smithyref02_Sign.l0 (k + 1) y0 y1 y2)) ∧ (∀ y0 y1 y2 y3, LeO (smithyref02_Sign.j1 k y0 y1 y2 y3) (smithyref02_Sign.j1 (k + 1) y0 y1 y2 y3)) ∧ (∀ y0 y1 y2, LeO (smithyref02_Sign.l1 k y0 y1 y2) (smithyref02_Sign.l1 (k + 1) y0 y1 y2))
  | 0 => ⟨fun _ _ _ r h => by simp [smithyref02_Sign.l0] at h, fun _ _ _ _ r h => by simp [smithyref02_Sign.j1] at h, fun _ _ _ r h => by simp [smithyref02_Sign.l1] at h⟩
  | k + 1 => by
    obtain ⟨ih0, ih1, ih2⟩ := smithyref02_Sign.mono_l k
    refine ⟨?_, ?_, ?_⟩
    · intro y0 y1 y2
      unfold smithyref02_Sign.l0
      repeat' first
      | (with_reducible exact ih0 _ _ _)
      | (with_reducible exact ih1 _ _ _ _)
      | (with_reducible exact ih2 _ _ _)
      | (with_reducible exact LeO.refl _)
      | (with_reducible exact LeO.none _)
      | (with_reducible refine LeO.ite ?_ ?_)
      | (with_reducible refine LeO.bind ?_ (fun _ => ?_))
      | exact ih0 _ _ _
      | exact ih1 _ _ _ _
      | exact ih2 _ _ _
      | exact LeO.none _
      | refine LeO.ite ?_ ?_
      | refine LeO.bind ?_ (fun _ => ?_)
    · intro y0 y1 y2 y3
      unfold smithyref02_Sign.j1
      repeat' first
      | (with_reducible exact ih0 _ _ _)
      | (with_reducible exact ih1 _ _ _ _)
      | (with_reducible exact ih2 _ _ _)
      | (with_reducible exact LeO.refl _)
      | (with_reducible exact LeO.none _)
      | (with_reducible refine LeO.ite ?_ ?_)
      | (with_reducible refine LeO.bind ?_ (fun _ => ?_))
      | exact ih0 _ _ _
      | exact ih1 _ _ _ _
      | exact ih2 _ _ _
      | exact LeO.none _
      | refine LeO.ite ?_ ?_
      | refine LeO.bind ?_ (fun _ => ?_)
    · intro y0 y1 y2
      unfold smithyref02_Sign.l1
      repeat' first
      | (with_reducible exact ih0 _ _ _)
      | (with_reducible exact ih1 _ _ _ _)
      | (with_reducible exact ih2 _ _ _)
      | (with_reducible exact LeO.refl _)
      | (with_reducible exact LeO.none _)
      | (with_reducible refine LeO.ite ?_ ?_)
      | (with_reducible refine LeO.bind ?_ (fun _ => ?_))
      | exact ih0 _ _ _
      | exact ih1 _ _ _ _
      | exact ih2 _ _ _
      | exact LeO.none _
      | refine LeO.ite ?_ ?_
      | refine LeO.bind ?_ (fun _ => ?_)
theorem smithyref02_Sign.mono : ∀ a0 a1 k, LeO (smithyref02_Sign.f k a0 a1) (smithyref02_Sign.f (k + 1) a0 a1) := by
  intro a0 a1 k
  obtain ⟨ih0, ih1, ih2⟩ := smithyref02_Sign.mono_l k
  unfold smithyref02_Sign.f
  repeat' first
      | (with_reducible exact ih0 _ _ _)
      | (with_reducible exact ih1 _ _ _ _)
      | (with_reducible exact ih2 _ _ _)
      | (with_reducible exact LeO.refl _)
      | (with_reducible exact LeO.none _)
      | (with_reducible refine LeO.ite ?_ ?_)
      | (with_reducible refine LeO.bind ?_ (fun _ => ?_))
      | exact ih0 _ _ _
      | exact ih1 _ _ _ _
      | exact ih2 _ _ _
      | exact LeO.none _
      | refine LeO.ite ?_ ?_
      | refine LeO.bind ?_ (fun _ => ?_)
set_option maxHeartbeats 8000000 in
set_option maxRecDepth 100000 in
theorem smithyref02_Sign.calls (k : Nat) (a0 : ByteArray) (a1 : Int) (r : Int) (w : World) (h : smithyref02_Sign.f k a0 a1 = some r) :
    Calls Try.prog 27 #[.string a0, .int .i64 a1] w fun e w' => e = .returned (.int .i64 r) ∧ Drawn0 w w' := by
  have H : (smithyref02_Sign.l0 k a0 a1 0) = some r := h
  clear h
  have H' := Aside0.mk H
  clear H
  go_enter Try.func27, Try.ntmps27
  go_wp2
  repeat (go_quiet (fail); try go_wp2)
  go_loopg [5] k (fun kq v5 w' => ∃ (x5_1 : Int), v5 = .int .i64 x5_1 ∧ Aside0 (smithyref02_Sign.l0 kq a0 a1 x5_1 = some r) ∧ Aside0 (kq ≤ k) ∧ Drawn0 w w')
  case atStart => exact ⟨(0), (by first | rfl | (simp; done) | (simp [*]; done)), (by first | exact H' | (rw [hji6]; exact H')), ⟨Nat.le_refl _⟩, by repeat (first | exact Drawn0.refl _ | apply Drawn0.step)⟩
  case round =>
    clear H'
    try clear c2
    try clear p2
    obtain ⟨x5_1, rfl, HA, HK1, ⟨m1, rfl⟩⟩ := hrel
    cases gk with
    | zero => exact absurd HA.out (by simp [smithyref02_Sign.l0])
    | succ k1 =>
      have H := HA.out
      clear HA
      simp only [smithyref02_Sign.l0] at H
      have HC3 := Aside0.mk H
      clear H
      go_upto_region 2 with (fail)
      repeat (go_quiet (fail); go_upto_region 2 with (fail))
      go_cut [16] (fun v16 wc => ∃ (kq : Nat) (x16_2 : Bool), v16 = .bool x16_2 ∧ Aside0 (smithyref02_Sign.j1 kq a0 a1 x5_1 x16_2 = some r) ∧ Aside0 (kq ≤ k1) ∧ Drawn0 w wc)
      case first =>
        have H := HC3.out
        clear HC3
        by_cases c4 : (wrap64 (a1 + 2)) ≤ (a0.size : Int)
        · rw [if_pos c4] at H
          have c4b0 : decide ((wrap64 (a1 + 2)) ≤ (a0.size : Int)) = true := decide_eq_true c4
          clear c4
          (first | rw [c4b0] | (simp only [i64_w, i32_w]; rw [c4b0]) | rw [c4b2] | skip)
          have H' := Aside0.mk H
          clear H
          go_wp2
          repeat (go_quiet (fail); try go_wp2)
          go_meet
          case rel => exact ⟨_, (decide ((wrap64 (x5_1 + 2)) < 25)), (by first | rfl | (simp; done) | (simp [*]; done)), (by first | exact H' | (rw [hji6]; exact H')), ⟨by have := HK1.out; first | omega | exact Nat.le_refl _⟩, by repeat (first | exact Drawn0.refl _ | apply Drawn0.step)⟩
        · rw [if_neg c4] at H
          have c4b0 : decide ((wrap64 (a1 + 2)) ≤ (a0.size : Int)) = false := decide_eq_false c4
          clear c4
          (first | rw [c4b0] | (simp only [i64_w, i32_w]; rw [c4b0]) | rw [c4b2] | skip)
          have H' := Aside0.mk H
          clear H
          go_wp2
          repeat (go_quiet (fail); try go_wp2)
          go_meet
          case rel => exact ⟨_, (false), (by first | rfl | (simp; done) | (simp [*]; done)), (by first | exact H' | (rw [hji6]; exact H')), ⟨by have := HK1.out; first | omega | exact Nat.le_refl _⟩, by repeat (first | exact Drawn0.refl _ | apply Drawn0.step)⟩
      case rest =>
        clear HC3
        try clear c2
        try clear p2
        try clear c4
        try clear c4b0
        try clear c4b2
        try clear p2
        obtain ⟨kq, x16_2, rfl, HA, HJ2, ⟨mc2, rfl⟩⟩ := hcut
        cases kq with
        | zero => exact absurd HA.out (by simp [smithyref02_Sign.j1])
        | succ kj2 =>
          have H := HA.out
          clear HA
          simp only [smithyref02_Sign.j1] at H
          by_cases c5 : x16_2 = true
          · subst c5
            have H1 : (if 0 ≤ (wrap64 (x5_1 + 1)) then (if (wrap64 (x5_1 + 1)) ≤ (wrap64 (x5_1 + 3)) then (if (wrap64 (x5_1 + 3)) ≤ 25 then (if 0 ≤ a1 then (if a1 ≤ (wrap64 (a1 + 2)) then (if (wrap64 (a1 + 2)) ≤ (a0.size : Int) then (if ((⟨#[32, 61, 61, 32, 33, 61, 32, 60, 61, 32, 62, 61, 32, 60, 60, 32, 62, 62, 32, 38, 38, 32, 124, 124, 32]⟩ : ByteArray).extract ((wrap64 (x5_1 + 1)) : Int).toNat ((wrap64 (x5_1 + 3)) : Int).toNat).toList = (a0.extract (a1 : Int).toNat ((wrap64 (a1 + 2)) : Int).toNat).toList then (some 2) else (smithyref02_Sign.l0 kj2 a0 a1 (wrap64 (x5_1 + 3)))) else (none)) else (none)) else (none)) else (none)) else (none)) else (none)) = some r := by rw [if_pos rfl] at H; exact H
            clear H
            have H := H1
            clear H1
            obtain ⟨ji6, hji6⟩ : ∃ j_ : Int, (wrap64 (x5_1 + 1)) = j_ := ⟨_, rfl⟩
            replace H : (if 0 ≤ (ji6) then (if (ji6) ≤ (wrap64 (x5_1 + 3)) then (if (wrap64 (x5_1 + 3)) ≤ 25 then (if 0 ≤ a1 then (if a1 ≤ (wrap64 (a1 + 2)) then (if (wrap64 (a1 + 2)) ≤ (a0.size : Int) then (if ((⟨#[32, 61, 61, 32, 33, 61, 32, 60, 61, 32, 62, 61, 32, 60, 60, 32, 62, 62, 32, 38, 38, 32, 124, 124, 32]⟩ : ByteArray).extract ((ji6) : Int).toNat ((wrap64 (x5_1 + 3)) : Int).toNat).toList = (a0.extract (a1 : Int).toNat ((wrap64 (a1 + 2)) : Int).toNat).toList then (some 2) else (smithyref02_Sign.l0 kj2 a0 a1 (wrap64 (x5_1 + 3)))) else (none)) else (none)) else (none)) else (none)) else (none)) else (none)) = some r := by first | (rw [hji6] at H; exact H) | (simp only [hji6] at H ⊢; exact H)
            have hji6w : (IntKind.i64.wrap (x5_1 + 1)) = ji6 := (i64_w _).trans hji6
            by_cases c7 : 0 ≤ (ji6)
            · rw [if_pos c7] at H
              have c7b0 := eq_true c7
              have c7b1 : decide (0 ≤ (ji6)) = true := decide_eq_true c7
              clear c7
              by_cases c8 : (ji6) ≤ (wrap64 (x5_1 + 3))
              · rw [if_pos c8] at H
                have c8b0 := eq_true c8
                have c8b1 : decide ((ji6) ≤ (wrap64 (x5_1 + 3))) = true := decide_eq_true c8
                by_cases c9 : (wrap64 (x5_1 + 3)) ≤ 25
                · rw [if_pos c9] at H
                  have c9b0 := eq_true c9
                  have c9b1 : decide ((wrap64 (x5_1 + 3)) ≤ 25) = true := decide_eq_true c9
                  by_cases c10 : 0 ≤ a1
                  · rw [if_pos c10] at H
                    have c10b0 := eq_true c10
                    have c10b1 : decide (0 ≤ a1) = true := decide_eq_true c10
                    clear c10
                    by_cases c11 : a1 ≤ (wrap64 (a1 + 2))
                    · rw [if_pos c11] at H
                      have c11b0 := eq_true c11
                      have c11b1 : decide (a1 ≤ (wrap64 (a1 + 2))) = true := decide_eq_true c11
                      by_cases c12 : (wrap64 (a1 + 2)) ≤ (a0.size : Int)
                      · rw [if_pos c12] at H
                        have c12b0 := eq_true c12
                        have c12b1 : decide ((wrap64 (a1 + 2)) ≤ (a0.size : Int)) = true := decide_eq_true c12
                        by_cases c13 : ((⟨#[32, 61, 61, 32, 33, 61, 32, 60, 61, 32, 62, 61, 32, 60, 60, 32, 62, 62, 32, 38, 38, 32, 124, 124, 32]⟩ : ByteArray).extract ((ji6) : Int).toNat ((wrap64 (x5_1 + 3)) : Int).toNat).toList = (a0.extract (a1 : Int).toNat ((wrap64 (a1 + 2)) : Int).toNat).toList
                        · rw [if_pos c13] at H
                          have c13b0 : (((⟨#[32, 61, 61, 32, 33, 61, 32, 60, 61, 32, 62, 61, 32, 60, 60, 32, 62, 62, 32, 38, 38, 32, 124, 124, 32]⟩ : ByteArray).extract ((ji6) : Int).toNat ((wrap64 (x5_1 + 3)) : Int).toNat).toList == (a0.extract (a1 : Int).toNat ((wrap64 (a1 + 2)) : Int).toNat).toList) = true := beq_iff_eq.mpr c13
                          have c13b1 : (((⟨#[32, 61, 61, 32, 33, 61, 32, 60, 61, 32, 62, 61, 32, 60, 60, 32, 62, 62, 32, 38, 38, 32, 124, 124, 32]⟩ : ByteArray).extract ((ji6) : Int).toNat ((wrap64 (x5_1 + 3)) : Int).toNat).toList != (a0.extract (a1 : Int).toNat ((wrap64 (a1 + 2)) : Int).toNat).toList) = false := bne_eq_false_iff_eq.mpr c13
                          clear c13
                          obtain rfl := Option.some.inj H
                          go_wp2
                          repeat (go_quiet (fail); try go_wp2)
                          go_ret
                          exact ⟨by first | rfl | (simp; done) | (simp only [← hji6] <;> (first | rfl | simp)) | (simp [*]; done), by repeat (first | exact Drawn0.refl _ | apply Drawn0.step)⟩
                        · rw [if_neg c13] at H
                          have c13b0 : (((⟨#[32, 61, 61, 32, 33, 61, 32, 60, 61, 32, 62, 61, 32, 60, 60, 32, 62, 62, 32, 38, 38, 32, 124, 124, 32]⟩ : ByteArray).extract ((ji6) : Int).toNat ((wrap64 (x5_1 + 3)) : Int).toNat).toList == (a0.extract (a1 : Int).toNat ((wrap64 (a1 + 2)) : Int).toNat).toList) = false := beq_eq_false_iff_ne.mpr c13
                          have c13b1 : (((⟨#[32, 61, 61, 32, 33, 61, 32, 60, 61, 32, 62, 61, 32, 60, 60, 32, 62, 62, 32, 38, 38, 32, 124, 124, 32]⟩ : ByteArray).extract ((ji6) : Int).toNat ((wrap64 (x5_1 + 3)) : Int).toNat).toList != (a0.extract (a1 : Int).toNat ((wrap64 (a1 + 2)) : Int).toNat).toList) = true := bne_iff_ne.mpr c13
                          have H' := Aside0.mk H
                          clear H
                          go_wp2
                          repeat (go_quiet (fail); try go_wp2)
                          go_roundg kj2
                          case measure => have := HK1.out; have := HJ2.out; omega
                          case rel => exact ⟨(wrap64 (x5_1 + 3)), (by first | rfl | (simp; done) | (simp [*]; done)), (by first | exact H' | (rw [hji6]; exact H')), ⟨by have := HK1.out; have := HJ2.out; omega⟩, by repeat (first | exact Drawn0.refl _ | apply Drawn0.step)⟩
                      · rw [if_neg c12] at H
                        exact absurd H (by simp)
                    · rw [if_neg c11] at H
                      exact absurd H (by simp)
                  · rw [if_neg c10] at H
                    exact absurd H (by simp)
                · rw [if_neg c9] at H
                  exact absurd H (by simp)
              · rw [if_neg c8] at H
                exact absurd H (by simp)
            · rw [if_neg c7] at H
              exact absurd H (by simp)
          · replace c5 := Bool.eq_false_iff.mpr c5
            subst c5
            have H1 : (smithyref02_Sign.l1 kj2 a0 a1 0) = some r := by rw [if_neg (show ¬ (false = true) by decide)] at H; exact H
            clear H
            have H := H1
            clear H1
            have H' := Aside0.mk H
            clear H
            go_wp2
            repeat (go_quiet (fail); try go_wp2)
            go_loopg [6] kj2 (fun kq v6 w' => ∃ (x6_3 : Int), v6 = .int .i64 x6_3 ∧ Aside0 (smithyref02_Sign.l1 kq a0 a1 x6_3 = some r) ∧ Aside0 (kq ≤ kj2) ∧ Drawn0 w w')
            case atStart => exact ⟨(0), (by first | rfl | (simp; done) | (simp [*]; done)), (by first | exact H' | (rw [hji6]; exact H')), ⟨Nat.le_refl _⟩, by repeat (first | exact Drawn0.refl _ | apply Drawn0.step)⟩
            case round =>
              clear H'
              try clear c1
              try clear c2
              try clear p2
              try clear c4
              try clear c4b0
              try clear c4b2
              try clear c5
              try clear p6
              try clear c7
              try clear c7b0
              try clear c7b1
              try clear c8
              try clear c8b0
              try clear c8b1
              try clear c9
              try clear c9b0
              try clear c9b1
              try clear c10
              try clear c10b0
              try clear c10b1
              try clear c11
              try clear c11b0
              try clear c11b1
              try clear c12
              try clear c12b0
              try clear c12b1
              try clear c13
              try clear c13b0
              try clear c13b1
              try clear p2
              obtain ⟨x6_3, rfl, HA, HK3, ⟨m3, rfl⟩⟩ := hrel
              cases gk with
              | zero => exact absurd HA.out (by simp [smithyref02_Sign.l1])
              | succ k3 =>
                have H := HA.out
                clear HA
                simp only [smithyref02_Sign.l1] at H
                by_cases c14 : x6_3 < 20
                · rw [if_pos c14] at H
                  have c14b0 : decide (x6_3 < 20) = true := decide_eq_true c14
                  clear c14
                  by_cases c15 : 0 ≤ x6_3
                  · rw [if_pos c15] at H
                    have c15b0 : decide (0 ≤ x6_3) = true := decide_eq_true c15
                    clear c15
                    by_cases c17 : 0 ≤ a1
                    · rw [if_pos c17] at H
                      have c17b0 : decide (0 ≤ a1) = true := decide_eq_true c17
                      clear c17
                      by_cases c18 : a1 < (a0.size : Int)
                      · rw [if_pos c18] at H
                        have c18b0 : decide (a1 < (a0.size : Int)) = true := decide_eq_true c18
                        clear c18
                        by_cases c20 : (bt (⟨#[40, 41, 123, 125, 91, 93, 44, 59, 61, 60, 62, 43, 45, 42, 47, 37, 38, 124, 94, 33]⟩ : ByteArray) x6_3) = (bt a0 a1)
                        · rw [if_pos c20] at H
                          have c20b0 : ((bt (⟨#[40, 41, 123, 125, 91, 93, 44, 59, 61, 60, 62, 43, 45, 42, 47, 37, 38, 124, 94, 33]⟩ : ByteArray) x6_3) == (bt a0 a1)) = true := beq_iff_eq.mpr c20
                          have c20b1 : ((bt (⟨#[40, 41, 123, 125, 91, 93, 44, 59, 61, 60, 62, 43, 45, 42, 47, 37, 38, 124, 94, 33]⟩ : ByteArray) x6_3) != (bt a0 a1)) = false := bne_eq_false_iff_eq.mpr c20
                          clear c20
                          obtain rfl := Option.some.inj H
                          have p16 : 0 ≤ (x6_3 : Int) := of_decide_eq_true (by first | (with_reducible assumption) | assumption)
                          have q16 : x6_3 < (20 : Int) := of_decide_eq_true (by first | (with_reducible assumption) | assumption)
                          have hx16 := bt_at (⟨#[40, 41, 123, 125, 91, 93, 44, 59, 61, 60, 62, 43, 45, 42, 47, 37, 38, 124, 94, 33]⟩ : ByteArray) x6_3
                          replace p16 := eq_true p16
                          replace q16 := eq_true q16
                          have p19 : 0 ≤ (a1 : Int) := of_decide_eq_true (by first | (with_reducible assumption) | assumption)
                          have q19 : a1 < (a0.size : Int) := of_decide_eq_true (by first | (with_reducible assumption) | assumption)
                          have hx19 := bt_at a0 a1
                          replace p19 := eq_true p19
                          replace q19 := eq_true q19
                          go_wp2
                          repeat (go_quiet (fail); try go_wp2)
                          go_ret
                          exact ⟨by first | rfl | (simp; done) | (simp [*]; done), by repeat (first | exact Drawn0.refl _ | apply Drawn0.step)⟩
                        · rw [if_neg c20] at H
                          have c20b0 : ((bt (⟨#[40, 41, 123, 125, 91, 93, 44, 59, 61, 60, 62, 43, 45, 42, 47, 37, 38, 124, 94, 33]⟩ : ByteArray) x6_3) == (bt a0 a1)) = false := beq_eq_false_iff_ne.mpr c20
                          have c20b1 : ((bt (⟨#[40, 41, 123, 125, 91, 93, 44, 59, 61, 60, 62, 43, 45, 42, 47, 37, 38, 124, 94, 33]⟩ : ByteArray) x6_3) != (bt a0 a1)) = true := bne_iff_ne.mpr c20
                          have H' := Aside0.mk H
                          clear H
                          have p16 : 0 ≤ (x6_3 : Int) := of_decide_eq_true (by first | (with_reducible assumption) | assumption)
                          have q16 : x6_3 < (20 : Int) := of_decide_eq_true (by first | (with_reducible assumption) | assumption)
                          have hx16 := bt_at (⟨#[40, 41, 123, 125, 91, 93, 44, 59, 61, 60, 62, 43, 45, 42, 47, 37, 38, 124, 94, 33]⟩ : ByteArray) x6_3
                          replace p16 := eq_true p16
                          replace q16 := eq_true q16
                          have p19 : 0 ≤ (a1 : Int) := of_decide_eq_true (by first | (with_reducible assumption) | assumption)
                          have q19 : a1 < (a0.size : Int) := of_decide_eq_true (by first | (with_reducible assumption) | assumption)
                          have hx19 := bt_at a0 a1
                          replace p19 := eq_true p19
                          replace q19 := eq_true q19
                          go_wp2
                          repeat (go_quiet (fail); try go_wp2)
                          go_roundg k3
                          case measure => have := HK1.out; have := HJ2.out; have := HK3.out; omega
                          case rel => exact ⟨(wrap64 (x6_3 + 1)), (by first | rfl | (simp; done) | (simp [*]; done)), (by first | exact H' | (rw [hji6]; exact H')), ⟨by have := HK1.out; have := HJ2.out; have := HK3.out; omega⟩, by repeat (first | exact Drawn0.refl _ | apply Drawn0.step)⟩
                      · rw [if_neg c18] at H
                        exact absurd H (by simp)
                    · rw [if_neg c17] at H
                      exact absurd H (by simp)
                  · rw [if_neg c15] at H
                    exact absurd H (by simp)
                · rw [if_neg c14] at H
                  have c14b0 : decide (x6_3 < 20) = false := decide_eq_false c14
                  clear c14
                  obtain rfl := Option.some.inj H
                  go_wp2
                  repeat (go_quiet (fail); try go_wp2)
                  go_ret
                  exact ⟨by first | rfl | (simp; done) | (simp [*]; done), by repeat (first | exact Drawn0.refl _ | apply Drawn0.step)⟩

/-! ### smithyref02_Scan: function 12 -/
def smithyref02_Scan.l0 : Nat → ByteArray → List (S35) → Int → Option ((List (S35)) × Int × Int)
  | 0, _, _, _ => none
  | k + 1, x0, x4, x5 => if x5 < (x0.size : Int) then (if 0 ≤ x5 then ((smithyref02_Letter.f (bt x0 x5)).bind fun t228 => (if t228 = true then ((smithyref02_row.f k x0 x5 true).bind fun t229 => (if (wrap64 (t229 - x5)) > 32 then (some (([] : List (S35)), 120, x5)) else (if x5 ≤ t229 then (if t229 ≤ (x0.size : Int) then ((smithyref02_Word.f k (x0.extract (x5 : Int).toNat (t229 : Int).toNat)).bind fun t230 => (if t230 = true then (if x4.length < 5864062014805 then ((smithyref02_skip.f k x0 t229).bind fun t234 => (smithyref02_Scan.l0 k x0 (x4 ++ [(⟨3, x5, t229⟩ : S35)]) t234)) else (none)) else (if x4.length < 5864062014805 then ((smithyref02_skip.f k x0 t229).bind fun t238 => (smithyref02_Scan.l0 k x0 (x4 ++ [(⟨2, x5, t229⟩ : S35)]) t238)) else (none)))) else (none)) else (none)))) else ((smithyref02_Digit.f (bt x0 x5)).bind fun t239 => (if t239 = true then ((smithyref02_literal.f k x0 x5).bind fun bt240 => (if bt240.2.2.2.2 = true then (if x4.length < 5864062014805 then ((smithyref02_skip.f k x0 bt240.2.2.1).bind fun t249 => (smithyref02_Scan.l0 k x0 (x4 ++ [(⟨bt240.1, bt240.2.1, bt240.2.2.1⟩ : S35)]) t249)) else (none)) else (some (([] : List (S35)), 120, bt240.2.2.2.1)))) else ((smithyref02_Sign.f k x0 x5).bind fun t250 => (if t250 = 0 then (some (([] : List (S35)), 120, x5)) else (if x4.length < 5864062014805 then ((smithyref02_skip.f k x0 (wrap64 (x5 + t250))).bind fun t254 => (smithyref02_Scan.l0 k x0 (x4 ++ [(⟨6, x5, wrap64 (x5 + t250)⟩ : S35)]) t254)) else (none)))))))) else (none)) else (if x4.length < 5864062014805 then (some ((x4 ++ [(⟨1, (x0.size : Int), (x0.size : Int)⟩ : S35)]), 0, 0)) else (none))
def smithyref02_Scan.f (k : Nat) (a0 : ByteArray) : Option ((List (S35)) × Int × Int) := if (a0.size : Int) > 65536 then (some (([] : List (S35)), 3, 0)) else ((smithyref02_skip.f k a0 0).bind fun t223 => (smithyref02_Scan.l0 k a0 ([] : List (S35)) t223))
theorem smithyref02_Scan.mono_l : ∀ k, (∀ y0 y1 y2, LeO (smithyref02_Scan.l0 k y0 y1 y2) (smithyref02_Scan.l0 (k + 1) y0 y1 y2))
  | 0 => fun _ _ _ r h => by simp [smithyref02_Scan.l0] at h
  | k + 1 => by
    have ih0 := smithyref02_Scan.mono_l k
    · intro y0 y1 y2
      unfold smithyref02_Scan.l0
      repeat' first
      | (with_reducible exact ih0 _ _ _)
      | (with_reducible exact smithyref02_Sign.mono _ _ _)
      | (with_reducible exact smithyref02_Word.mono _ _)
      | (with_reducible exact smithyref02_literal.mono _ _ _)
      | (with_reducible exact smithyref02_row.mono _ _ _ _)
      | (with_reducible exact smithyref02_skip.mono _ _ _)
      | (with_reducible exact LeO.refl _)
      | (with_reducible exact LeO.none _)
      | (with_reducible refine LeO.ite ?_ ?_)
      | (with_reducible refine LeO.bind ?_ (fun _ => ?_))
      | exact ih0 _ _ _
      | exact smithyref02_Sign.mono _ _ _
      | exact smithyref02_Word.mono _ _
      | exact smithyref02_literal.mono _ _ _
      | exact smithyref02_row.mono _ _ _ _
      | exact smithyref02_skip.mono _ _ _
      | exact LeO.none _
      | refine LeO.ite ?_ ?_
      | refine LeO.bind ?_ (fun _ => ?_)
theorem smithyref02_Scan.mono : ∀ a0 k, LeO (smithyref02_Scan.f k a0) (smithyref02_Scan.f (k + 1) a0) := by
  intro a0 k
  have ih0 := smithyref02_Scan.mono_l k
  unfold smithyref02_Scan.f
  repeat' first
      | (with_reducible exact ih0 _ _ _)
      | (with_reducible exact smithyref02_Sign.mono _ _ _)
      | (with_reducible exact smithyref02_Word.mono _ _)
      | (with_reducible exact smithyref02_literal.mono _ _ _)
      | (with_reducible exact smithyref02_row.mono _ _ _ _)
      | (with_reducible exact smithyref02_skip.mono _ _ _)
      | (with_reducible exact LeO.refl _)
      | (with_reducible exact LeO.none _)
      | (with_reducible refine LeO.ite ?_ ?_)
      | (with_reducible refine LeO.bind ?_ (fun _ => ?_))
      | exact ih0 _ _ _
      | exact smithyref02_Sign.mono _ _ _
      | exact smithyref02_Word.mono _ _
      | exact smithyref02_literal.mono _ _ _
      | exact smithyref02_row.mono _ _ _ _
      | exact smithyref02_skip.mono _ _ _
      | exact LeO.none _
      | refine LeO.ite ?_ ?_
      | refine LeO.bind ?_ (fun _ => ?_)
theorem xp_setCell_drewN (w : World) (n : Nat) (a : Addr) (v : Value) : (w.drewN n).setCell a v = (w.setCell a v).drewN n := rfl
attribute [local go_sem] xp_setCell_drewN
set_option maxHeartbeats 8000000 in
set_option maxRecDepth 100000 in
theorem smithyref02_Scan.calls (k : Nat) (a0 : ByteArray) (r1 : List (S35)) (r2 : Int) (r3 : Int) (w : World) (h : smithyref02_Scan.f k a0 = some (r1, r2, r3)) :
    Calls Try.prog 12 #[.string a0] w fun e w' => ∃ v0_ : Value, e = .returned (.tuple #[v0_, .agg #[.int .i64 r2, .int .i64 r3]]) ∧ Kd.R k35 35 w' w.heap.size (fun _ => True) v0_ r1 ∧ Below w.heap.size w w' := by
  have hu26 := Try.underlying26
  have hu35 := Try.underlying35
  have HB := Aside0.mk (Below.refl w.heap.size w)
  have H : (if (a0.size : Int) > 65536 then (some (([] : List (S35)), 3, 0)) else ((smithyref02_skip.f k a0 0).bind fun t223 => (smithyref02_Scan.l0 k a0 ([] : List (S35)) t223))) = some (r1, r2, r3) := h
  clear h
  by_cases c2 : (a0.size : Int) > 65536
  · rw [if_pos c2] at H
    have c2b0 : decide (65536 < (a0.size : Int)) = true := decide_eq_true c2
    have c2b1 : decide (65536 < a0.size) = true := decide_eq_true (by omega)
    clear c2
    simp only [Option.some.injEq, Prod.mk.injEq] at H
    obtain ⟨rfl, rfl, rfl⟩ := H
    go_enter Try.func12, Try.ntmps12
    go_wp2_with (first | ((with_reducible refine gate_dst (N := 3) rfl ?_); refine box_event ?hg (N := 3) ?hd (cs := #[.int .i64 0, .int .i64 0]) (t := 26) ?hr ?_; (case hd => rfl); (case hg => rfl); (case hr => first | (go_simp; done) | (go_simp; rfl)); intro gb207 hg w3 hbox hb; have n0_ := Aside0.mk (below_step (by repeat (first | (with_reducible first | exact HB.out | apply below_alloc | apply pw_below_drewN | apply below_drew1) | exact HB.out)) hb); have n1_ := Aside0.mk (hbox); have n2_ := Aside0.mk ((by rw [hg]; exact (below_size (by repeat (first | (with_reducible first | exact HB.out | apply below_alloc | apply pw_below_drewN | apply below_drew1) | exact HB.out))) : w.heap.size ≤ gb207)); have n3_ := Aside0.mk ((by rw [hg]; exact (below_size (by repeat (first | (with_reducible first | exact HB.out | apply below_alloc | apply pw_below_drewN | apply below_drew1) | exact HB.out))) : w.heap.size ≤ gb207)); clear HB; have HB := n0_; have BK207 := n1_; have GW207 := n2_; have GE207 := n3_; clear n0_ n1_ n2_ n3_; clear hb hbox hg; have hcz4_0 : w3.cell? ⟨gb207, 0, none⟩ = some (.int .i64 0) := (blk_cell BK207.out 0).trans rfl; have hcz4_1 : w3.cell? ⟨gb207, 1, none⟩ = some (.int .i64 0) := (blk_cell BK207.out 1).trans rfl; have hfz4_0 := blk_frozen BK207.out 0; have hfz4_1 := blk_frozen BK207.out 1))
    refine bodyPost_ret (results_tc rfl _ _ gb207 26 #[.int .i64 3, .int .i64 0] (0, 0) _ rfl (by (with_reducible repeat (first | refine blk_drewN ?_ _ | refine blk_drew ?_ | refine blk_alloc ?_ _)); refine blk_put (cs := #[.int .i64 3, .int .i64 0]) ?_ 1 _ rfl; (with_reducible repeat (first | refine blk_drewN ?_ _ | refine blk_drew ?_ | refine blk_alloc ?_ _)); refine blk_put (cs := #[.int .i64 0, .int .i64 0]) ?_ 0 _ rfl; (with_reducible repeat (first | refine blk_drewN ?_ _ | refine blk_drew ?_ | refine blk_alloc ?_ _)); exact BK207.out) Try.underlying26 rfl (by kernel_rfl)) rfl ?_
    exact ⟨_, by first | rfl | (simp [errW_none, errW_some] <;> rfl) | (simp [*, errW_none, errW_some] <;> rfl), by first | exact Kd.R_nil _ _ _ _ _ | exact Kd.N_nil _ _ _ _ _ | exact Kd.V_nil _ _ _ _ _ | exact Kd.Q_nil _ _ _ _ _ | exact Kd.S_nil _ _ _ _ _, by repeat (first | (with_reducible first | exact HB.out | apply below_alloc | apply pw_below_drewN | apply below_drew1 | refine below_set ?_ GE207.out) | exact HB.out)⟩
  · rw [if_neg c2] at H
    have c2b0 : decide (65536 < (a0.size : Int)) = false := decide_eq_false c2
    have c2b1 : decide (65536 < a0.size) = false := decide_eq_false (by omega)
    clear c2
    replace H := Option.bind_eq_some_iff.mp H
    obtain ⟨t223, A50, H⟩ := H
    replace H : (smithyref02_Scan.l0 k a0 ([] : List (S35)) t223) = some (r1, r2, r3) := H
    have A5 := Aside0.mk A50
    clear A50
    have H' := Aside0.mk H
    clear H
    go_enter Try.func12, Try.ntmps12
    go_wp2_with (first | ((with_reducible refine gate_dst (N := 3) rfl ?_); refine box_event ?hg (N := 3) ?hd (cs := #[.int .i64 0, .int .i64 0]) (t := 26) ?hr ?_; (case hd => rfl); (case hg => rfl); (case hr => first | (go_simp; done) | (go_simp; rfl)); intro gb207 hg w6 hbox hb; have n0_ := Aside0.mk (below_step (by repeat (first | (with_reducible first | exact HB.out | apply below_alloc | apply pw_below_drewN | apply below_drew1) | exact HB.out)) hb); have n1_ := Aside0.mk (hbox); have n2_ := Aside0.mk ((by rw [hg]; exact (below_size (by repeat (first | (with_reducible first | exact HB.out | apply below_alloc | apply pw_below_drewN | apply below_drew1) | exact HB.out))) : w.heap.size ≤ gb207)); have n3_ := Aside0.mk ((by rw [hg]; exact (below_size (by repeat (first | (with_reducible first | exact HB.out | apply below_alloc | apply pw_below_drewN | apply below_drew1) | exact HB.out))) : w.heap.size ≤ gb207)); clear HB; have HB := n0_; have BK207 := n1_; have GW207 := n2_; have GE207 := n3_; clear n0_ n1_ n2_ n3_; clear hb hbox hg) | ((with_reducible refine gate_callee (f := 22) rfl ?_); refine goesL_ (some 16) rfl rfl Try.func22 (by kernel_rfl) rfl #[.string a0, .int .i64 0] rfl (by (try simp only [List.map_toArray, List.map_cons, List.map_nil]); first | done | rfl | (simp only [List.length_drop, List.length_take]; rfl)) ?_; (with_reducible refine (smithyref02_skip.calls k a0 0 t223 _ A5.out).mono ?_); rintro e w' ⟨rfl, ⟨nd, rfl⟩⟩; refine ⟨_, rfl, ?_⟩))
    go_loopg [4, 5] k (fun kq v4 v5 w' => ∃ (x4_1 : List (S35)) (x5_1 : Int) (x208000_1 : Int) (x208001_1 : Int), v5 = .int .i64 x5_1 ∧ Aside0 (smithyref02_Scan.l0 kq a0 x4_1 x5_1 = some (r1, r2, r3)) ∧ Aside0 (kq ≤ k) ∧ Aside0 (Kd.R k35 35 w' w.heap.size (fun _ => True) v4 x4_1) ∧ Aside0 (w'.heap[gb207]? = some (.cells #[.int .i64 x208000_1, .int .i64 x208001_1] 26 (0, 0))) ∧ Aside0 (Below w.heap.size w w'))
    case atStart => exact ⟨(([] : List (S35))), (t223), (0), (0), (by first | rfl | (simp; done) | (simp [*]; done)), H', ⟨Nat.le_refl _⟩, ⟨by first | exact Kd.R_nil _ _ _ _ _ | exact Kd.N_nil _ _ _ _ _ | exact Kd.V_nil _ _ _ _ _ | exact Kd.Q_nil _ _ _ _ _ | exact Kd.S_nil _ _ _ _ _⟩, ⟨by (with_reducible repeat (first | refine blk_drewN ?_ _ | refine blk_drew ?_ | refine blk_alloc ?_ _)); exact BK207.out⟩, ⟨by repeat (first | (with_reducible first | exact HB.out | apply below_alloc | apply pw_below_drewN | apply below_drew1 | refine below_set ?_ GE207.out) | exact HB.out)⟩⟩
    case round =>
      clear H'
      try clear c1
      try clear c2
      try clear c2b0
      try clear c2b1
      try clear p2
      try clear hcz4_0
      try clear hcz4_1
      try clear hfz4_0
      try clear hfz4_1
      obtain ⟨x4_1, x5_1, x208000_1, x208001_1, rfl, HA, HK1, HO_4, BK207, HB⟩ := hrel
      cases gk with
      | zero => exact absurd HA.out (by simp [smithyref02_Scan.l0])
      | succ k1 =>
        have H := HA.out
        clear HA
        simp only [smithyref02_Scan.l0] at H
        by_cases c7 : x5_1 < (a0.size : Int)
        · rw [if_pos c7] at H
          have c7b0 : decide (x5_1 < (a0.size : Int)) = true := decide_eq_true c7
          clear c7
          by_cases c8 : 0 ≤ x5_1
          · rw [if_pos c8] at H
            have c8b0 : decide (0 ≤ x5_1) = true := decide_eq_true c8
            clear c8
            replace H := Option.bind_eq_some_iff.mp H
            obtain ⟨t228, A100, H⟩ := H
            replace H : (if t228 = true then ((smithyref02_row.f k1 a0 x5_1 true).bind fun t229 => (if (wrap64 (t229 - x5_1)) > 32 then (some (([] : List (S35)), 120, x5_1)) else (if x5_1 ≤ t229 then (if t229 ≤ (a0.size : Int) then ((smithyref02_Word.f k1 (a0.extract (x5_1 : Int).toNat (t229 : Int).toNat)).bind fun t230 => (if t230 = true then (if x4_1.length < 5864062014805 then ((smithyref02_skip.f k1 a0 t229).bind fun t234 => (smithyref02_Scan.l0 k1 a0 (x4_1 ++ [(⟨3, x5_1, t229⟩ : S35)]) t234)) else (none)) else (if x4_1.length < 5864062014805 then ((smithyref02_skip.f k1 a0 t229).bind fun t238 => (smithyref02_Scan.l0 k1 a0 (x4_1 ++ [(⟨2, x5_1, t229⟩ : S35)]) t238)) else (none)))) else (none)) else (none)))) else ((smithyref02_Digit.f (bt a0 x5_1)).bind fun t239 => (if t239 = true then ((smithyref02_literal.f k1 a0 x5_1).bind fun bt240 => (if bt240.2.2.2.2 = true then (if x4_1.length < 5864062014805 then ((smithyref02_skip.f k1 a0 bt240.2.2.1).bind fun t249 => (smithyref02_Scan.l0 k1 a0 (x4_1 ++ [(⟨bt240.1, bt240.2.1, bt240.2.2.1⟩ : S35)]) t249)) else (none)) else (some (([] : List (S35)), 120, bt240.2.2.2.1)))) else ((smithyref02_Sign.f k1 a0 x5_1).bind fun t250 => (if t250 = 0 then (some (([] : List (S35)), 120, x5_1)) else (if x4_1.length < 5864062014805 then ((smithyref02_skip.f k1 a0 (wrap64 (x5_1 + t250))).bind fun t254 => (smithyref02_Scan.l0 k1 a0 (x4_1 ++ [(⟨6, x5_1, wrap64 (x5_1 + t250)⟩ : S35)]) t254)) else (none))))))) = some (r1, r2, r3) := H
            have A10 := Aside0.mk A100
            clear A100
            by_cases c11 : t228 = true
            · subst c11
              have H1 : ((smithyref02_row.f k1 a0 x5_1 true).bind fun t229 => (if (wrap64 (t229 - x5_1)) > 32 then (some (([] : List (S35)), 120, x5_1)) else (if x5_1 ≤ t229 then (if t229 ≤ (a0.size : Int) then ((smithyref02_Word.f k1 (a0.extract (x5_1 : Int).toNat (t229 : Int).toNat)).bind fun t230 => (if t230 = true then (if x4_1.length < 5864062014805 then ((smithyref02_skip.f k1 a0 t229).bind fun t234 => (smithyref02_Scan.l0 k1 a0 (x4_1 ++ [(⟨3, x5_1, t229⟩ : S35)]) t234)) else (none)) else (if x4_1.length < 5864062014805 then ((smithyref02_skip.f k1 a0 t229).bind fun t238 => (smithyref02_Scan.l0 k1 a0 (x4_1 ++ [(⟨2, x5_1, t229⟩ : S35)]) t238)) else (none)))) else (none)) else (none)))) = some (r1, r2, r3) := by rw [if_pos rfl] at H; exact H
              clear H
              have H := H1
              clear H1
              replace H := Option.bind_eq_some_iff.mp H
              obtain ⟨t229, A120, H⟩ := H
              replace H : (if (wrap64 (t229 - x5_1)) > 32 then (some (([] : List (S35)), 120, x5_1)) else (if x5_1 ≤ t229 then (if t229 ≤ (a0.size : Int) then ((smithyref02_Word.f k1 (a0.extract (x5_1 : Int).toNat (t229 : Int).toNat)).bind fun t230 => (if t230 = true then (if x4_1.length < 5864062014805 then ((smithyref02_skip.f k1 a0 t229).bind fun t234 => (smithyref02_Scan.l0 k1 a0 (x4_1 ++ [(⟨3, x5_1, t229⟩ : S35)]) t234)) else (none)) else (if x4_1.length < 5864062014805 then ((smithyref02_skip.f k1 a0 t229).bind fun t238 => (smithyref02_Scan.l0 k1 a0 (x4_1 ++ [(⟨2, x5_1, t229⟩ : S35)]) t238)) else (none)))) else (none)) else (none))) = some (r1, r2, r3) := H
              have A12 := Aside0.mk A120
              clear A120
              by_cases c13 : (wrap64 (t229 - x5_1)) > 32
              · rw [if_pos c13] at H
                have c13b0 : decide (32 < (wrap64 (t229 - x5_1))) = true := decide_eq_true c13
                clear c13
                simp only [Option.some.injEq, Prod.mk.injEq] at H
                obtain ⟨rfl, rfl, rfl⟩ := H
                have p9 : 0 ≤ (x5_1 : Int) := of_decide_eq_true (by first | (with_reducible assumption) | assumption)
                have q9 : x5_1 < (a0.size : Int) := of_decide_eq_true (by first | (with_reducible assumption) | assumption)
                have hx9 := bt_at a0 x5_1
                replace p9 := eq_true p9
                replace q9 := eq_true q9
                have cz0 : wr.cell? ⟨gb207, 0, none⟩ = some (.int .i64 x208000_1) := (blk_cell BK207.out 0).trans rfl
                have cz1 : wr.cell? ⟨gb207, 1, none⟩ = some (.int .i64 x208001_1) := (blk_cell BK207.out 1).trans rfl
                have fz0 := blk_frozen BK207.out 0
                have fz1 := blk_frozen BK207.out 1
                have hlt := blk_lt BK207.out
                have hlt1 := Nat.lt_succ_of_lt hlt
                have hne := Nat.ne_of_lt (blk_lt BK207.out)
                have hne' := Nat.ne_of_gt (blk_lt BK207.out)
                have hne1 := Nat.ne_of_lt hlt1
                go_wp2_with (first | (go_at_call 23; ((with_reducible refine (smithyref02_Letter.calls (bt a0 x5_1) true _ A10.out).mono ?_)); rintro e w' ⟨rfl, ⟨nd, rfl⟩⟩) | (go_at_call 24; ((with_reducible refine (smithyref02_row.calls k1 a0 x5_1 true t229 _ A12.out).mono ?_)); rintro e w' ⟨rfl, ⟨nd, rfl⟩⟩))
                refine bodyPost_ret (results_tc rfl _ _ gb207 26 #[.int .i64 120, .int .i64 x5_1] (0, 0) _ rfl (by repeat (first | (with_reducible exact BK207.out) | (with_reducible refine blk_drewN ?_ _) | (with_reducible refine blk_alloc ?_ _) | (with_reducible apply blk_put) | (with_reducible refine blk_far ?_ hne _) | (refine blk_far ?_ hne _) | (refine blk_far ?_ hne1 _) | exact rfl)) Try.underlying26 rfl (by kernel_rfl)) rfl ?_
                exact ⟨_, rfl, Kd.R_nil _ _ _ _ _, (by repeat (first | (with_reducible exact HB.out) | (with_reducible apply below_alloc) | (with_reducible apply pw_below_drewN) | (with_reducible refine below_set ?_ GE207.out) | (with_reducible refine below_set ?_ (below_size HB.out))))⟩
              · rw [if_neg c13] at H
                have c13b0 : decide (32 < (wrap64 (t229 - x5_1))) = false := decide_eq_false c13
                clear c13
                have c18b0 := eq_true (of_decide_eq_true (by first | (with_reducible assumption) | assumption) : 0 ≤ x5_1)
                by_cases c19 : x5_1 ≤ t229
                · rw [if_pos c19] at H
                  have c19b0 := eq_true c19
                  have c19b1 : decide (x5_1 ≤ t229) = true := decide_eq_true c19
                  clear c19
                  by_cases c20 : t229 ≤ (a0.size : Int)
                  · rw [if_pos c20] at H
                    have c20b0 := eq_true c20
                    have c20b1 : decide (t229 ≤ (a0.size : Int)) = true := decide_eq_true c20
                    clear c20
                    replace H := Option.bind_eq_some_iff.mp H
                    obtain ⟨t230, A210, H⟩ := H
                    replace H : (if t230 = true then (if x4_1.length < 5864062014805 then ((smithyref02_skip.f k1 a0 t229).bind fun t234 => (smithyref02_Scan.l0 k1 a0 (x4_1 ++ [(⟨3, x5_1, t229⟩ : S35)]) t234)) else (none)) else (if x4_1.length < 5864062014805 then ((smithyref02_skip.f k1 a0 t229).bind fun t238 => (smithyref02_Scan.l0 k1 a0 (x4_1 ++ [(⟨2, x5_1, t229⟩ : S35)]) t238)) else (none))) = some (r1, r2, r3) := H
                    have A21 := Aside0.mk A210
                    clear A210
                    by_cases c22 : t230 = true
                    · subst c22
                      have H1 : (if x4_1.length < 5864062014805 then ((smithyref02_skip.f k1 a0 t229).bind fun t234 => (smithyref02_Scan.l0 k1 a0 (x4_1 ++ [(⟨3, x5_1, t229⟩ : S35)]) t234)) else (none)) = some (r1, r2, r3) := by rw [if_pos rfl] at H; exact H
                      clear H
                      have H := H1
                      clear H1
                      by_cases c23 : x4_1.length < 5864062014805
                      · rw [if_pos c23] at H
                        have LMc23 := Aside0.mk c23
                        clear c23
                        obtain ⟨y231, hy231⟩ : ∃ y_ : List (S35), y_ = (x4_1 ++ [(⟨3, x5_1, t229⟩ : S35)]) := ⟨_, rfl⟩
                        replace H : ((smithyref02_skip.f k1 a0 t229).bind fun t234 => (smithyref02_Scan.l0 k1 a0 y231 t234)) = some (r1, r2, r3) := by first | (rw [hy231]; with_reducible exact H) | (have H2_ := (Option.bind_some _ _).symm.trans H; rw [hy231]; with_reducible exact H2_) | (have H2_ := (Option.bind_some _ _).symm.trans H; with_reducible exact H2_) | with_reducible exact H | (rw [hy231]; exact H) | exact H
                        have Ny231 := Aside0.mk hy231
                        clear hy231
                        replace H := Option.bind_eq_some_iff.mp H
                        obtain ⟨t234, A240, H⟩ := H
                        replace H : (smithyref02_Scan.l0 k1 a0 y231 t234) = some (r1, r2, r3) := H
                        have A24 := Aside0.mk A240
                        clear A240
                        have H' := Aside0.mk H
                        clear H
                        have p9 : 0 ≤ (x5_1 : Int) := of_decide_eq_true (by first | (with_reducible assumption) | assumption)
                        have q9 : x5_1 < (a0.size : Int) := of_decide_eq_true (by first | (with_reducible assumption) | assumption)
                        have hx9 := bt_at a0 x5_1
                        replace p9 := eq_true p9
                        replace q9 := eq_true q9
                        have cz0 : wr.cell? ⟨gb207, 0, none⟩ = some (.int .i64 x208000_1) := (blk_cell BK207.out 0).trans rfl
                        have cz1 : wr.cell? ⟨gb207, 1, none⟩ = some (.int .i64 x208001_1) := (blk_cell BK207.out 1).trans rfl
                        have fz0 := blk_frozen BK207.out 0
                        have fz1 := blk_frozen BK207.out 1
                        have hlt := blk_lt BK207.out
                        have hlt1 := Nat.lt_succ_of_lt hlt
                        have hne := Nat.ne_of_lt (blk_lt BK207.out)
                        have hne' := Nat.ne_of_gt (blk_lt BK207.out)
                        have hne1 := Nat.ne_of_lt hlt1
                        go_wp2_with (first | (go_at_call 23; ((with_reducible refine (smithyref02_Letter.calls (bt a0 x5_1) true _ A10.out).mono ?_)); rintro e w' ⟨rfl, ⟨nd, rfl⟩⟩) | (go_at_call 24; ((with_reducible refine (smithyref02_row.calls k1 a0 x5_1 true t229 _ A12.out).mono ?_)); rintro e w' ⟨rfl, ⟨nd, rfl⟩⟩) | (go_at_call 15; ((with_reducible refine (smithyref02_Word.calls k1 (a0.extract (x5_1 : Int).toNat (t229 : Int).toNat) true _ A21.out).mono ?_)); rintro e w' ⟨rfl, ⟨nd, rfl⟩⟩) | (go_at_call 22; ((with_reducible refine (smithyref02_skip.calls k1 a0 t229 t234 _ A24.out).mono ?_)); rintro e w' ⟨rfl, ⟨nd, rfl⟩⟩) | ((with_reducible refine gate_builtin (b := .append) (xs := #[.tmp 74, .tmp 76]) rfl ?_); at_builtin; refine Kd.R_append k35 (w0 := w) w.heap.size rfl (.tmp 74) (.tmp 76) 23 35 (.agg #[(.int .u8 0), (.int .i64 0), (.int .i64 0)]) 24 rfl Try.underlying23 info35 rfl (by decide) (by omega) u4 x4_1 (⟨3, x5_1, t229⟩ : S35) [.int .u8 3, .int .i64 x5_1, .int .i64 t229] (fun _ => True) (fun _ => False) rfl (by first | (go_simp; done) | (go_simp; rfl)) ?aP (fun _ hk => hk.elim) (fun _ _ => trivial) ?aO ?aB ?aS ?aL ?_; (case aP => exact k35_mkM _ _ _ (⟨3, x5_1, t229⟩ : S35)); (case aO => exact Kd.R_below HO_4.out (by repeat (first | (with_reducible exact Below.refl _ _) | (with_reducible apply below_alloc) | (with_reducible apply pw_below_drewN) | (with_reducible refine below_set ?_ (Nat.le_refl _))))); (case aB => exact (by repeat (first | (with_reducible exact HB.out) | (with_reducible apply below_alloc) | (with_reducible apply pw_below_drewN) | (with_reducible refine below_set ?_ GE207.out) | (with_reducible refine below_set ?_ (below_size HB.out))))); (case aS => exact below_size (by repeat (first | (with_reducible exact HB.out) | (with_reducible apply below_alloc) | (with_reducible apply pw_below_drewN) | (with_reducible refine below_set ?_ GE207.out) | (with_reducible refine below_set ?_ (below_size HB.out))))); (case aL => have := LMc23.out; omega); intro vn wn ho hb hg hat; rw [← Ny231.out] at ho; have hKn := Aside0.mk (blk_grown (g := gb207) (o := .cells #[.int .i64 x208000_1, .int .i64 x208001_1] 26 (0, 0)) (by repeat (first | (with_reducible exact BK207.out) | (with_reducible refine blk_drewN ?_ _) | (with_reducible refine blk_alloc ?_ _) | (with_reducible apply blk_put) | (with_reducible refine blk_far ?_ hne _) | (refine blk_far ?_ hne _) | (refine blk_far ?_ hne1 _) | exact rfl)) hg (Kd.R_ne HO_4.out BK207.out (by decide))); have hTn := blk_grown (g := wr.heap.size) (o := .cells #[.int .u8 3, .int .i64 x5_1, .int .i64 t229] 35 (0, 0)) (by repeat (first | (with_reducible refine blk_drewN ?_ _) | (with_reducible exact blk_new _ _) | (with_reducible apply blk_put) | exact rfl)) hg (Kd.R_away (Kd.R_elderB HO_4.out wr.heap.size (Nat.le_refl _)) (fun _ hk => hk.2)); have hc2n : wn.cell? ⟨wr.heap.size, 2, none⟩ = some (.int .i64 t229) := (blk_cell hTn 2).trans rfl; clear hTn; have Hon := Aside0.mk ho; have Hbn := Aside0.mk hb; clear ho hb hg hat))
                        go_roundg k1
                        case measure => have := HK1.out; omega
                        case rel => exact ⟨y231, t234, x208000_1, x208001_1, (by first | rfl | (simp; done)), H', ⟨by have := HK1.out; omega⟩, ⟨by repeat (first | (with_reducible exact Hon.out) | (with_reducible apply Kd.R_drewN))⟩, ⟨by repeat (first | (with_reducible exact hKn.out) | (with_reducible refine blk_drewN ?_ _))⟩, ⟨by repeat (first | (with_reducible exact Hbn.out) | (with_reducible apply pw_below_drewN))⟩⟩
                      · rw [if_neg c23] at H
                        exact absurd H (by simp)
                    · replace c22 := Bool.eq_false_iff.mpr c22
                      subst c22
                      have H1 : (if x4_1.length < 5864062014805 then ((smithyref02_skip.f k1 a0 t229).bind fun t238 => (smithyref02_Scan.l0 k1 a0 (x4_1 ++ [(⟨2, x5_1, t229⟩ : S35)]) t238)) else (none)) = some (r1, r2, r3) := by rw [if_neg (show ¬ (false = true) by decide)] at H; exact H
                      clear H
                      have H := H1
                      clear H1
                      by_cases c30 : x4_1.length < 5864062014805
                      · rw [if_pos c30] at H
                        have LMc30 := Aside0.mk c30
                        clear c30
                        obtain ⟨y235, hy235⟩ : ∃ y_ : List (S35), y_ = (x4_1 ++ [(⟨2, x5_1, t229⟩ : S35)]) := ⟨_, rfl⟩
                        replace H : ((smithyref02_skip.f k1 a0 t229).bind fun t238 => (smithyref02_Scan.l0 k1 a0 y235 t238)) = some (r1, r2, r3) := by first | (rw [hy235]; with_reducible exact H) | (have H2_ := (Option.bind_some _ _).symm.trans H; rw [hy235]; with_reducible exact H2_) | (have H2_ := (Option.bind_some _ _).symm.trans H; with_reducible exact H2_) | with_reducible exact H | (rw [hy235]; exact H) | exact H
                        have Ny235 := Aside0.mk hy235
                        clear hy235
                        replace H := Option.bind_eq_some_iff.mp H
                        obtain ⟨t238, A310, H⟩ := H
                        replace H : (smithyref02_Scan.l0 k1 a0 y235 t238) = some (r1, r2, r3) := H
                        have A31 := Aside0.mk A310
                        clear A310
                        have H' := Aside0.mk H
                        clear H
                        have p9 : 0 ≤ (x5_1 : Int) := of_decide_eq_true (by first | (with_reducible assumption) | assumption)
                        have q9 : x5_1 < (a0.size : Int) := of_decide_eq_true (by first | (with_reducible assumption) | assumption)
                        have hx9 := bt_at a0 x5_1
                        replace p9 := eq_true p9
                        replace q9 := eq_true q9
                        have cz0 : wr.cell? ⟨gb207, 0, none⟩ = some (.int .i64 x208000_1) := (blk_cell BK207.out 0).trans rfl
                        have cz1 : wr.cell? ⟨gb207, 1, none⟩ = some (.int .i64 x208001_1) := (blk_cell BK207.out 1).trans rfl
                        have fz0 := blk_frozen BK207.out 0
                        have fz1 := blk_frozen BK207.out 1
                        have hlt := blk_lt BK207.out
                        have hlt1 := Nat.lt_succ_of_lt hlt
                        have hne := Nat.ne_of_lt (blk_lt BK207.out)
                        have hne' := Nat.ne_of_gt (blk_lt BK207.out)
                        have hne1 := Nat.ne_of_lt hlt1
                        go_wp2_with (first | (go_at_call 23; ((with_reducible refine (smithyref02_Letter.calls (bt a0 x5_1) true _ A10.out).mono ?_)); rintro e w' ⟨rfl, ⟨nd, rfl⟩⟩) | (go_at_call 24; ((with_reducible refine (smithyref02_row.calls k1 a0 x5_1 true t229 _ A12.out).mono ?_)); rintro e w' ⟨rfl, ⟨nd, rfl⟩⟩) | (go_at_call 15; ((with_reducible refine (smithyref02_Word.calls k1 (a0.extract (x5_1 : Int).toNat (t229 : Int).toNat) false _ A21.out).mono ?_)); rintro e w' ⟨rfl, ⟨nd, rfl⟩⟩) | (go_at_call 22; ((with_reducible refine (smithyref02_skip.calls k1 a0 t229 t238 _ A31.out).mono ?_)); rintro e w' ⟨rfl, ⟨nd, rfl⟩⟩) | ((with_reducible refine gate_builtin (b := .append) (xs := #[.tmp 74, .tmp 76]) rfl ?_); at_builtin; refine Kd.R_append k35 (w0 := w) w.heap.size rfl (.tmp 74) (.tmp 76) 23 35 (.agg #[(.int .u8 0), (.int .i64 0), (.int .i64 0)]) 24 rfl Try.underlying23 info35 rfl (by decide) (by omega) u4 x4_1 (⟨2, x5_1, t229⟩ : S35) [.int .u8 2, .int .i64 x5_1, .int .i64 t229] (fun _ => True) (fun _ => False) rfl (by first | (go_simp; done) | (go_simp; rfl)) ?aP (fun _ hk => hk.elim) (fun _ _ => trivial) ?aO ?aB ?aS ?aL ?_; (case aP => exact k35_mkM _ _ _ (⟨2, x5_1, t229⟩ : S35)); (case aO => exact Kd.R_below HO_4.out (by repeat (first | (with_reducible exact Below.refl _ _) | (with_reducible apply below_alloc) | (with_reducible apply pw_below_drewN) | (with_reducible refine below_set ?_ (Nat.le_refl _))))); (case aB => exact (by repeat (first | (with_reducible exact HB.out) | (with_reducible apply below_alloc) | (with_reducible apply pw_below_drewN) | (with_reducible refine below_set ?_ GE207.out) | (with_reducible refine below_set ?_ (below_size HB.out))))); (case aS => exact below_size (by repeat (first | (with_reducible exact HB.out) | (with_reducible apply below_alloc) | (with_reducible apply pw_below_drewN) | (with_reducible refine below_set ?_ GE207.out) | (with_reducible refine below_set ?_ (below_size HB.out))))); (case aL => have := LMc30.out; omega); intro vn wn ho hb hg hat; rw [← Ny235.out] at ho; have hKn := Aside0.mk (blk_grown (g := gb207) (o := .cells #[.int .i64 x208000_1, .int .i64 x208001_1] 26 (0, 0)) (by repeat (first | (with_reducible exact BK207.out) | (with_reducible refine blk_drewN ?_ _) | (with_reducible refine blk_alloc ?_ _) | (with_reducible apply blk_put) | (with_reducible refine blk_far ?_ hne _) | (refine blk_far ?_ hne _) | (refine blk_far ?_ hne1 _) | exact rfl)) hg (Kd.R_ne HO_4.out BK207.out (by decide))); have hTn := blk_grown (g := wr.heap.size) (o := .cells #[.int .u8 2, .int .i64 x5_1, .int .i64 t229] 35 (0, 0)) (by repeat (first | (with_reducible refine blk_drewN ?_ _) | (with_reducible exact blk_new _ _) | (with_reducible apply blk_put) | exact rfl)) hg (Kd.R_away (Kd.R_elderB HO_4.out wr.heap.size (Nat.le_refl _)) (fun _ hk => hk.2)); have hc2n : wn.cell? ⟨wr.heap.size, 2, none⟩ = some (.int .i64 t229) := (blk_cell hTn 2).trans rfl; clear hTn; have Hon := Aside0.mk ho; have Hbn := Aside0.mk hb; clear ho hb hg hat))
                        go_roundg k1
                        case measure => have := HK1.out; omega
                        case rel => exact ⟨y235, t238, x208000_1, x208001_1, (by first | rfl | (simp; done)), H', ⟨by have := HK1.out; omega⟩, ⟨by repeat (first | (with_reducible exact Hon.out) | (with_reducible apply Kd.R_drewN))⟩, ⟨by repeat (first | (with_reducible exact hKn.out) | (with_reducible refine blk_drewN ?_ _))⟩, ⟨by repeat (first | (with_reducible exact Hbn.out) | (with_reducible apply pw_below_drewN))⟩⟩
                      · rw [if_neg c30] at H
                        exact absurd H (by simp)
                  · rw [if_neg c20] at H
                    exact absurd H (by simp)
                · rw [if_neg c19] at H
                  exact absurd H (by simp)
            · replace c11 := Bool.eq_false_iff.mpr c11
              subst c11
              have H1 : ((smithyref02_Digit.f (bt a0 x5_1)).bind fun t239 => (if t239 = true then ((smithyref02_literal.f k1 a0 x5_1).bind fun bt240 => (if bt240.2.2.2.2 = true then (if x4_1.length < 5864062014805 then ((smithyref02_skip.f k1 a0 bt240.2.2.1).bind fun t249 => (smithyref02_Scan.l0 k1 a0 (x4_1 ++ [(⟨bt240.1, bt240.2.1, bt240.2.2.1⟩ : S35)]) t249)) else (none)) else (some (([] : List (S35)), 120, bt240.2.2.2.1)))) else ((smithyref02_Sign.f k1 a0 x5_1).bind fun t250 => (if t250 = 0 then (some (([] : List (S35)), 120, x5_1)) else (if x4_1.length < 5864062014805 then ((smithyref02_skip.f k1 a0 (wrap64 (x5_1 + t250))).bind fun t254 => (smithyref02_Scan.l0 k1 a0 (x4_1 ++ [(⟨6, x5_1, wrap64 (x5_1 + t250)⟩ : S35)]) t254)) else (none)))))) = some (r1, r2, r3) := by rw [if_neg (show ¬ (false = true) by decide)] at H; exact H
              clear H
              have H := H1
              clear H1
              replace H := Option.bind_eq_some_iff.mp H
              obtain ⟨t239, A380, H⟩ := H
              replace H : (if t239 = true then ((smithyref02_literal.f k1 a0 x5_1).bind fun bt240 => (if bt240.2.2.2.2 = true then (if x4_1.length < 5864062014805 then ((smithyref02_skip.f k1 a0 bt240.2.2.1).bind fun t249 => (smithyref02_Scan.l0 k1 a0 (x4_1 ++ [(⟨bt240.1, bt240.2.1, bt240.2.2.1⟩ : S35)]) t249)) else (none)) else (some (([] : List (S35)), 120, bt240.2.2.2.1)))) else ((smithyref02_Sign.f k1 a0 x5_1).bind fun t250 => (if t250 = 0 then (some (([] : List (S35)), 120, x5_1)) else (if x4_1.length < 5864062014805 then ((smithyref02_skip.f k1 a0 (wrap64 (x5_1 + t250))).bind fun t254 => (smithyref02_Scan.l0 k1 a0 (x4_1 ++ [(⟨6, x5_1, wrap64 (x5_1 + t250)⟩ : S35)]) t254)) else (none))))) = some (r1, r2, r3) := H
              have A38 := Aside0.mk A380
              clear A380
              by_cases c39 : t239 = true
              · subst c39
                have H1 : ((smithyref02_literal.f k1 a0 x5_1).bind fun bt240 => (if bt240.2.2.2.2 = true then (if x4_1.length < 5864062014805 then ((smithyref02_skip.f k1 a0 bt240.2.2.1).bind fun t249 => (smithyref02_Scan.l0 k1 a0 (x4_1 ++ [(⟨bt240.1, bt240.2.1, bt240.2.2.1⟩ : S35)]) t249)) else (none)) else (some (([] : List (S35)), 120, bt240.2.2.2.1)))) = some (r1, r2, r3) := by rw [if_pos rfl] at H; exact H
                clear H
                have H := H1
                clear H1
                replace H := Option.bind_eq_some_iff.mp H
                obtain ⟨⟨t240, t241, t242, t243, t244⟩, A400, H⟩ := H
                replace H : (if t244 = true then (if x4_1.length < 5864062014805 then ((smithyref02_skip.f k1 a0 t242).bind fun t249 => (smithyref02_Scan.l0 k1 a0 (x4_1 ++ [(⟨t240, t241, t242⟩ : S35)]) t249)) else (none)) else (some (([] : List (S35)), 120, t243))) = some (r1, r2, r3) := H
                have A40 := Aside0.mk A400
                clear A400
                by_cases c41 : t244 = true
                · subst c41
                  have H1 : (if x4_1.length < 5864062014805 then ((smithyref02_skip.f k1 a0 t242).bind fun t249 => (smithyref02_Scan.l0 k1 a0 (x4_1 ++ [(⟨t240, t241, t242⟩ : S35)]) t249)) else (none)) = some (r1, r2, r3) := by rw [if_pos rfl] at H; exact H
                  clear H
                  have H := H1
                  clear H1
                  by_cases c42 : x4_1.length < 5864062014805
                  · rw [if_pos c42] at H
                    have LMc42 := Aside0.mk c42
                    clear c42
                    obtain ⟨y246, hy246⟩ : ∃ y_ : List (S35), y_ = (x4_1 ++ [(⟨t240, t241, t242⟩ : S35)]) := ⟨_, rfl⟩
                    replace H : ((smithyref02_skip.f k1 a0 t242).bind fun t249 => (smithyref02_Scan.l0 k1 a0 y246 t249)) = some (r1, r2, r3) := by first | (rw [hy246]; with_reducible exact H) | (have H2_ := (Option.bind_some _ _).symm.trans H; rw [hy246]; with_reducible exact H2_) | (have H2_ := (Option.bind_some _ _).symm.trans H; with_reducible exact H2_) | with_reducible exact H | (rw [hy246]; exact H) | exact H
                    have Ny246 := Aside0.mk hy246
                    clear hy246
                    replace H := Option.bind_eq_some_iff.mp H
                    obtain ⟨t249, A430, H⟩ := H
                    replace H : (smithyref02_Scan.l0 k1 a0 y246 t249) = some (r1, r2, r3) := H
                    have A43 := Aside0.mk A430
                    clear A430
                    have H' := Aside0.mk H
                    clear H
                    have p9 : 0 ≤ (x5_1 : Int) := of_decide_eq_true (by first | (with_reducible assumption) | assumption)
                    have q9 : x5_1 < (a0.size : Int) := of_decide_eq_true (by first | (with_reducible assumption) | assumption)
                    have hx9 := bt_at a0 x5_1
                    replace p9 := eq_true p9
                    replace q9 := eq_true q9
                    have cz0 : wr.cell? ⟨gb207, 0, none⟩ = some (.int .i64 x208000_1) := (blk_cell BK207.out 0).trans rfl
                    have cz1 : wr.cell? ⟨gb207, 1, none⟩ = some (.int .i64 x208001_1) := (blk_cell BK207.out 1).trans rfl
                    have fz0 := blk_frozen BK207.out 0
                    have fz1 := blk_frozen BK207.out 1
                    have hlt := blk_lt BK207.out
                    have hlt1 := Nat.lt_succ_of_lt hlt
                    have hne := Nat.ne_of_lt (blk_lt BK207.out)
                    have hne' := Nat.ne_of_gt (blk_lt BK207.out)
                    have hne1 := Nat.ne_of_lt hlt1
                    go_wp2_with (first | (go_at_call 23; ((with_reducible refine (smithyref02_Letter.calls (bt a0 x5_1) false _ A10.out).mono ?_)); rintro e w' ⟨rfl, ⟨nd, rfl⟩⟩) | (go_at_call 25; ((with_reducible refine (smithyref02_Digit.calls (bt a0 x5_1) true _ A38.out).mono ?_)); rintro e w' ⟨rfl, ⟨nd, rfl⟩⟩) | (go_at_call 22; ((with_reducible refine (smithyref02_skip.calls k1 a0 t242 t249 _ A43.out).mono ?_)); rintro e w' ⟨rfl, ⟨nd, rfl⟩⟩) | (go_at_call 26; ((with_reducible refine (smithyref02_literal.calls k1 a0 x5_1 t240 t241 t242 t243 true _ A40.out).mono ?_)); rintro e wl ⟨rfl, hb⟩; have hBL := Aside0.mk (blk_below (g := gb207) (o := .cells #[.int .i64 x208000_1, .int .i64 x208001_1] 26 (0, 0)) (by repeat (first | (with_reducible exact BK207.out) | (with_reducible refine blk_drewN ?_ _) | (with_reducible refine blk_alloc ?_ _) | (with_reducible apply blk_put) | (with_reducible refine blk_far ?_ hne _) | (refine blk_far ?_ hne _) | (refine blk_far ?_ hne1 _) | exact rfl)) hb); have hTL := Aside0.mk (blk_below (g := wr.heap.size) (o := .cells #[.int .u8 0, .int .i64 x5_1, .int .i64 0] 35 (0, 0)) (by repeat (first | (with_reducible refine blk_drewN ?_ _) | (with_reducible exact blk_new _ _) | (with_reducible apply blk_put) | exact rfl)) hb); have hOL : Aside0 (Kd.R k35 35 wl w.heap.size (fun k => True ∧ k ≠ wr.heap.size) u4 x4_1) := Aside0.mk (Kd.R_below (Kd.R_below (Kd.R_elderB HO_4.out wr.heap.size (Nat.le_refl _)) (by repeat (first | (with_reducible exact Below.refl _ _) | (with_reducible apply below_alloc) | (with_reducible apply pw_below_drewN) | (with_reducible refine below_set ?_ (Nat.le_refl _))))) hb); have hbL := Aside0.mk (below_step (by repeat (first | (with_reducible exact HB.out) | (with_reducible apply below_alloc) | (with_reducible apply pw_below_drewN) | (with_reducible refine below_set ?_ GE207.out) | (with_reducible refine below_set ?_ (below_size HB.out)))) hb); clear hb; have czl0 : wl.cell? ⟨gb207, 0, none⟩ = some (.int .i64 x208000_1) := (blk_cell hBL.out 0).trans rfl; have czl1 : wl.cell? ⟨gb207, 1, none⟩ = some (.int .i64 x208001_1) := (blk_cell hBL.out 1).trans rfl; have fzl0 := blk_frozen hBL.out 0; have fzl1 := blk_frozen hBL.out 1; have ctl0 : wl.cell? ⟨wr.heap.size, 0, none⟩ = some (.int .u8 0) := (blk_cell hTL.out 0).trans rfl; have ctl1 : wl.cell? ⟨wr.heap.size, 1, none⟩ = some (.int .i64 x5_1) := (blk_cell hTL.out 1).trans rfl; have ctl2 : wl.cell? ⟨wr.heap.size, 2, none⟩ = some (.int .i64 0) := (blk_cell hTL.out 2).trans rfl; have ftl0 := blk_frozen hTL.out 0; have ftl1 := blk_frozen hTL.out 1; have ftl2 := blk_frozen hTL.out 2; have hltl := blk_lt hBL.out; have hltt := blk_lt hTL.out; have hnel := Nat.ne_of_lt hltl; have hnet := Nat.ne_of_lt hltt; have hnet' := Nat.ne_of_gt hltt; have hnel' := Nat.ne_of_gt hltl) | ((with_reducible refine gate_builtin (b := .append) (xs := #[.tmp 74, .tmp 76]) rfl ?_); at_builtin; refine Kd.R_append k35 (w0 := w) w.heap.size rfl (.tmp 74) (.tmp 76) 23 35 (.agg #[(.int .u8 0), (.int .i64 0), (.int .i64 0)]) 24 rfl Try.underlying23 info35 rfl (by decide) (by omega) u4 x4_1 (⟨t240, t241, t242⟩ : S35) [.int .u8 t240, .int .i64 t241, .int .i64 t242] (fun _ => True) (fun _ => False) rfl (by first | (go_simp; done) | (go_simp; rfl)) ?aP (fun _ hk => hk.elim) (fun _ _ => trivial) ?aO ?aB ?aS ?aL ?_; (case aP => exact k35_mkM _ _ _ (⟨t240, t241, t242⟩ : S35)); (case aO => exact Kd.R_mono (ok := fun k => True ∧ k ≠ wr.heap.size) (by repeat (first | (with_reducible exact hOL.out) | (with_reducible apply Kd.R_alloc) | (with_reducible apply Kd.R_drewN) | (refine Kd.R_far ?_ (fun _ hk => hk.2) _))) (fun _ _ => trivial)); (case aB => exact (by repeat (first | (with_reducible exact hbL.out) | (with_reducible apply below_alloc) | (with_reducible apply pw_below_drewN) | (with_reducible refine below_set ?_ GE207.out) | (with_reducible refine below_set ?_ (below_size HB.out))))); (case aS => exact below_size (by repeat (first | (with_reducible exact hbL.out) | (with_reducible apply below_alloc) | (with_reducible apply pw_below_drewN) | (with_reducible refine below_set ?_ GE207.out) | (with_reducible refine below_set ?_ (below_size HB.out))))); (case aL => have := LMc42.out; omega); intro vn wn ho hb hg hat; rw [← Ny246.out] at ho; have hKn := Aside0.mk (blk_grown (g := gb207) (o := .cells #[.int .i64 x208000_1, .int .i64 x208001_1] 26 (0, 0)) (by repeat (first | (with_reducible exact hBL.out) | (with_reducible refine blk_drewN ?_ _) | (with_reducible refine blk_alloc ?_ _) | (with_reducible apply blk_put) | (with_reducible refine blk_far ?_ hne _) | (refine blk_far ?_ hne _) | (refine blk_far ?_ hnel _) | exact rfl)) hg (Kd.R_ne hOL.out hBL.out (by decide))); have hTn := blk_grown (g := wr.heap.size) (o := .cells #[.int .u8 t240, .int .i64 t241, .int .i64 t242] 35 (0, 0)) (by repeat (first | (with_reducible exact hTL.out) | (with_reducible refine blk_drewN ?_ _) | (with_reducible refine blk_alloc ?_ _) | (with_reducible apply blk_put) | (refine blk_far ?_ hnet _) | exact rfl)) hg (Kd.R_away hOL.out (fun _ hk => hk.2)); have hc2n : wn.cell? ⟨wr.heap.size, 2, none⟩ = some (.int .i64 t242) := (blk_cell hTn 2).trans rfl; clear hTn; have Hon := Aside0.mk ho; have Hbn := Aside0.mk hb; clear ho hb hg hat))
                    go_roundg k1
                    case measure => have := HK1.out; omega
                    case rel => exact ⟨y246, t249, x208000_1, x208001_1, (by first | rfl | (simp; done)), H', ⟨by have := HK1.out; omega⟩, ⟨by repeat (first | (with_reducible exact Hon.out) | (with_reducible apply Kd.R_drewN))⟩, ⟨by repeat (first | (with_reducible exact hKn.out) | (with_reducible refine blk_drewN ?_ _))⟩, ⟨by repeat (first | (with_reducible exact Hbn.out) | (with_reducible apply pw_below_drewN))⟩⟩
                  · rw [if_neg c42] at H
                    exact absurd H (by simp)
                · replace c41 := Bool.eq_false_iff.mpr c41
                  subst c41
                  have H1 : (some (([] : List (S35)), 120, t243)) = some (r1, r2, r3) := by rw [if_neg (show ¬ (false = true) by decide)] at H; exact H
                  clear H
                  have H := H1
                  clear H1
                  simp only [Option.some.injEq, Prod.mk.injEq] at H
                  obtain ⟨rfl, rfl, rfl⟩ := H
                  have p9 : 0 ≤ (x5_1 : Int) := of_decide_eq_true (by first | (with_reducible assumption) | assumption)
                  have q9 : x5_1 < (a0.size : Int) := of_decide_eq_true (by first | (with_reducible assumption) | assumption)
                  have hx9 := bt_at a0 x5_1
                  replace p9 := eq_true p9
                  replace q9 := eq_true q9
                  have cz0 : wr.cell? ⟨gb207, 0, none⟩ = some (.int .i64 x208000_1) := (blk_cell BK207.out 0).trans rfl
                  have cz1 : wr.cell? ⟨gb207, 1, none⟩ = some (.int .i64 x208001_1) := (blk_cell BK207.out 1).trans rfl
                  have fz0 := blk_frozen BK207.out 0
                  have fz1 := blk_frozen BK207.out 1
                  have hlt := blk_lt BK207.out
                  have hlt1 := Nat.lt_succ_of_lt hlt
                  have hne := Nat.ne_of_lt (blk_lt BK207.out)
                  have hne' := Nat.ne_of_gt (blk_lt BK207.out)
                  have hne1 := Nat.ne_of_lt hlt1
                  go_wp2_with (first | (go_at_call 23; ((with_reducible refine (smithyref02_Letter.calls (bt a0 x5_1) false _ A10.out).mono ?_)); rintro e w' ⟨rfl, ⟨nd, rfl⟩⟩) | (go_at_call 25; ((with_reducible refine (smithyref02_Digit.calls (bt a0 x5_1) true _ A38.out).mono ?_)); rintro e w' ⟨rfl, ⟨nd, rfl⟩⟩) | (go_at_call 26; ((with_reducible refine (smithyref02_literal.calls k1 a0 x5_1 t240 t241 t242 t243 false _ A40.out).mono ?_)); rintro e wl ⟨rfl, hb⟩; have hBL := Aside0.mk (blk_below (g := gb207) (o := .cells #[.int .i64 x208000_1, .int .i64 x208001_1] 26 (0, 0)) (by repeat (first | (with_reducible exact BK207.out) | (with_reducible refine blk_drewN ?_ _) | (with_reducible refine blk_alloc ?_ _) | (with_reducible apply blk_put) | (with_reducible refine blk_far ?_ hne _) | (refine blk_far ?_ hne _) | (refine blk_far ?_ hne1 _) | exact rfl)) hb); have hTL := Aside0.mk (blk_below (g := wr.heap.size) (o := .cells #[.int .u8 0, .int .i64 x5_1, .int .i64 0] 35 (0, 0)) (by repeat (first | (with_reducible refine blk_drewN ?_ _) | (with_reducible exact blk_new _ _) | (with_reducible apply blk_put) | exact rfl)) hb); have hOL : Aside0 (Kd.R k35 35 wl w.heap.size (fun k => True ∧ k ≠ wr.heap.size) u4 x4_1) := Aside0.mk (Kd.R_below (Kd.R_below (Kd.R_elderB HO_4.out wr.heap.size (Nat.le_refl _)) (by repeat (first | (with_reducible exact Below.refl _ _) | (with_reducible apply below_alloc) | (with_reducible apply pw_below_drewN) | (with_reducible refine below_set ?_ (Nat.le_refl _))))) hb); have hbL := Aside0.mk (below_step (by repeat (first | (with_reducible exact HB.out) | (with_reducible apply below_alloc) | (with_reducible apply pw_below_drewN) | (with_reducible refine below_set ?_ GE207.out) | (with_reducible refine below_set ?_ (below_size HB.out)))) hb); clear hb; have czl0 : wl.cell? ⟨gb207, 0, none⟩ = some (.int .i64 x208000_1) := (blk_cell hBL.out 0).trans rfl; have czl1 : wl.cell? ⟨gb207, 1, none⟩ = some (.int .i64 x208001_1) := (blk_cell hBL.out 1).trans rfl; have fzl0 := blk_frozen hBL.out 0; have fzl1 := blk_frozen hBL.out 1; have ctl0 : wl.cell? ⟨wr.heap.size, 0, none⟩ = some (.int .u8 0) := (blk_cell hTL.out 0).trans rfl; have ctl1 : wl.cell? ⟨wr.heap.size, 1, none⟩ = some (.int .i64 x5_1) := (blk_cell hTL.out 1).trans rfl; have ctl2 : wl.cell? ⟨wr.heap.size, 2, none⟩ = some (.int .i64 0) := (blk_cell hTL.out 2).trans rfl; have ftl0 := blk_frozen hTL.out 0; have ftl1 := blk_frozen hTL.out 1; have ftl2 := blk_frozen hTL.out 2; have hltl := blk_lt hBL.out; have hltt := blk_lt hTL.out; have hnel := Nat.ne_of_lt hltl; have hnet := Nat.ne_of_lt hltt; have hnet' := Nat.ne_of_gt hltt; have hnel' := Nat.ne_of_gt hltl))
                  refine bodyPost_ret (results_tc rfl _ _ gb207 26 #[.int .i64 120, .int .i64 t243] (0, 0) _ rfl (by repeat (first | (with_reducible exact hBL.out) | (with_reducible refine blk_drewN ?_ _) | (with_reducible refine blk_alloc ?_ _) | (with_reducible apply blk_put) | (with_reducible refine blk_far ?_ hne _) | (refine blk_far ?_ hne _) | (refine blk_far ?_ hnel _) | exact rfl)) Try.underlying26 rfl (by kernel_rfl)) rfl ?_
                  exact ⟨_, rfl, Kd.R_nil _ _ _ _ _, (by repeat (first | (with_reducible exact hbL.out) | (with_reducible apply below_alloc) | (with_reducible apply pw_below_drewN) | (with_reducible refine below_set ?_ GE207.out) | (with_reducible refine below_set ?_ (below_size HB.out))))⟩
              · replace c39 := Bool.eq_false_iff.mpr c39
                subst c39
                have H1 : ((smithyref02_Sign.f k1 a0 x5_1).bind fun t250 => (if t250 = 0 then (some (([] : List (S35)), 120, x5_1)) else (if x4_1.length < 5864062014805 then ((smithyref02_skip.f k1 a0 (wrap64 (x5_1 + t250))).bind fun t254 => (smithyref02_Scan.l0 k1 a0 (x4_1 ++ [(⟨6, x5_1, wrap64 (x5_1 + t250)⟩ : S35)]) t254)) else (none)))) = some (r1, r2, r3) := by rw [if_neg (show ¬ (false = true) by decide)] at H; exact H
                clear H
                have H := H1
                clear H1
                replace H := Option.bind_eq_some_iff.mp H
                obtain ⟨t250, A640, H⟩ := H
                replace H : (if t250 = 0 then (some (([] : List (S35)), 120, x5_1)) else (if x4_1.length < 5864062014805 then ((smithyref02_skip.f k1 a0 (wrap64 (x5_1 + t250))).bind fun t254 => (smithyref02_Scan.l0 k1 a0 (x4_1 ++ [(⟨6, x5_1, wrap64 (x5_1 + t250)⟩ : S35)]) t254)) else (none))) = some (r1, r2, r3) := H
                have A64 := Aside0.mk A640
                clear A640
                by_cases c65 : t250 = 0
                · rw [if_pos c65] at H
                  have c65b0 : (t250 == 0) = true := beq_iff_eq.mpr c65
                  have c65b1 : (t250 != 0) = false := bne_eq_false_iff_eq.mpr c65
                  clear c65
                  simp only [Option.some.injEq, Prod.mk.injEq] at H
                  obtain ⟨rfl, rfl, rfl⟩ := H
                  have p9 : 0 ≤ (x5_1 : Int) := of_decide_eq_true (by first | (with_reducible assumption) | assumption)
                  have q9 : x5_1 < (a0.size : Int) := of_decide_eq_true (by first | (with_reducible assumption) | assumption)
                  have hx9 := bt_at a0 x5_1
                  replace p9 := eq_true p9
                  replace q9 := eq_true q9
                  have cz0 : wr.cell? ⟨gb207, 0, none⟩ = some (.int .i64 x208000_1) := (blk_cell BK207.out 0).trans rfl
                  have cz1 : wr.cell? ⟨gb207, 1, none⟩ = some (.int .i64 x208001_1) := (blk_cell BK207.out 1).trans rfl
                  have fz0 := blk_frozen BK207.out 0
                  have fz1 := blk_frozen BK207.out 1
                  have hlt := blk_lt BK207.out
                  have hlt1 := Nat.lt_succ_of_lt hlt
                  have hne := Nat.ne_of_lt (blk_lt BK207.out)
                  have hne' := Nat.ne_of_gt (blk_lt BK207.out)
                  have hne1 := Nat.ne_of_lt hlt1
                  go_wp2_with (first | (go_at_call 23; ((with_reducible refine (smithyref02_Letter.calls (bt a0 x5_1) false _ A10.out).mono ?_)); rintro e w' ⟨rfl, ⟨nd, rfl⟩⟩) | (go_at_call 25; ((with_reducible refine (smithyref02_Digit.calls (bt a0 x5_1) false _ A38.out).mono ?_)); rintro e w' ⟨rfl, ⟨nd, rfl⟩⟩) | (go_at_call 27; ((with_reducible refine (smithyref02_Sign.calls k1 a0 x5_1 t250 _ A64.out).mono ?_)); rintro e w' ⟨rfl, ⟨nd, rfl⟩⟩))
                  refine bodyPost_ret (results_tc rfl _ _ gb207 26 #[.int .i64 120, .int .i64 x5_1] (0, 0) _ rfl (by repeat (first | (with_reducible exact BK207.out) | (with_reducible refine blk_drewN ?_ _) | (with_reducible refine blk_alloc ?_ _) | (with_reducible apply blk_put) | (with_reducible refine blk_far ?_ hne _) | (refine blk_far ?_ hne _) | (refine blk_far ?_ hne1 _) | exact rfl)) Try.underlying26 rfl (by kernel_rfl)) rfl ?_
                  exact ⟨_, rfl, Kd.R_nil _ _ _ _ _, (by repeat (first | (with_reducible exact HB.out) | (with_reducible apply below_alloc) | (with_reducible apply pw_below_drewN) | (with_reducible refine below_set ?_ GE207.out) | (with_reducible refine below_set ?_ (below_size HB.out))))⟩
                · rw [if_neg c65] at H
                  have c65b0 : (t250 == 0) = false := beq_eq_false_iff_ne.mpr c65
                  have c65b1 : (t250 != 0) = true := bne_iff_ne.mpr c65
                  by_cases c70 : x4_1.length < 5864062014805
                  · rw [if_pos c70] at H
                    have LMc70 := Aside0.mk c70
                    clear c70
                    obtain ⟨y251, hy251⟩ : ∃ y_ : List (S35), y_ = (x4_1 ++ [(⟨6, x5_1, wrap64 (x5_1 + t250)⟩ : S35)]) := ⟨_, rfl⟩
                    replace H : ((smithyref02_skip.f k1 a0 (wrap64 (x5_1 + t250))).bind fun t254 => (smithyref02_Scan.l0 k1 a0 y251 t254)) = some (r1, r2, r3) := by first | (rw [hy251]; with_reducible exact H) | (have H2_ := (Option.bind_some _ _).symm.trans H; rw [hy251]; with_reducible exact H2_) | (have H2_ := (Option.bind_some _ _).symm.trans H; with_reducible exact H2_) | with_reducible exact H | (rw [hy251]; exact H) | exact H
                    have Ny251 := Aside0.mk hy251
                    clear hy251
                    replace H := Option.bind_eq_some_iff.mp H
                    obtain ⟨t254, A710, H⟩ := H
                    replace H : (smithyref02_Scan.l0 k1 a0 y251 t254) = some (r1, r2, r3) := H
                    have A71 := Aside0.mk A710
                    clear A710
                    have H' := Aside0.mk H
                    clear H
                    have p9 : 0 ≤ (x5_1 : Int) := of_decide_eq_true (by first | (with_reducible assumption) | assumption)
                    have q9 : x5_1 < (a0.size : Int) := of_decide_eq_true (by first | (with_reducible assumption) | assumption)
                    have hx9 := bt_at a0 x5_1
                    replace p9 := eq_true p9
                    replace q9 := eq_true q9
                    have cz0 : wr.cell? ⟨gb207, 0, none⟩ = some (.int .i64 x208000_1) := (blk_cell BK207.out 0).trans rfl
                    have cz1 : wr.cell? ⟨gb207, 1, none⟩ = some (.int .i64 x208001_1) := (blk_cell BK207.out 1).trans rfl
                    have fz0 := blk_frozen BK207.out 0
                    have fz1 := blk_frozen BK207.out 1
                    have hlt := blk_lt BK207.out
                    have hlt1 := Nat.lt_succ_of_lt hlt
                    have hne := Nat.ne_of_lt (blk_lt BK207.out)
                    have hne' := Nat.ne_of_gt (blk_lt BK207.out)
                    have hne1 := Nat.ne_of_lt hlt1
                    go_wp2_with (first | (go_at_call 23; ((with_reducible refine (smithyref02_Letter.calls (bt a0 x5_1) false _ A10.out).mono ?_)); rintro e w' ⟨rfl, ⟨nd, rfl⟩⟩) | (go_at_call 25; ((with_reducible refine (smithyref02_Digit.calls (bt a0 x5_1) false _ A38.out).mono ?_)); rintro e w' ⟨rfl, ⟨nd, rfl⟩⟩) | (go_at_call 27; ((with_reducible refine (smithyref02_Sign.calls k1 a0 x5_1 t250 _ A64.out).mono ?_)); rintro e w' ⟨rfl, ⟨nd, rfl⟩⟩) | (go_at_call 22; ((with_reducible refine (smithyref02_skip.calls k1 a0 (wrap64 (x5_1 + t250)) t254 _ A71.out).mono ?_)); rintro e w' ⟨rfl, ⟨nd, rfl⟩⟩) | ((with_reducible refine gate_builtin (b := .append) (xs := #[.tmp 74, .tmp 76]) rfl ?_); at_builtin; refine Kd.R_append k35 (w0 := w) w.heap.size rfl (.tmp 74) (.tmp 76) 23 35 (.agg #[(.int .u8 0), (.int .i64 0), (.int .i64 0)]) 24 rfl Try.underlying23 info35 rfl (by decide) (by omega) u4 x4_1 (⟨6, x5_1, wrap64 (x5_1 + t250)⟩ : S35) [.int .u8 6, .int .i64 x5_1, .int .i64 (wrap64 (x5_1 + t250))] (fun _ => True) (fun _ => False) rfl (by first | (go_simp; done) | (go_simp; rfl)) ?aP (fun _ hk => hk.elim) (fun _ _ => trivial) ?aO ?aB ?aS ?aL ?_; (case aP => exact k35_mkM _ _ _ (⟨6, x5_1, wrap64 (x5_1 + t250)⟩ : S35)); (case aO => exact Kd.R_below HO_4.out (by repeat (first | (with_reducible exact Below.refl _ _) | (with_reducible apply below_alloc) | (with_reducible apply pw_below_drewN) | (with_reducible refine below_set ?_ (Nat.le_refl _))))); (case aB => exact (by repeat (first | (with_reducible exact HB.out) | (with_reducible apply below_alloc) | (with_reducible apply pw_below_drewN) | (with_reducible refine below_set ?_ GE207.out) | (with_reducible refine below_set ?_ (below_size HB.out))))); (case aS => exact below_size (by repeat (first | (with_reducible exact HB.out) | (with_reducible apply below_alloc) | (with_reducible apply pw_below_drewN) | (with_reducible refine below_set ?_ GE207.out) | (with_reducible refine below_set ?_ (below_size HB.out))))); (case aL => have := LMc70.out; omega); intro vn wn ho hb hg hat; rw [← Ny251.out] at ho; have hKn := Aside0.mk (blk_grown (g := gb207) (o := .cells #[.int .i64 x208000_1, .int .i64 x208001_1] 26 (0, 0)) (by repeat (first | (with_reducible exact BK207.out) | (with_reducible refine blk_drewN ?_ _) | (with_reducible refine blk_alloc ?_ _) | (with_reducible apply blk_put) | (with_reducible refine blk_far ?_ hne _) | (refine blk_far ?_ hne _) | (refine blk_far ?_ hne1 _) | exact rfl)) hg (Kd.R_ne HO_4.out BK207.out (by decide))); have hTn := blk_grown (g := wr.heap.size) (o := .cells #[.int .u8 6, .int .i64 x5_1, .int .i64 (wrap64 (x5_1 + t250))] 35 (0, 0)) (by repeat (first | (with_reducible refine blk_drewN ?_ _) | (with_reducible exact blk_new _ _) | (with_reducible apply blk_put) | exact rfl)) hg (Kd.R_away (Kd.R_elderB HO_4.out wr.heap.size (Nat.le_refl _)) (fun _ hk => hk.2)); have hc2n : wn.cell? ⟨wr.heap.size, 2, none⟩ = some (.int .i64 (wrap64 (x5_1 + t250))) := (blk_cell hTn 2).trans rfl; clear hTn; have Hon := Aside0.mk ho; have Hbn := Aside0.mk hb; clear ho hb hg hat))
                    go_roundg k1
                    case measure => have := HK1.out; omega
                    case rel => exact ⟨y251, t254, x208000_1, x208001_1, (by first | rfl | (simp; done)), H', ⟨by have := HK1.out; omega⟩, ⟨by repeat (first | (with_reducible exact Hon.out) | (with_reducible apply Kd.R_drewN))⟩, ⟨by repeat (first | (with_reducible exact hKn.out) | (with_reducible refine blk_drewN ?_ _))⟩, ⟨by repeat (first | (with_reducible exact Hbn.out) | (with_reducible apply pw_below_drewN))⟩⟩
                  · rw [if_neg c70] at H
                    exact absurd H (by simp)
          · rw [if_neg c8] at H
            exact absurd H (by simp)
        · rw [if_neg c7] at H
          have c7b0 : decide (x5_1 < (a0.size : Int)) = false := decide_eq_false c7
          clear c7
          by_cases c77 : x4_1.length < 5864062014805
          · rw [if_pos c77] at H
            have LMc77 := Aside0.mk c77
            clear c77
            obtain ⟨y224, hy224⟩ : ∃ y_ : List (S35), y_ = (x4_1 ++ [(⟨1, (a0.size : Int), (a0.size : Int)⟩ : S35)]) := ⟨_, rfl⟩
            replace H : (some (y224, 0, 0)) = some (r1, r2, r3) := by first | (rw [hy224]; with_reducible exact H) | (have H2_ := (Option.bind_some _ _).symm.trans H; rw [hy224]; with_reducible exact H2_) | (have H2_ := (Option.bind_some _ _).symm.trans H; with_reducible exact H2_) | with_reducible exact H | (rw [hy224]; exact H) | exact H
            have Ny224 := Aside0.mk hy224
            clear hy224
            simp only [Option.some.injEq, Prod.mk.injEq] at H
            obtain ⟨rfl, rfl, rfl⟩ := H
            have cz0 : wr.cell? ⟨gb207, 0, none⟩ = some (.int .i64 x208000_1) := (blk_cell BK207.out 0).trans rfl
            have cz1 : wr.cell? ⟨gb207, 1, none⟩ = some (.int .i64 x208001_1) := (blk_cell BK207.out 1).trans rfl
            have fz0 := blk_frozen BK207.out 0
            have fz1 := blk_frozen BK207.out 1
            have hlt := blk_lt BK207.out
            have hlt1 := Nat.lt_succ_of_lt hlt
            have hne := Nat.ne_of_lt (blk_lt BK207.out)
            have hne' := Nat.ne_of_gt (blk_lt BK207.out)
            have hne1 := Nat.ne_of_lt hlt1
            go_wp2_with (first | ((with_reducible refine gate_builtin (b := .append) (xs := #[.tmp 82, .tmp 88]) rfl ?_); at_builtin; refine Kd.R_append k35 (w0 := w) w.heap.size rfl (.tmp 82) (.tmp 88) 23 35 (.agg #[(.int .u8 0), (.int .i64 0), (.int .i64 0)]) 24 rfl Try.underlying23 info35 rfl (by decide) (by omega) u4 x4_1 (⟨1, (a0.size : Int), (a0.size : Int)⟩ : S35) [.int .u8 1, .int .i64 (a0.size : Int), .int .i64 (a0.size : Int)] (fun _ => True) (fun _ => False) rfl (by first | (go_simp; done) | (go_simp; rfl)) ?aP (fun _ hk => hk.elim) (fun _ _ => trivial) ?aO ?aB ?aS ?aL ?_; (case aP => exact k35_mkM _ _ _ (⟨1, (a0.size : Int), (a0.size : Int)⟩ : S35)); (case aO => exact Kd.R_below HO_4.out (by repeat (first | (with_reducible exact Below.refl _ _) | (with_reducible apply below_alloc) | (with_reducible apply pw_below_drewN) | (with_reducible refine below_set ?_ (Nat.le_refl _))))); (case aB => exact (by repeat (first | (with_reducible exact HB.out) | (with_reducible apply below_alloc) | (with_reducible apply pw_below_drewN) | (with_reducible refine below_set ?_ GE207.out) | (with_reducible refine below_set ?_ (below_size HB.out))))); (case aS => exact below_size (by repeat (first | (with_reducible exact HB.out) | (with_reducible apply below_alloc) | (with_reducible apply pw_below_drewN) | (with_reducible refine below_set ?_ GE207.out) | (with_reducible refine below_set ?_ (below_size HB.out))))); (case aL => have := LMc77.out; omega); intro vn wn ho hb hg hat; rw [← Ny224.out] at ho; have hKn := Aside0.mk (blk_grown (g := gb207) (o := .cells #[.int .i64 x208000_1, .int .i64 x208001_1] 26 (0, 0)) (by repeat (first | (with_reducible exact BK207.out) | (with_reducible refine blk_drewN ?_ _) | (with_reducible refine blk_alloc ?_ _) | (with_reducible apply blk_put) | (with_reducible refine blk_far ?_ hne _) | (refine blk_far ?_ hne _) | (refine blk_far ?_ hne1 _) | exact rfl)) hg (Kd.R_ne HO_4.out BK207.out (by decide))); have czn0 : wn.cell? ⟨gb207, 0, none⟩ = some (.int .i64 x208000_1) := (blk_cell hKn.out 0).trans rfl; have czn1 : wn.cell? ⟨gb207, 1, none⟩ = some (.int .i64 x208001_1) := (blk_cell hKn.out 1).trans rfl; have fzn0 := blk_frozen hKn.out 0; have fzn1 := blk_frozen hKn.out 1; have Hon := Aside0.mk ho; have Hbn := Aside0.mk hb; clear ho hb hg hat))
            refine bodyPost_ret (results_tc rfl _ _ gb207 26 #[.int .i64 0, .int .i64 0] (0, 0) _ rfl (by repeat (first | (with_reducible exact hKn.out) | (with_reducible refine blk_drewN ?_ _) | (with_reducible refine blk_alloc ?_ _) | (with_reducible apply blk_put) | (with_reducible refine blk_far ?_ hne _) | (refine blk_far ?_ hne _) | (refine blk_far ?_ hne1 _) | exact rfl)) Try.underlying26 rfl (by kernel_rfl)) rfl ?_
            exact ⟨vn, by first | rfl | (simp; done), Kd.R_mono (Kd.R_far (Kd.R_far (Kd.R_types Hon.out hKn.out (by decide)) (fun _ hk => hk.2) _) (fun _ hk => hk.2) _) (fun _ _ => trivial), (by repeat (first | (with_reducible exact Hbn.out) | (with_reducible apply below_alloc) | (with_reducible apply pw_below_drewN) | (with_reducible refine below_set ?_ GE207.out) | (with_reducible refine below_set ?_ (below_size Hbn.out))))⟩
          · rw [if_neg c77] at H
            exact absurd H (by simp)

/-! ### smithylaw02_TokenScans: function 3 -/
def smithylaw02_TokenScans.f (k : Nat) (a0 : ByteArray) : Option (Bool) := (smithylaw02_awake.f k).bind fun t255 => (if t255 = true then ((token_Scan.f k a0).bind fun bt256 => ((smithyref02_Scan.f k a0).bind fun bt262 => (if (bt256.2.1 == bt262.2.1 && (bt256.2.2 == bt262.2.2)) = true then ((smithylaw02_same.f k bt256.1 bt262.1).bind fun t268 => (some t268)) else (some false)))) else (some false))
theorem smithylaw02_TokenScans.mono : ∀ a0 k, LeO (smithylaw02_TokenScans.f k a0) (smithylaw02_TokenScans.f (k + 1) a0) := by
  intro a0 k
  unfold smithylaw02_TokenScans.f
  repeat' first
      | (with_reducible exact smithylaw02_awake.mono _)
      | (with_reducible exact smithylaw02_same.mono _ _ _)
      | (with_reducible exact smithyref02_Scan.mono _ _)
      | (with_reducible exact token_Scan.mono _ _)
      | (with_reducible exact LeO.refl _)
      | (with_reducible exact LeO.none _)
      | (with_reducible refine LeO.ite ?_ ?_)
      | (with_reducible refine LeO.bind ?_ (fun _ => ?_))
      | exact smithylaw02_awake.mono _
      | exact smithylaw02_same.mono _ _ _
      | exact smithyref02_Scan.mono _ _
      | exact token_Scan.mono _ _
      | exact LeO.none _
      | refine LeO.ite ?_ ?_
      | refine LeO.bind ?_ (fun _ => ?_)
set_option maxHeartbeats 8000000 in
set_option maxRecDepth 100000 in
theorem smithylaw02_TokenScans.calls (k : Nat) (a0 : ByteArray) (r : Bool) (w : World) (h : smithylaw02_TokenScans.f k a0 = some r) :
    Calls Try.prog 3 #[.string a0] w fun e w' => e = .returned (.bool r) ∧ Below w.heap.size w w' := by
  have hu26 := Try.underlying26
  have HB := Aside0.mk (Below.refl w.heap.size w)
  have H : ((smithylaw02_awake.f k).bind fun t255 => (if t255 = true then ((token_Scan.f k a0).bind fun bt256 => ((smithyref02_Scan.f k a0).bind fun bt262 => (if (bt256.2.1 == bt262.2.1 && (bt256.2.2 == bt262.2.2)) = true then ((smithylaw02_same.f k bt256.1 bt262.1).bind fun t268 => (some t268)) else (some false)))) else (some false))) = some r := h
  clear h
  replace H := Option.bind_eq_some_iff.mp H
  obtain ⟨t255, A20, H⟩ := H
  replace H : (if t255 = true then ((token_Scan.f k a0).bind fun bt256 => ((smithyref02_Scan.f k a0).bind fun bt262 => (if (bt256.2.1 == bt262.2.1 && (bt256.2.2 == bt262.2.2)) = true then ((smithylaw02_same.f k bt256.1 bt262.1).bind fun t268 => (some t268)) else (some false)))) else (some false)) = some r := H
  have A2 := Aside0.mk A20
  clear A20
  by_cases c3 : t255 = true
  · subst c3
    have H1 : ((token_Scan.f k a0).bind fun bt256 => ((smithyref02_Scan.f k a0).bind fun bt262 => (if (bt256.2.1 == bt262.2.1 && (bt256.2.2 == bt262.2.2)) = true then ((smithylaw02_same.f k bt256.1 bt262.1).bind fun t268 => (some t268)) else (some false)))) = some r := by rw [if_pos rfl] at H; exact H
    clear H
    have H := H1
    clear H1
    replace H := Option.bind_eq_some_iff.mp H
    obtain ⟨⟨t256, t259, t260⟩, A40, H⟩ := H
    replace H : ((smithyref02_Scan.f k a0).bind fun bt262 => (if (t259 == bt262.2.1 && (t260 == bt262.2.2)) = true then ((smithylaw02_same.f k t256 bt262.1).bind fun t268 => (some t268)) else (some false))) = some r := H
    have A4 := Aside0.mk A40
    clear A40
    replace H := Option.bind_eq_some_iff.mp H
    obtain ⟨⟨t262, t265, t266⟩, A50, H⟩ := H
    replace H : (if (t259 == t265 && (t260 == t266)) = true then ((smithylaw02_same.f k t256 t262).bind fun t268 => (some t268)) else (some false)) = some r := H
    have A5 := Aside0.mk A50
    clear A50
    by_cases c6 : (t259 == t265 && (t260 == t266)) = true
    · rw [if_pos c6] at H
      have c6b0 : (t259 == t265 && (t260 == t266)) = true := c6
      (try (have c6b1 : decide (t259 = t265 && (t260 == t266)) = true := by simpa using c6))
      (try (have c6b2 : (t259 == t265 && (t260 == t266)) = true := by simpa using c6))
      clear c6
      replace H := Option.bind_eq_some_iff.mp H
      obtain ⟨t268, A70, H⟩ := H
      replace H : (some t268) = some r := H
      have A7 := Aside0.mk A70
      clear A70
      obtain rfl := Option.some.inj H
      go_enter Try.func3, Try.ntmps3
      go_wp2_with (first | ((with_reducible refine gate_callee (f := 10) rfl ?_); refine goesL_ (some 7) rfl rfl Try.func10 (by kernel_rfl) rfl #[] rfl (by (try simp only [List.map_toArray, List.map_cons, List.map_nil]); first | done | rfl | (simp only [List.length_drop, List.length_take]; rfl)) ?_; (with_reducible refine (smithylaw02_awake.calls k  true _ A2.out).mono ?_); rintro e w8 ⟨rfl, hb⟩; refine ⟨_, rfl, ?_⟩; have n0_ := Aside0.mk (below_step (by repeat (first | (with_reducible first | exact HB.out | apply below_alloc | apply pw_below_drewN | apply below_drew1) | exact HB.out)) hb); clear HB; have HB := n0_; clear n0_; (try clear hb); (try clear hb2); (try clear hk); (try clear hi)) | ((with_reducible refine gate_callee (f := 11) rfl ?_); refine goesL_ (some 11) rfl rfl Try.func11 (by kernel_rfl) rfl #[.string a0] rfl (by (try simp only [List.map_toArray, List.map_cons, List.map_nil]); first | done | rfl | (simp only [List.length_drop, List.length_take]; rfl)) ?_; (with_reducible refine (token_Scan.calls k a0 t256 t259 t260 _ A4.out).mono ?_); rintro e w9 ⟨v257, rfl, ho0, hb⟩; refine ⟨_, rfl, ?_⟩; have n0_ := Aside0.mk (Kd.R_lower ho0 (below_size (by repeat (first | (with_reducible first | exact HB.out | apply below_alloc | apply pw_below_drewN | apply below_drew1) | exact HB.out)))); have n1_ := Aside0.mk (below_step (by repeat (first | (with_reducible first | exact HB.out | apply below_alloc | apply pw_below_drewN | apply below_drew1) | exact HB.out)) hb); clear HB; have HO258 := n0_; have HB := n1_; clear n0_ n1_; (try clear hb); (try clear hb2); (try clear hk); (try clear hi); (try clear ho0)) | ((with_reducible refine gate_dst (N := 4) rfl ?_); refine box_event ?hg (N := 4) ?hd (cs := #[.int .i64 0, .int .i64 0]) (t := 26) ?hr ?_; (case hd => rfl); (case hg => rfl); (case hr => first | (go_simp; done) | (go_simp; rfl)); intro gb261 hg w10 hbox hb; have n0_ := Aside0.mk (Kd.R_below (by (with_reducible repeat (first | apply Kd.R_alloc | apply Kd.R_drewN | apply Kd.R_drew)); exact HO258.out) hb); have n1_ := Aside0.mk (below_step (by repeat (first | (with_reducible first | exact HB.out | apply below_alloc | apply pw_below_drewN | apply below_drew1) | exact HB.out)) hb); have n2_ := Aside0.mk (hbox); have n3_ := Aside0.mk ((by rw [hg]; exact (below_size (by repeat (first | (with_reducible first | exact HB.out | apply below_alloc | apply pw_below_drewN | apply below_drew1) | exact HB.out))) : w.heap.size ≤ gb261)); have n4_ := Aside0.mk ((by rw [hg]; exact (below_size (by repeat (first | (with_reducible first | exact HB.out | apply below_alloc | apply pw_below_drewN | apply below_drew1) | exact HB.out))) : w.heap.size ≤ gb261)); clear HO258; clear HB; have HO258 := n0_; have HB := n1_; have BK261 := n2_; have GW261 := n3_; have GE261 := n4_; clear n0_ n1_ n2_ n3_ n4_; clear hb hbox hg; have hcz11_0 : w10.cell? ⟨gb261, 0, none⟩ = some (.int .i64 0) := (blk_cell BK261.out 0).trans rfl; have hcz11_1 : w10.cell? ⟨gb261, 1, none⟩ = some (.int .i64 0) := (blk_cell BK261.out 1).trans rfl; have hfz11_0 := blk_frozen BK261.out 0; have hfz11_1 := blk_frozen BK261.out 1) | ((with_reducible refine gate_callee (f := 12) rfl ?_); refine goesL_ (some 16) rfl rfl Try.func12 (by kernel_rfl) rfl #[.string a0] rfl (by (try simp only [List.map_toArray, List.map_cons, List.map_nil]); first | done | rfl | (simp only [List.length_drop, List.length_take]; rfl)) ?_; (with_reducible refine (smithyref02_Scan.calls k a0 t262 t265 t266 _ A5.out).mono ?_); rintro e w12 ⟨v263, rfl, ho0, hb⟩; refine ⟨_, rfl, ?_⟩; have n0_ := Aside0.mk (Kd.R_elder' (by (with_reducible repeat (first | apply Kd.R_alloc | apply Kd.R_drewN | apply Kd.R_drew)); exact (Kd.R_mono (Kd.R_far (p := ⟨gb261, 1, none⟩) (Kd.R_far (p := ⟨gb261, 0, none⟩) (Kd.R_types HO258.out BK261.out (by decide)) (fun _ hk => hk.2) (.int .i64 t259)) (fun _ hk => hk.2) (.int .i64 t260)) (fun _ h_ => h_.1))) (Kd.R_base ho0) hb); have n1_ := Aside0.mk (Kd.R_lower (Kd.R_new' ho0 (Kd.R_lt (by (with_reducible repeat (first | apply Kd.R_alloc | apply Kd.R_drewN | apply Kd.R_drew)); exact (Kd.R_mono (Kd.R_far (p := ⟨gb261, 1, none⟩) (Kd.R_far (p := ⟨gb261, 0, none⟩) (Kd.R_types HO258.out BK261.out (by decide)) (fun _ hk => hk.2) (.int .i64 t259)) (fun _ hk => hk.2) (.int .i64 t260)) (fun _ h_ => h_.1))))) (below_size (by repeat (first | (with_reducible first | exact HB.out | apply below_alloc | apply pw_below_drewN | apply below_drew1 | refine below_set ?_ GE261.out) | exact HB.out)))); have n2_ := Aside0.mk (blk_below (g := gb261) (o := .cells #[.int .i64 t259, .int .i64 t260] 26 (0, 0)) (by (with_reducible repeat (first | refine blk_drewN ?_ _ | refine blk_drew ?_ | refine blk_alloc ?_ _)); refine blk_put (cs := #[.int .i64 t259, .int .i64 0]) ?_ 1 _ rfl; (with_reducible repeat (first | refine blk_drewN ?_ _ | refine blk_drew ?_ | refine blk_alloc ?_ _)); refine blk_put (cs := #[.int .i64 0, .int .i64 0]) ?_ 0 _ rfl; (with_reducible repeat (first | refine blk_drewN ?_ _ | refine blk_drew ?_ | refine blk_alloc ?_ _)); exact BK261.out) hb); have n3_ := Aside0.mk (below_step (by repeat (first | (with_reducible first | exact HB.out | apply below_alloc | apply pw_below_drewN | apply below_drew1 | refine below_set ?_ GE261.out) | exact HB.out)) hb); clear HO258; clear BK261; clear HB; have HO258 := n0_; have HO264 := n1_; have BK261 := n2_; have HB := n3_; clear n0_ n1_ n2_ n3_; (try clear hb); (try clear hb2); (try clear hk); (try clear hi); (try clear ho0)) | ((with_reducible refine gate_dst (N := 6) rfl ?_); refine box_event ?hg (N := 6) ?hd (cs := #[.int .i64 0, .int .i64 0]) (t := 26) ?hr ?_; (case hd => rfl); (case hg => rfl); (case hr => first | (go_simp; done) | (go_simp; rfl)); intro gb267 hg w13 hbox hb; have n0_ := Aside0.mk (Kd.R_below (by (with_reducible repeat (first | apply Kd.R_alloc | apply Kd.R_drewN | apply Kd.R_drew)); exact HO258.out) hb); have n1_ := Aside0.mk (Kd.R_below (by (with_reducible repeat (first | apply Kd.R_alloc | apply Kd.R_drewN | apply Kd.R_drew)); exact HO264.out) hb); have n2_ := Aside0.mk (blk_below (g := gb261) (o := .cells #[.int .i64 t259, .int .i64 t260] 26 (0, 0)) (by (with_reducible repeat (first | refine blk_drewN ?_ _ | refine blk_drew ?_ | refine blk_alloc ?_ _)); exact BK261.out) hb); have n3_ := Aside0.mk (below_step (by repeat (first | (with_reducible first | exact HB.out | apply below_alloc | apply pw_below_drewN | apply below_drew1 | refine below_set ?_ GE261.out) | exact HB.out)) hb); have n4_ := Aside0.mk (hbox); have n5_ := Aside0.mk ((by rw [hg]; exact (below_size (by repeat (first | (with_reducible first | exact HB.out | apply below_alloc | apply pw_below_drewN | apply below_drew1 | refine below_set ?_ GE261.out) | exact HB.out))) : w.heap.size ≤ gb267)); have n6_ := Aside0.mk ((by rw [hg]; exact (below_size (by repeat (first | (with_reducible first | exact HB.out | apply below_alloc | apply pw_below_drewN | apply below_drew1 | refine below_set ?_ GE261.out) | exact HB.out))) : w.heap.size ≤ gb267)); have n7_ := Aside0.mk ((by rw [hg]; exact Nat.ne_of_lt (blk_lt (g := gb261) (o := .cells #[.int .i64 t259, .int .i64 t260] 26 (0, 0)) (by (with_reducible repeat (first | refine blk_drewN ?_ _ | refine blk_drew ?_ | refine blk_alloc ?_ _)); exact BK261.out)) : gb261 ≠ gb267)); have n8_ := Aside0.mk ((by rw [hg]; exact Nat.ne_of_gt (blk_lt (g := gb261) (o := .cells #[.int .i64 t259, .int .i64 t260] 26 (0, 0)) (by (with_reducible repeat (first | refine blk_drewN ?_ _ | refine blk_drew ?_ | refine blk_alloc ?_ _)); exact BK261.out)) : gb267 ≠ gb261)); clear HO258; clear HO264; clear BK261; clear HB; have HO258 := n0_; have HO264 := n1_; have BK261 := n2_; have HB := n3_; have BK267 := n4_; have GW267 := n5_; have GE267 := n6_; have NB261_267 := n7_; have NB267_261 := n8_; clear n0_ n1_ n2_ n3_ n4_ n5_ n6_ n7_ n8_; clear hb hbox hg; have hnb14 := NB267_261.out; have hnc14 := NB261_267.out; have hcz15_0 : w13.cell? ⟨gb267, 0, none⟩ = some (.int .i64 0) := (blk_cell BK267.out 0).trans rfl; have hcz15_1 : w13.cell? ⟨gb267, 1, none⟩ = some (.int .i64 0) := (blk_cell BK267.out 1).trans rfl; have hfz15_0 := blk_frozen BK267.out 0; have hfz15_1 := blk_frozen BK267.out 1; have hcz16_0 : w13.cell? ⟨gb261, 0, none⟩ = some (.int .i64 t259) := (blk_cell BK261.out 0).trans rfl; have hcz16_1 : w13.cell? ⟨gb261, 1, none⟩ = some (.int .i64 t260) := (blk_cell BK261.out 1).trans rfl; have hfz16_0 := blk_frozen BK261.out 0; have hfz16_1 := blk_frozen BK261.out 1; obtain ⟨Ao17, co17, eo17⟩ := Kd.R_slice HO258.out; subst eo17; obtain ⟨Ao18, co18, eo18⟩ := Kd.R_slice HO264.out; subst eo18) | (go_at_call 13; (with_reducible refine (smithylaw02_same.calls k _ _ t256 _ _ t262 t268 _ ?side1 ?side2 ?side3 ?side4 A7.out).mono ?_); (case side1 => refine (Kd.R_reads' (e := 35) (base := w.heap.size) (ok := fun k_ => (True ∧ some k_ ≠ (.slice Ao18 t262.length co18 : Value).ownBlock)) (n := t256.length) (c := co17) ?_).2.2; exact (by (with_reducible repeat (first | apply Kd.R_alloc | apply Kd.R_drewN | apply Kd.R_drew)); exact (Kd.R_mono (Kd.R_far (p := ⟨gb267, 1, none⟩) (Kd.R_far (p := ⟨gb267, 0, none⟩) (Kd.R_types HO258.out BK267.out (by decide)) (fun _ hk => hk.2) (.int .i64 t265)) (fun _ hk => hk.2) (.int .i64 t266)) (fun _ h_ => h_.1)))); (case side2 => exact (Kd.R_reads' HO258.out).2.1); (case side3 => refine (Kd.R_reads' (e := 35) (base := w.heap.size) (ok := fun k_ => (True ∧ some k_ ≠ (.slice Ao17 t256.length co17 : Value).ownBlock)) (n := t262.length) (c := co18) ?_).2.2; exact (by (with_reducible repeat (first | apply Kd.R_alloc | apply Kd.R_drewN | apply Kd.R_drew)); exact (Kd.R_mono (Kd.R_far (p := ⟨gb267, 1, none⟩) (Kd.R_far (p := ⟨gb267, 0, none⟩) (Kd.R_types HO264.out BK267.out (by decide)) (fun _ hk => hk.2) (.int .i64 t265)) (fun _ hk => hk.2) (.int .i64 t266)) (fun _ h_ => h_.1)))); (case side4 => exact (Kd.R_reads' HO264.out).2.1); rintro e w' ⟨rfl, ⟨nd, rfl⟩⟩))
      go_ret
      exact ⟨by first | rfl | (simp [errW_none, errW_some] <;> rfl) | (simp [*, errW_none, errW_some] <;> rfl), by repeat (first | (with_reducible first | exact HB.out | apply below_alloc | apply pw_below_drewN | apply below_drew1 | refine below_set ?_ GE261.out | refine below_set ?_ GE267.out) | exact HB.out)⟩
    · rw [if_neg c6] at H
      have c6b0 : (t259 == t265 && (t260 == t266)) = false := by simpa using c6
      (try (have c6b1 : decide (t259 = t265 && (t260 == t266)) = false := by simpa using c6))
      (try (have c6b2 : (t259 == t265 && (t260 == t266)) = false := by simpa using c6))
      (try (have c6b3 : ¬ (t259 = t265 && (t260 == t266)) := by simpa using c6))
      clear c6
      obtain rfl := Option.some.inj H
      go_enter Try.func3, Try.ntmps3
      go_wp2_with (first | ((with_reducible refine gate_callee (f := 10) rfl ?_); refine goesL_ (some 7) rfl rfl Try.func10 (by kernel_rfl) rfl #[] rfl (by (try simp only [List.map_toArray, List.map_cons, List.map_nil]); first | done | rfl | (simp only [List.length_drop, List.length_take]; rfl)) ?_; (with_reducible refine (smithylaw02_awake.calls k  true _ A2.out).mono ?_); rintro e w19 ⟨rfl, hb⟩; refine ⟨_, rfl, ?_⟩; have n0_ := Aside0.mk (below_step (by repeat (first | (with_reducible first | exact HB.out | apply below_alloc | apply pw_below_drewN | apply below_drew1) | exact HB.out)) hb); clear HB; have HB := n0_; clear n0_; (try clear hb); (try clear hb2); (try clear hk); (try clear hi)) | ((with_reducible refine gate_callee (f := 11) rfl ?_); refine goesL_ (some 11) rfl rfl Try.func11 (by kernel_rfl) rfl #[.string a0] rfl (by (try simp only [List.map_toArray, List.map_cons, List.map_nil]); first | done | rfl | (simp only [List.length_drop, List.length_take]; rfl)) ?_; (with_reducible refine (token_Scan.calls k a0 t256 t259 t260 _ A4.out).mono ?_); rintro e w20 ⟨v257, rfl, ho0, hb⟩; refine ⟨_, rfl, ?_⟩; have n0_ := Aside0.mk (Kd.R_lower ho0 (below_size (by repeat (first | (with_reducible first | exact HB.out | apply below_alloc | apply pw_below_drewN | apply below_drew1) | exact HB.out)))); have n1_ := Aside0.mk (below_step (by repeat (first | (with_reducible first | exact HB.out | apply below_alloc | apply pw_below_drewN | apply below_drew1) | exact HB.out)) hb); clear HB; have HO258 := n0_; have HB := n1_; clear n0_ n1_; (try clear hb); (try clear hb2); (try clear hk); (try clear hi); (try clear ho0)) | ((with_reducible refine gate_dst (N := 4) rfl ?_); refine box_event ?hg (N := 4) ?hd (cs := #[.int .i64 0, .int .i64 0]) (t := 26) ?hr ?_; (case hd => rfl); (case hg => rfl); (case hr => first | (go_simp; done) | (go_simp; rfl)); intro gb261 hg w21 hbox hb; have n0_ := Aside0.mk (Kd.R_below (by (with_reducible repeat (first | apply Kd.R_alloc | apply Kd.R_drewN | apply Kd.R_drew)); exact HO258.out) hb); have n1_ := Aside0.mk (below_step (by repeat (first | (with_reducible first | exact HB.out | apply below_alloc | apply pw_below_drewN | apply below_drew1) | exact HB.out)) hb); have n2_ := Aside0.mk (hbox); have n3_ := Aside0.mk ((by rw [hg]; exact (below_size (by repeat (first | (with_reducible first | exact HB.out | apply below_alloc | apply pw_below_drewN | apply below_drew1) | exact HB.out))) : w.heap.size ≤ gb261)); have n4_ := Aside0.mk ((by rw [hg]; exact (below_size (by repeat (first | (with_reducible first | exact HB.out | apply below_alloc | apply pw_below_drewN | apply below_drew1) | exact HB.out))) : w.heap.size ≤ gb261)); clear HO258; clear HB; have HO258 := n0_; have HB := n1_; have BK261 := n2_; have GW261 := n3_; have GE261 := n4_; clear n0_ n1_ n2_ n3_ n4_; clear hb hbox hg; have hcz22_0 : w21.cell? ⟨gb261, 0, none⟩ = some (.int .i64 0) := (blk_cell BK261.out 0).trans rfl; have hcz22_1 : w21.cell? ⟨gb261, 1, none⟩ = some (.int .i64 0) := (blk_cell BK261.out 1).trans rfl; have hfz22_0 := blk_frozen BK261.out 0; have hfz22_1 := blk_frozen BK261.out 1) | ((with_reducible refine gate_callee (f := 12) rfl ?_); refine goesL_ (some 16) rfl rfl Try.func12 (by kernel_rfl) rfl #[.string a0] rfl (by (try simp only [List.map_toArray, List.map_cons, List.map_nil]); first | done | rfl | (simp only [List.length_drop, List.length_take]; rfl)) ?_; (with_reducible refine (smithyref02_Scan.calls k a0 t262 t265 t266 _ A5.out).mono ?_); rintro e w23 ⟨v263, rfl, ho0, hb⟩; refine ⟨_, rfl, ?_⟩; have n0_ := Aside0.mk (Kd.R_elder' (by (with_reducible repeat (first | apply Kd.R_alloc | apply Kd.R_drewN | apply Kd.R_drew)); exact (Kd.R_mono (Kd.R_far (p := ⟨gb261, 1, none⟩) (Kd.R_far (p := ⟨gb261, 0, none⟩) (Kd.R_types HO258.out BK261.out (by decide)) (fun _ hk => hk.2) (.int .i64 t259)) (fun _ hk => hk.2) (.int .i64 t260)) (fun _ h_ => h_.1))) (Kd.R_base ho0) hb); have n1_ := Aside0.mk (Kd.R_lower (Kd.R_new' ho0 (Kd.R_lt (by (with_reducible repeat (first | apply Kd.R_alloc | apply Kd.R_drewN | apply Kd.R_drew)); exact (Kd.R_mono (Kd.R_far (p := ⟨gb261, 1, none⟩) (Kd.R_far (p := ⟨gb261, 0, none⟩) (Kd.R_types HO258.out BK261.out (by decide)) (fun _ hk => hk.2) (.int .i64 t259)) (fun _ hk => hk.2) (.int .i64 t260)) (fun _ h_ => h_.1))))) (below_size (by repeat (first | (with_reducible first | exact HB.out | apply below_alloc | apply pw_below_drewN | apply below_drew1 | refine below_set ?_ GE261.out) | exact HB.out)))); have n2_ := Aside0.mk (blk_below (g := gb261) (o := .cells #[.int .i64 t259, .int .i64 t260] 26 (0, 0)) (by (with_reducible repeat (first | refine blk_drewN ?_ _ | refine blk_drew ?_ | refine blk_alloc ?_ _)); refine blk_put (cs := #[.int .i64 t259, .int .i64 0]) ?_ 1 _ rfl; (with_reducible repeat (first | refine blk_drewN ?_ _ | refine blk_drew ?_ | refine blk_alloc ?_ _)); refine blk_put (cs := #[.int .i64 0, .int .i64 0]) ?_ 0 _ rfl; (with_reducible repeat (first | refine blk_drewN ?_ _ | refine blk_drew ?_ | refine blk_alloc ?_ _)); exact BK261.out) hb); have n3_ := Aside0.mk (below_step (by repeat (first | (with_reducible first | exact HB.out | apply below_alloc | apply pw_below_drewN | apply below_drew1 | refine below_set ?_ GE261.out) | exact HB.out)) hb); clear HO258; clear BK261; clear HB; have HO258 := n0_; have HO264 := n1_; have BK261 := n2_; have HB := n3_; clear n0_ n1_ n2_ n3_; (try clear hb); (try clear hb2); (try clear hk); (try clear hi); (try clear ho0)) | ((with_reducible refine gate_dst (N := 6) rfl ?_); refine box_event ?hg (N := 6) ?hd (cs := #[.int .i64 0, .int .i64 0]) (t := 26) ?hr ?_; (case hd => rfl); (case hg => rfl); (case hr => first | (go_simp; done) | (go_simp; rfl)); intro gb267 hg w24 hbox hb; have n0_ := Aside0.mk (Kd.R_below (by (with_reducible repeat (first | apply Kd.R_alloc | apply Kd.R_drewN | apply Kd.R_drew)); exact HO258.out) hb); have n1_ := Aside0.mk (Kd.R_below (by (with_reducible repeat (first | apply Kd.R_alloc | apply Kd.R_drewN | apply Kd.R_drew)); exact HO264.out) hb); have n2_ := Aside0.mk (blk_below (g := gb261) (o := .cells #[.int .i64 t259, .int .i64 t260] 26 (0, 0)) (by (with_reducible repeat (first | refine blk_drewN ?_ _ | refine blk_drew ?_ | refine blk_alloc ?_ _)); exact BK261.out) hb); have n3_ := Aside0.mk (below_step (by repeat (first | (with_reducible first | exact HB.out | apply below_alloc | apply pw_below_drewN | apply below_drew1 | refine below_set ?_ GE261.out) | exact HB.out)) hb); have n4_ := Aside0.mk (hbox); have n5_ := Aside0.mk ((by rw [hg]; exact (below_size (by repeat (first | (with_reducible first | exact HB.out | apply below_alloc | apply pw_below_drewN | apply below_drew1 | refine below_set ?_ GE261.out) | exact HB.out))) : w.heap.size ≤ gb267)); have n6_ := Aside0.mk ((by rw [hg]; exact (below_size (by repeat (first | (with_reducible first | exact HB.out | apply below_alloc | apply pw_below_drewN | apply below_drew1 | refine below_set ?_ GE261.out) | exact HB.out))) : w.heap.size ≤ gb267)); have n7_ := Aside0.mk ((by rw [hg]; exact Nat.ne_of_lt (blk_lt (g := gb261) (o := .cells #[.int .i64 t259, .int .i64 t260] 26 (0, 0)) (by (with_reducible repeat (first | refine blk_drewN ?_ _ | refine blk_drew ?_ | refine blk_alloc ?_ _)); exact BK261.out)) : gb261 ≠ gb267)); have n8_ := Aside0.mk ((by rw [hg]; exact Nat.ne_of_gt (blk_lt (g := gb261) (o := .cells #[.int .i64 t259, .int .i64 t260] 26 (0, 0)) (by (with_reducible repeat (first | refine blk_drewN ?_ _ | refine blk_drew ?_ | refine blk_alloc ?_ _)); exact BK261.out)) : gb267 ≠ gb261)); clear HO258; clear HO264; clear BK261; clear HB; have HO258 := n0_; have HO264 := n1_; have BK261 := n2_; have HB := n3_; have BK267 := n4_; have GW267 := n5_; have GE267 := n6_; have NB261_267 := n7_; have NB267_261 := n8_; clear n0_ n1_ n2_ n3_ n4_ n5_ n6_ n7_ n8_; clear hb hbox hg; have hnb25 := NB267_261.out; have hnc25 := NB261_267.out; have hcz26_0 : w24.cell? ⟨gb267, 0, none⟩ = some (.int .i64 0) := (blk_cell BK267.out 0).trans rfl; have hcz26_1 : w24.cell? ⟨gb267, 1, none⟩ = some (.int .i64 0) := (blk_cell BK267.out 1).trans rfl; have hfz26_0 := blk_frozen BK267.out 0; have hfz26_1 := blk_frozen BK267.out 1; have hcz27_0 : w24.cell? ⟨gb261, 0, none⟩ = some (.int .i64 t259) := (blk_cell BK261.out 0).trans rfl; have hcz27_1 : w24.cell? ⟨gb261, 1, none⟩ = some (.int .i64 t260) := (blk_cell BK261.out 1).trans rfl; have hfz27_0 := blk_frozen BK261.out 0; have hfz27_1 := blk_frozen BK261.out 1))
      go_ret
      exact ⟨by first | rfl | (simp [errW_none, errW_some] <;> rfl) | (simp [*, errW_none, errW_some] <;> rfl), by repeat (first | (with_reducible first | exact HB.out | apply below_alloc | apply pw_below_drewN | apply below_drew1 | refine below_set ?_ GE261.out | refine below_set ?_ GE267.out) | exact HB.out)⟩
  · replace c3 := Bool.eq_false_iff.mpr c3
    subst c3
    have H1 : (some false) = some r := by rw [if_neg (show ¬ (false = true) by decide)] at H; exact H
    clear H
    have H := H1
    clear H1
    obtain rfl := Option.some.inj H
    go_enter Try.func3, Try.ntmps3
    go_wp2_with (first | ((with_reducible refine gate_callee (f := 10) rfl ?_); refine goesL_ (some 7) rfl rfl Try.func10 (by kernel_rfl) rfl #[] rfl (by (try simp only [List.map_toArray, List.map_cons, List.map_nil]); first | done | rfl | (simp only [List.length_drop, List.length_take]; rfl)) ?_; (with_reducible refine (smithylaw02_awake.calls k  false _ A2.out).mono ?_); rintro e w28 ⟨rfl, hb⟩; refine ⟨_, rfl, ?_⟩; have n0_ := Aside0.mk (below_step (by repeat (first | (with_reducible first | exact HB.out | apply below_alloc | apply pw_below_drewN | apply below_drew1) | exact HB.out)) hb); clear HB; have HB := n0_; clear n0_; (try clear hb); (try clear hb2); (try clear hk); (try clear hi)))
    go_ret
    exact ⟨by first | rfl | (simp [errW_none, errW_some] <;> rfl) | (simp [*, errW_none, errW_some] <;> rfl), by repeat (first | (with_reducible first | exact HB.out | apply below_alloc | apply pw_below_drewN | apply below_drew1) | exact HB.out)⟩

/-- THE ONE PURE STATEMENT of smithylaw02_TokenScans: yours. -/
def smithylaw02_TokenScans.Pure : Prop := ∀ (a0 : ByteArray), a0.size ≤ 140737488351232 → ∃ k, smithylaw02_TokenScans.f k a0 = some true
theorem smithylaw02_TokenScans.walk (P : smithylaw02_TokenScans.Pure) (a0 : ByteArray) (w : World) (w0 : a0.size ≤ 140737488351232) :
    Calls Try.prog 3 #[.string a0] w fun e w' => e = .returned (.bool true) ∧ Below w.heap.size w w' := by
  obtain ⟨k, h⟩ := P a0 w0
  refine (smithylaw02_TokenScans.calls k a0 true w h).mono ?_
  rintro e w' ⟨rfl, hd⟩
  exact ⟨rfl, hd⟩

/-! ### smithylaw02_TokenWords: function 4 -/
def smithylaw02_TokenWords.f (k : Nat) (a0 : ByteArray) : Option (Bool) := (smithylaw02_awake.f k).bind fun t269 => (if t269 = true then ((token_Word.f k a0).bind fun t270 => ((smithyref02_Word.f k a0).bind fun t271 => (some (t270 == t271)))) else (some false))
theorem smithylaw02_TokenWords.mono : ∀ a0 k, LeO (smithylaw02_TokenWords.f k a0) (smithylaw02_TokenWords.f (k + 1) a0) := by
  intro a0 k
  unfold smithylaw02_TokenWords.f
  repeat' first
      | (with_reducible exact smithylaw02_awake.mono _)
      | (with_reducible exact smithyref02_Word.mono _ _)
      | (with_reducible exact token_Word.mono _ _)
      | (with_reducible exact LeO.refl _)
      | (with_reducible exact LeO.none _)
      | (with_reducible refine LeO.ite ?_ ?_)
      | (with_reducible refine LeO.bind ?_ (fun _ => ?_))
      | exact smithylaw02_awake.mono _
      | exact smithyref02_Word.mono _ _
      | exact token_Word.mono _ _
      | exact LeO.none _
      | refine LeO.ite ?_ ?_
      | refine LeO.bind ?_ (fun _ => ?_)
set_option maxHeartbeats 8000000 in
set_option maxRecDepth 100000 in
theorem smithylaw02_TokenWords.calls (k : Nat) (a0 : ByteArray) (r : Bool) (w : World) (h : smithylaw02_TokenWords.f k a0 = some r) :
    Calls Try.prog 4 #[.string a0] w fun e w' => e = .returned (.bool r) ∧ Below w.heap.size w w' := by
  have HB := Aside0.mk (Below.refl w.heap.size w)
  have H : ((smithylaw02_awake.f k).bind fun t269 => (if t269 = true then ((token_Word.f k a0).bind fun t270 => ((smithyref02_Word.f k a0).bind fun t271 => (some (t270 == t271)))) else (some false))) = some r := h
  clear h
  replace H := Option.bind_eq_some_iff.mp H
  obtain ⟨t269, A20, H⟩ := H
  replace H : (if t269 = true then ((token_Word.f k a0).bind fun t270 => ((smithyref02_Word.f k a0).bind fun t271 => (some (t270 == t271)))) else (some false)) = some r := H
  have A2 := Aside0.mk A20
  clear A20
  by_cases c3 : t269 = true
  · subst c3
    have H1 : ((token_Word.f k a0).bind fun t270 => ((smithyref02_Word.f k a0).bind fun t271 => (some (t270 == t271)))) = some r := by rw [if_pos rfl] at H; exact H
    clear H
    have H := H1
    clear H1
    replace H := Option.bind_eq_some_iff.mp H
    obtain ⟨t270, A40, H⟩ := H
    replace H : ((smithyref02_Word.f k a0).bind fun t271 => (some (t270 == t271))) = some r := H
    have A4 := Aside0.mk A40
    clear A40
    replace H := Option.bind_eq_some_iff.mp H
    obtain ⟨t271, A50, H⟩ := H
    replace H : (some (t270 == t271)) = some r := H
    have A5 := Aside0.mk A50
    clear A50
    obtain rfl := Option.some.inj H
    go_enter Try.func4, Try.ntmps4
    go_wp2_with (first | ((with_reducible refine gate_callee (f := 10) rfl ?_); refine goesL_ (some 3) rfl rfl Try.func10 (by kernel_rfl) rfl #[] rfl (by (try simp only [List.map_toArray, List.map_cons, List.map_nil]); first | done | rfl | (simp only [List.length_drop, List.length_take]; rfl)) ?_; (with_reducible refine (smithylaw02_awake.calls k  true _ A2.out).mono ?_); rintro e w6 ⟨rfl, hb⟩; refine ⟨_, rfl, ?_⟩; have n0_ := Aside0.mk (below_step (by repeat (first | (with_reducible first | exact HB.out | apply below_alloc | apply pw_below_drewN | apply below_drew1) | exact HB.out)) hb); clear HB; have HB := n0_; clear n0_; (try clear hb); (try clear hb2); (try clear hk); (try clear hi)) | (go_at_call 14; (with_reducible refine (token_Word.calls k a0 t270 _ A4.out).mono ?_); rintro e w' ⟨rfl, ⟨nd, rfl⟩⟩) | (go_at_call 15; (with_reducible refine (smithyref02_Word.calls k a0 t271 _ A5.out).mono ?_); rintro e w' ⟨rfl, ⟨nd, rfl⟩⟩))
    go_ret
    exact ⟨by first | rfl | (simp [errW_none, errW_some] <;> rfl) | (simp [*, errW_none, errW_some] <;> rfl), by repeat (first | (with_reducible first | exact HB.out | apply below_alloc | apply pw_below_drewN | apply below_drew1) | exact HB.out)⟩
  · replace c3 := Bool.eq_false_iff.mpr c3
    subst c3
    have H1 : (some false) = some r := by rw [if_neg (show ¬ (false = true) by decide)] at H; exact H
    clear H
    have H := H1
    clear H1
    obtain rfl := Option.some.inj H
    go_enter Try.func4, Try.ntmps4
    go_wp2_with (first | ((with_reducible refine gate_callee (f := 10) rfl ?_); refine goesL_ (some 3) rfl rfl Try.func10 (by kernel_rfl) rfl #[] rfl (by (try simp only [List.map_toArray, List.map_cons, List.map_nil]); first | done | rfl | (simp only [List.length_drop, List.length_take]; rfl)) ?_; (with_reducible refine (smithylaw02_awake.calls k  false _ A2.out).mono ?_); rintro e w7 ⟨rfl, hb⟩; refine ⟨_, rfl, ?_⟩; have n0_ := Aside0.mk (below_step (by repeat (first | (with_reducible first | exact HB.out | apply below_alloc | apply pw_below_drewN | apply below_drew1) | exact HB.out)) hb); clear HB; have HB := n0_; clear n0_; (try clear hb); (try clear hb2); (try clear hk); (try clear hi)))
    go_ret
    exact ⟨by first | rfl | (simp [errW_none, errW_some] <;> rfl) | (simp [*, errW_none, errW_some] <;> rfl), by repeat (first | (with_reducible first | exact HB.out | apply below_alloc | apply pw_below_drewN | apply below_drew1) | exact HB.out)⟩

/-- THE ONE PURE STATEMENT of smithylaw02_TokenWords: yours. -/
def smithylaw02_TokenWords.Pure : Prop := ∀ (a0 : ByteArray), a0.size ≤ 140737488351232 → ∃ k, smithylaw02_TokenWords.f k a0 = some true
theorem smithylaw02_TokenWords.walk (P : smithylaw02_TokenWords.Pure) (a0 : ByteArray) (w : World) (w0 : a0.size ≤ 140737488351232) :
    Calls Try.prog 4 #[.string a0] w fun e w' => e = .returned (.bool true) ∧ Below w.heap.size w w' := by
  obtain ⟨k, h⟩ := P a0 w0
  refine (smithylaw02_TokenWords.calls k a0 true w h).mono ?_
  rintro e w' ⟨rfl, hd⟩
  exact ⟨rfl, hd⟩

end Go.Proofs.Ytimnlnkjogbjfaa.X
