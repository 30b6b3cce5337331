/- Go functions of this seat as Lean functions, each with the proof that the Go call comes to the same (lines written by a program of the session's; no condition beyond those stated). -/
import Derived.Test.YtimnlnkjogbjfaaX0
import Derived.Test.YtimnlnkjogbjfaaX20
namespace Go.Proofs.Ytimnlnkjogbjfaa.X
open Go.RowKit Go.Proofs.YtimnlnkjogbjfaaW.PrintWords Go.Proofs.YtimnlnkjogbjfaaW.PrintLast Go.Proofs.YtimnlnkjogbjfaaW.PrintMore
attribute [local go_sem] max2_int min2_int max_two min_two max_three min_three max_four min_four   -- for this text's walks alone
set_option linter.unusedVariables false
set_option linter.unusedSimpArgs false

/-! ### smithyref02_literal: function 26 -/
mutual
def smithyref02_literal.j0 : Nat → ByteArray → Int → Int → Bool → Option (Int × Int × Int × Int × Bool)
  | 0, _, _, _, _ => none
  | k + 1, x0, x1, x7, x23 => if x23 = true then ((smithyref02_row.f k x0 (wrap64 (x7 + 1)) false).bind fun t218 => (if t218 = (wrap64 (x7 + 1)) then (some (0, 0, 0, t218, false)) else (if t218 < (x0.size : Int) then (if 0 ≤ t218 then (smithyref02_literal.j1 k x0 x1 t218 ((bt x0 t218) == 101)) else (none)) else (smithyref02_literal.j1 k x0 x1 t218 false)))) else ((smithyref02_row.f k x0 x7 true).bind fun t221 => (if 0 ≤ x7 then (if x7 ≤ t221 then (if t221 ≤ (x0.size : Int) then (if (x0.extract (x7 : Int).toNat (t221 : Int).toNat).toList = ([] : List UInt8) then (smithyref02_literal.j6 k x1 x7 t221 false) else (if (x0.extract (x7 : Int).toNat (t221 : Int).toNat).toList = ([105, 54, 52] : List UInt8) then (smithyref02_literal.j6 k x1 x7 t221 false) else (if (x0.extract (x7 : Int).toNat (t221 : Int).toNat).toList = ([105, 51, 50] : List UInt8) then (smithyref02_literal.j6 k x1 x7 t221 false) else (smithyref02_literal.j6 k x1 x7 t221 ((x0.extract (x7 : Int).toNat (t221 : Int).toNat).toList != ([117, 56] : List UInt8)))))) else (none)) else (none)) else (none)))
def smithyref02_literal.j1 : Nat → ByteArray → Int → Int → Bool → Option (Int × Int × Int × Int × Bool)
  | 0, _, _, _, _ => none
  | k + 1, x0, x1, x7, x43 => if x43 = true then (if (wrap64 (x7 + 1)) < (x0.size : Int) then (if 0 ≤ (wrap64 (x7 + 1)) then (if (bt x0 (wrap64 (x7 + 1))) = 43 then (smithyref02_literal.j2 k x0 x1 (wrap64 (x7 + 1)) true) else (smithyref02_literal.j2 k x0 x1 (wrap64 (x7 + 1)) ((bt x0 (wrap64 (x7 + 1))) == 45))) else (none)) else (smithyref02_literal.j2 k x0 x1 (wrap64 (x7 + 1)) false)) else (smithyref02_literal.j4 k x0 x1 x7)
def smithyref02_literal.j4 : Nat → ByteArray → Int → Int → Option (Int × Int × Int × Int × Bool)
  | 0, _, _, _ => none
  | k + 1, x0, x1, x7 => (smithyref02_row.f k x0 x7 true).bind fun t220 => (if t220 > x7 then (smithyref02_literal.j5 k x1 x7 true) else (if x7 < (x0.size : Int) then (if 0 ≤ x7 then (smithyref02_literal.j5 k x1 x7 ((bt x0 x7) == 46)) else (none)) else (smithyref02_literal.j5 k x1 x7 false)))
def smithyref02_literal.j5 : Nat → Int → Int → Bool → Option (Int × Int × Int × Int × Bool)
  | 0, _, _, _ => none
  | k + 1, x1, x7, x88 => if x88 = true then (some (0, 0, 0, x7, false)) else (some (5, x1, x7, 0, true))
def smithyref02_literal.j2 : Nat → ByteArray → Int → Int → Bool → Option (Int × Int × Int × Int × Bool)
  | 0, _, _, _, _ => none
  | k + 1, x0, x1, x8, x61 => if x61 = true then (smithyref02_literal.j3 k x0 x1 (wrap64 (x8 + 1))) else (smithyref02_literal.j3 k x0 x1 x8)
def smithyref02_literal.j3 : Nat → ByteArray → Int → Int → Option (Int × Int × Int × Int × Bool)
  | 0, _, _, _ => none
  | k + 1, x0, x1, x8 => (smithyref02_row.f k x0 x8 false).bind fun t219 => (if t219 = x8 then (some (0, 0, 0, t219, false)) else (smithyref02_literal.j4 k x0 x1 t219))
def smithyref02_literal.j6 : Nat → Int → Int → Int → Bool → Option (Int × Int × Int × Int × Bool)
  | 0, _, _, _, _ => none
  | k + 1, x1, x7, x9, x114 => if x114 = true then (some (0, 0, 0, x7, false)) else (some (4, x1, x9, 0, true))
end
def smithyref02_literal.f (k : Nat) (a0 : ByteArray) (a1 : Int) : Option (Int × Int × Int × Int × Bool) := (smithyref02_row.f k a0 a1 false).bind fun t217 => (if t217 < (a0.size : Int) then (if 0 ≤ t217 then (smithyref02_literal.j0 k a0 a1 t217 ((bt a0 t217) == 46)) else (none)) else (smithyref02_literal.j0 k a0 a1 t217 false))
theorem smithyref02_literal.mono_l : ∀ k, (∀ y0 y1 y2 y3, LeO (smithyref02_literal.j0 k y0 y1 y2 y3) (smithyref02_literal.j0 (k + 1) y0 y1 y2 y3)) ∧ (∀ y0 y1 y2 y3, LeO (smithyref02_literal.j1 k y0 y1 y2 y3) (smithyref02_literal.j1 (k + 1) y0 y1 y2 y3)) ∧ (∀ y0 y1 y2, LeO (smithyref02_literal.j4 k y0 y1 y2) (smithyref02_literal.j4 (k + 1) y0 y1 y2)) ∧ (∀ y0 y1 y2, LeO (smithyref02_literal.j5 k y0 y1 y2) (smithyref02_literal.j5 (k + 1) y0 y1 y2)) ∧ (∀ y0 y1 y2 y3, LeO (smithyref02_literal.j2 k y0 y1 y2 y3) (smithyref02_literal.j2 (k + 1) y0 y1 y2 y3)) ∧ (∀ y0 y1 y2, LeO (smithyref02_literal.j3 k y0 y1 y2) (smithyref02_literal.j3 (k + 1) y0 y1 y2)) ∧ (∀ y0 y1 y2 y3, LeO (smithyref02_literal.j6 k y0 y1 y2 y3) (smithyref02_literal.j6 (k + 1) y0 y1 y2 y3))
  | 0 => ⟨fun _ _ _ _ r h => by simp [smithyref02_literal.j0] at h, fun _ _ _ _ r h => by simp [smithyref02_literal.j1] at h, fun _ _ _ r h => by simp [smithyref02_literal.j4] at h, fun _ _ _ r h => by simp [smithyref02_literal.j5] at h, fun _ _ _ _ r h => by simp [smithyref02_literal.j2] at h, fun _ _ _ r h => by simp [smithyref02_literal.j3] at h, fun _ _ _ _ r h => by simp [smithyref02_literal.j6] at h⟩
  | k + 1 => by
    obtain ⟨ih0, ih1, ih2, ih3, ih4, ih5, ih6⟩ := smithyref02_literal.mono_l k
    refine ⟨?_, ?_, ?_, ?_, ?_, ?_, ?_⟩
    · intro y0 y1 y2 y3
      unfold smithyref02_literal.j0
      repeat' first
      | (with_reducible exact ih0 _ _ _ _)
      | (with_reducible exact ih1 _ _ _ _)
      | (with_reducible exact ih2 _ _ _)
      | (with_reducible exact ih3 _ _ _)
      | (with_reducible exact ih4 _ _ _ _)
      | (with_reducible exact ih5 _ _ _)
      | (with_reducible exact ih6 _ _ _ _)
      | (with_reducible exact smithyref02_row.mono _ _ _ _)
      | (with_reducible exact LeO.refl _)
      | (with_reducible exact LeO.none _)
      | (with_reducible refine LeO.ite ?_ ?_)
      | (with_reducible refine LeO.bind ?_ (fun _ => ?_))
      | exact ih0 _ _ _ _
      | exact ih1 _ _ _ _
      | exact ih2 _ _ _
      | exact ih3 _ _ _
      | exact ih4 _ _ _ _
      | exact ih5 _ _ _
      | exact ih6 _ _ _ _
      | exact smithyref02_row.mono _ _ _ _
      | exact LeO.none _
      | refine LeO.ite ?_ ?_
      | refine LeO.bind ?_ (fun _ => ?_)
    · intro y0 y1 y2 y3
      unfold smithyref02_literal.j1
      repeat' first
      | (with_reducible exact ih0 _ _ _ _)
      | (with_reducible exact ih1 _ _ _ _)
      | (with_reducible exact ih2 _ _ _)
      | (with_reducible exact ih3 _ _ _)
      | (with_reducible exact ih4 _ _ _ _)
      | (with_reducible exact ih5 _ _ _)
      | (with_reducible exact ih6 _ _ _ _)
      | (with_reducible exact smithyref02_row.mono _ _ _ _)
      | (with_reducible exact LeO.refl _)
      | (with_reducible exact LeO.none _)
      | (with_reducible refine LeO.ite ?_ ?_)
      | (with_reducible refine LeO.bind ?_ (fun _ => ?_))
      | exact ih0 _ _ _ _
      | exact ih1 _ _ _ _
      | exact ih2 _ _ _
      | exact ih3 _ _ _
      | exact ih4 _ _ _ _
      | exact ih5 _ _ _
      | exact ih6 _ _ _ _
      | exact smithyref02_row.mono _ _ _ _
      | exact LeO.none _
      | refine LeO.ite ?_ ?_
      | refine LeO.bind ?_ (fun _ => ?_)
    · intro y0 y1 y2
      unfold smithyref02_literal.j4
      repeat' first
      | (with_reducible exact ih0 _ _ _ _)
      | (with_reducible exact ih1 _ _ _ _)
      | (with_reducible exact ih2 _ _ _)
      | (with_reducible exact ih3 _ _ _)
      | (with_reducible exact ih4 _ _ _ _)
      | (with_reducible exact ih5 _ _ _)
      | (with_reducible exact ih6 _ _ _ _)
      | (with_reducible exact smithyref02_row.mono _ _ _ _)
      | (with_reducible exact LeO.refl _)
      | (with_reducible exact LeO.none _)
      | (with_reducible refine LeO.ite ?_ ?_)
      | (with_reducible refine LeO.bind ?_ (fun _ => ?_))
      | exact ih0 _ _ _ _
      | exact ih1 _ _ _ _
      | exact ih2 _ _ _
      | exact ih3 _ _ _
      | exact ih4 _ _ _ _
      | exact ih5 _ _ _
      | exact ih6 _ _ _ _
      | exact smithyref02_row.mono _ _ _ _
      | exact LeO.none _
      | refine LeO.ite ?_ ?_
      | refine LeO.bind ?_ (fun _ => ?_)
    · intro y0 y1 y2
      unfold smithyref02_literal.j5
      repeat' first
      | (with_reducible exact ih0 _ _ _ _)
      | (with_reducible exact ih1 _ _ _ _)
      | (with_reducible exact ih2 _ _ _)
      | (with_reducible exact ih3 _ _ _)
      | (with_reducible exact ih4 _ _ _ _)
      | (with_reducible exact ih5 _ _ _)
      | (with_reducible exact ih6 _ _ _ _)
      | (with_reducible exact smithyref02_row.mono _ _ _ _)
      | (with_reducible exact LeO.refl _)
      | (with_reducible exact LeO.none _)
      | (with_reducible refine LeO.ite ?_ ?_)
      | (with_reducible refine LeO.bind ?_ (fun _ => ?_))
      | exact ih0 _ _ _ _
      | exact ih1 _ _ _ _
      | exact ih2 _ _ _
      | exact ih3 _ _ _
      | exact ih4 _ _ _ _
      | exact ih5 _ _ _
      | exact ih6 _ _ _ _
      | exact smithyref02_row.mono _ _ _ _
      | exact LeO.none _
      | refine LeO.ite ?_ ?_
      | refine LeO.bind ?_ (fun _ => ?_)
    · intro y0 y1 y2 y3
      unfold smithyref02_literal.j2
      repeat' first
      | (with_reducible exact ih0 _ _ _ _)
      | (with_reducible exact ih1 _ _ _ _)
      | (with_reducible exact ih2 _ _ _)
      | (with_reducible exact ih3 _ _ _)
      | (with_reducible exact ih4 _ _ _ _)
      | (with_reducible exact ih5 _ _ _)
      | (with_reducible exact ih6 _ _ _ _)
      | (with_reducible exact smithyref02_row.mono _ _ _ _)
      | (with_reducible exact LeO.refl _)
      | (with_reducible exact LeO.none _)
      | (with_reducible refine LeO.ite ?_ ?_)
      | (with_reducible refine LeO.bind ?_ (fun _ => ?_))
      | exact ih0 _ _ _ _
      | exact ih1 _ _ _ _
      | exact ih2 _ _ _
      | exact ih3 _ _ _
      | exact ih4 _ _ _ _
      | exact ih5 _ _ _
      | exact ih6 _ _ _ _
      | exact smithyref02_row.mono _ _ _ _
      | exact LeO.none _
      | refine LeO.ite ?_ ?_
      | refine LeO.bind ?_ (fun _ => ?_)
    · intro y0 y1 y2
      unfold smithyref02_literal.j3
      repeat' first
      | (with_reducible exact ih0 _ _ _ _)
      | (with_reducible exact ih1 _ _ _ _)
      | (with_reducible exact ih2 _ _ _)
      | (with_reducible exact ih3 _ _ _)
      | (with_reducible exact ih4 _ _ _ _)
      | (with_reducible exact ih5 _ _ _)
      | (with_reducible exact ih6 _ _ _ _)
      | (with_reducible exact smithyref02_row.mono _ _ _ _)
      | (with_reducible exact LeO.refl _)
      | (with_reducible exact LeO.none _)
      | (with_reducible refine LeO.ite ?_ ?_)
      | (with_reducible refine LeO.bind ?_ (fun _ => ?_))
      | exact ih0 _ _ _ _
      | exact ih1 _ _ _ _
      | exact ih2 _ _ _
      | exact ih3 _ _ _
      | exact ih4 _ _ _ _
      | exact ih5 _ _ _
      | exact ih6 _ _ _ _
      | exact smithyref02_row.mono _ _ _ _
      | exact LeO.none _
      | refine LeO.ite ?_ ?_
      | refine LeO.bind ?_ (fun _ => ?_)
    · intro y0 y1 y2 y3
      unfold smithyref02_literal.j6
      repeat' first
      | (with_reducible exact ih0 _ _ _ _)
      | (with_reducible exact ih1 _ _ _ _)
      | (with_reducible exact ih2 _ _ _)
      | (with_reducible exact ih3 _ _ _)
      | (with_reducible exact ih4 _ _ _ _)
      | (with_reducible exact ih5 _ _ _)
      | (with_reducible exact ih6 _ _ _ _)
      | (with_reducible exact smithyref02_row.mono _ _ _ _)
      | (with_reducible exact LeO.refl _)
      | (with_reducible exact LeO.none _)
      | (with_reducible refine LeO.ite ?_ ?_)
      | (with_reducible refine LeO.bind ?_ (fun _ => ?_))
      | exact ih0 _ _ _ _
      | exact ih1 _ _ _ _
      | exact ih2 _ _ _
      | exact ih3 _ _ _
      | exact ih4 _ _ _ _
      | exact ih5 _ _ _
      | exact ih6 _ _ _ _
      | exact smithyref02_row.mono _ _ _ _
      | exact LeO.none _
      | refine LeO.ite ?_ ?_
      | refine LeO.bind ?_ (fun _ => ?_)
theorem smithyref02_literal.mono : ∀ a0 a1 k, LeO (smithyref02_literal.f k a0 a1) (smithyref02_literal.f (k + 1) a0 a1) := by
  intro a0 a1 k
  obtain ⟨ih0, ih1, ih2, ih3, ih4, ih5, ih6⟩ := smithyref02_literal.mono_l k
  unfold smithyref02_literal.f
  repeat' first
      | (with_reducible exact ih0 _ _ _ _)
      | (with_reducible exact ih1 _ _ _ _)
      | (with_reducible exact ih2 _ _ _)
      | (with_reducible exact ih3 _ _ _)
      | (with_reducible exact ih4 _ _ _ _)
      | (with_reducible exact ih5 _ _ _)
      | (with_reducible exact ih6 _ _ _ _)
      | (with_reducible exact smithyref02_row.mono _ _ _ _)
      | (with_reducible exact LeO.refl _)
      | (with_reducible exact LeO.none _)
      | (with_reducible refine LeO.ite ?_ ?_)
      | (with_reducible refine LeO.bind ?_ (fun _ => ?_))
      | exact ih0 _ _ _ _
      | exact ih1 _ _ _ _
      | exact ih2 _ _ _
      | exact ih3 _ _ _
      | exact ih4 _ _ _ _
      | exact ih5 _ _ _
      | exact ih6 _ _ _ _
      | exact smithyref02_row.mono _ _ _ _
      | exact LeO.none _
      | refine LeO.ite ?_ ?_
      | refine LeO.bind ?_ (fun _ => ?_)
set_option maxHeartbeats 8000000 in
set_option maxRecDepth 100000 in
theorem smithyref02_literal.calls (k : Nat) (a0 : ByteArray) (a1 : Int) (r1 : Int) (r2 : Int) (r3 : Int) (r4 : Int) (r5 : Bool) (w : World) (h : smithyref02_literal.f k a0 a1 = some (r1, r2, r3, r4, r5)) :
    Calls Try.prog 26 #[.string a0, .int .i64 a1] w fun e w' => e = .returned (.tuple #[.agg #[.int .u8 r1, .int .i64 r2, .int .i64 r3], .int .i64 r4, .bool r5]) ∧ Below w.heap.size w w' := by
  have hu35 := Try.underlying35
  have HB := Aside0.mk (Below.refl w.heap.size w)
  have H : ((smithyref02_row.f k a0 a1 false).bind fun t217 => (if t217 < (a0.size : Int) then (if 0 ≤ t217 then (smithyref02_literal.j0 k a0 a1 t217 ((bt a0 t217) == 46)) else (none)) else (smithyref02_literal.j0 k a0 a1 t217 false))) = some (r1, r2, r3, r4, r5) := h
  clear h
  replace H := Option.bind_eq_some_iff.mp H
  obtain ⟨t217, A30, H⟩ := H
  replace H : (if t217 < (a0.size : Int) then (if 0 ≤ t217 then (smithyref02_literal.j0 k a0 a1 t217 ((bt a0 t217) == 46)) else (none)) else (smithyref02_literal.j0 k a0 a1 t217 false)) = some (r1, r2, r3, r4, r5) := H
  have A3 := Aside0.mk A30
  clear A30
  have HC4 := Aside0.mk H
  clear H
  go_enter Try.func26, Try.ntmps26
  go_upto_region 2 with (first | ((with_reducible refine gate_dst (N := 4) rfl ?_); (try (refine gate_guard (by rfl) ?_; dsimp only)); refine box_event ?hg (N := 4) ?hd (cs := #[.int .u8 0, .int .i64 0, .int .i64 0]) (t := 35) ?hr ?_; (case hd => rfl); (case hg => rfl); (case hr => first | (go_simp; done) | (go_simp; rfl)); intro gb216 hg w5 hbox hb; have n0_ := Aside0.mk (below_step (by repeat (first | (with_reducible first | exact HB.out | apply below_alloc | apply pw_below_drewN | apply below_drew1) | exact HB.out)) hb); have n1_ := Aside0.mk (hbox); have n2_ := Aside0.mk ((by rw [hg]; exact (below_size (by repeat (first | (with_reducible first | exact HB.out | apply below_alloc | apply pw_below_drewN | apply below_drew1) | exact HB.out))) : w.heap.size ≤ gb216)); have n3_ := Aside0.mk ((by rw [hg]; exact (below_size (by repeat (first | (with_reducible first | exact HB.out | apply below_alloc | apply pw_below_drewN | apply below_drew1) | exact HB.out))) : w.heap.size ≤ gb216)); clear HB; have HB := n0_; have BK216 := n1_; have GW216 := n2_; have GE216 := n3_; clear n0_ n1_ n2_ n3_; clear hb hbox hg) | ((with_reducible refine gate_callee (f := 24) rfl ?_); refine goesL_ (some 13) rfl rfl Try.func24 (by kernel_rfl) rfl #[.string a0, .int .i64 a1, .bool false] rfl (by (try simp only [List.map_toArray, List.map_cons, List.map_nil]); first | done | rfl | (simp only [List.length_drop, List.length_take]; rfl)) ?_; (with_reducible refine (smithyref02_row.calls k a0 a1 false t217 _ A3.out).mono ?_); rintro e w' ⟨rfl, ⟨nd, rfl⟩⟩; refine ⟨_, rfl, ?_⟩))
  (try simp only [Act.put, List.setIfInBounds_toArray, List.set_cons_zero, List.set_cons_succ])
  go_cut [23] (fun v23 wc => ∃ (kq : Nat) (x23_3 : Bool), v23 = .bool x23_3 ∧ Aside0 (smithyref02_literal.j0 kq a0 a1 t217 x23_3 = some (r1, r2, r3, r4, r5)) ∧ Aside0 (kq ≤ k) ∧ Aside0 (wc.heap[gb216]? = some (.cells #[.int .u8 0, .int .i64 0, .int .i64 0] 35 (0, 0))) ∧ Aside0 (Below w.heap.size w wc))
  case first =>
    have H := HC4.out
    clear HC4
    by_cases c6 : t217 < (a0.size : Int)
    · rw [if_pos c6] at H
      have c6b0 : decide (t217 < (a0.size : Int)) = true := decide_eq_true c6
      clear c6
      (first | rw [c6b0] | (simp only [i64_w, i32_w]; rw [c6b0]) | rw [c6b2] | skip)
      by_cases c7 : 0 ≤ t217
      · rw [if_pos c7] at H
        have c7b0 : decide (0 ≤ t217) = true := decide_eq_true c7
        clear c7
        have H' := Aside0.mk H
        clear H
        have p8 : 0 ≤ (t217 : Int) := of_decide_eq_true (by first | (with_reducible assumption) | assumption)
        have q8 : t217 < (a0.size : Int) := of_decide_eq_true (by first | (with_reducible assumption) | assumption)
        have hx8 := bt_at a0 t217
        replace p8 := eq_true p8
        replace q8 := eq_true q8
        go_wp2
        go_meet
        case rel => exact ⟨_, (((bt a0 t217) == 46)), (by first | rfl | (simp; done) | (simp [*]; done)), (by first | exact H' | (rw [hji21]; exact H')), ⟨by first | omega | exact Nat.le_refl _⟩, ⟨by (with_reducible repeat (first | refine blk_drewN ?_ _ | refine blk_drew ?_ | refine blk_alloc ?_ _)); exact BK216.out⟩, ⟨by repeat (first | (with_reducible first | exact HB.out | apply below_alloc | apply pw_below_drewN | apply below_drew1 | refine below_set ?_ GE216.out) | exact HB.out)⟩⟩
      · rw [if_neg c7] at H
        exact absurd H (by simp)
    · rw [if_neg c6] at H
      have c6b0 : decide (t217 < (a0.size : Int)) = false := decide_eq_false c6
      clear c6
      (first | rw [c6b0] | (simp only [i64_w, i32_w]; rw [c6b0]) | rw [c6b2] | skip)
      have H' := Aside0.mk H
      clear H
      go_wp2
      go_meet
      case rel => exact ⟨_, (false), (by first | rfl | (simp; done) | (simp [*]; done)), (by first | exact H' | (rw [hji21]; exact H')), ⟨by first | omega | exact Nat.le_refl _⟩, ⟨by (with_reducible repeat (first | refine blk_drewN ?_ _ | refine blk_drew ?_ | refine blk_alloc ?_ _)); exact BK216.out⟩, ⟨by repeat (first | (with_reducible first | exact HB.out | apply below_alloc | apply pw_below_drewN | apply below_drew1 | refine below_set ?_ GE216.out) | exact HB.out)⟩⟩
  case rest =>
    clear HC4
    try clear c2
    try clear p2
    try clear c6
    try clear c6b0
    try clear c6b2
    try clear c7
    try clear c7b0
    try clear p8
    try clear q8
    try clear hx8
    try clear p8
    try clear q8
    obtain ⟨kq, x23_3, rfl, HA, HJ3, BK216, HB⟩ := hcut
    cases kq with
    | zero => exact absurd HA.out (by simp [smithyref02_literal.j0])
    | succ kj3 =>
      have H := HA.out
      clear HA
      simp only [smithyref02_literal.j0] at H
      by_cases c9 : x23_3 = true
      · subst c9
        have H1 : ((smithyref02_row.f kj3 a0 (wrap64 (t217 + 1)) false).bind fun t218 => (if t218 = (wrap64 (t217 + 1)) then (some (0, 0, 0, t218, false)) else (if t218 < (a0.size : Int) then (if 0 ≤ t218 then (smithyref02_literal.j1 kj3 a0 a1 t218 ((bt a0 t218) == 101)) else (none)) else (smithyref02_literal.j1 kj3 a0 a1 t218 false)))) = some (r1, r2, r3, r4, r5) := by rw [if_pos rfl] at H; exact H
        clear H
        have H := H1
        clear H1
        replace H := Option.bind_eq_some_iff.mp H
        obtain ⟨t218, A100, H⟩ := H
        replace H : (if t218 = (wrap64 (t217 + 1)) then (some (0, 0, 0, t218, false)) else (if t218 < (a0.size : Int) then (if 0 ≤ t218 then (smithyref02_literal.j1 kj3 a0 a1 t218 ((bt a0 t218) == 101)) else (none)) else (smithyref02_literal.j1 kj3 a0 a1 t218 false))) = some (r1, r2, r3, r4, r5) := H
        have A10 := Aside0.mk A100
        clear A100
        by_cases c11 : t218 = (wrap64 (t217 + 1))
        · rw [if_pos c11] at H
          have c11b0 : (t218 == (wrap64 (t217 + 1))) = true := beq_iff_eq.mpr c11
          have c11b1 : (t218 != (wrap64 (t217 + 1))) = false := bne_eq_false_iff_eq.mpr c11
          clear c11
          simp only [Option.some.injEq, Prod.mk.injEq] at H
          obtain ⟨rfl, rfl, rfl, rfl, rfl⟩ := H
          go_wp2_with (first | ((with_reducible refine gate_callee (f := 24) rfl ?_); refine goesL_ (some 28) rfl rfl Try.func24 (by kernel_rfl) rfl #[.string a0, .int .i64 (wrap64 (t217 + 1)), .bool false] rfl (by (try simp only [List.map_toArray, List.map_cons, List.map_nil]); first | done | rfl | (simp only [List.length_drop, List.length_take]; rfl)) ?_; (with_reducible refine (smithyref02_row.calls kj3 a0 (wrap64 (t217 + 1)) false t218 _ A10.out).mono ?_); rintro e w' ⟨rfl, ⟨nd, rfl⟩⟩; refine ⟨_, rfl, ?_⟩; (try (rw [drewN_self wc]; generalize hq_ : World.drewN wc _ = wc; have n0_ : Aside0 (wc.heap[gb216]? = some (.cells #[.int .u8 0, .int .i64 0, .int .i64 0] 35 (0, 0))) := ⟨by rw [← hq_]; exact (by (with_reducible repeat (first | refine blk_drewN ?_ _ | refine blk_drew ?_ | refine blk_alloc ?_ _)); exact BK216.out)⟩; have n1_ : Aside0 (Below w.heap.size w wc) := ⟨by rw [← hq_]; exact (by repeat (first | (with_reducible first | exact HB.out | apply below_alloc | apply pw_below_drewN | apply below_drew1 | refine below_set ?_ GE216.out) | exact HB.out))⟩; clear BK216 HB hq_; have BK216 := n0_; have HB := n1_; clear n0_ n1_)); have hcz12_0 : wc.cell? ⟨gb216, 0, none⟩ = some (.int .u8 0) := (blk_cell BK216.out 0).trans rfl; have hcz12_1 : wc.cell? ⟨gb216, 1, none⟩ = some (.int .i64 0) := (blk_cell BK216.out 1).trans rfl; have hcz12_2 : wc.cell? ⟨gb216, 2, none⟩ = some (.int .i64 0) := (blk_cell BK216.out 2).trans rfl; have hfz12_0 := blk_frozen BK216.out 0; have hfz12_1 := blk_frozen BK216.out 1; have hfz12_2 := blk_frozen BK216.out 2))
          refine bodyPost_ret (results_ctt rfl _ _ gb216 35 #[.int .u8 0, .int .i64 0, .int .i64 0] (0, 0) _ rfl (by (with_reducible repeat (first | refine blk_drewN ?_ _ | refine blk_drew ?_ | refine blk_alloc ?_ _)); refine blk_put (cs := #[.int .u8 0, .int .i64 0, .int .i64 0]) ?_ 2 _ rfl; (with_reducible repeat (first | refine blk_drewN ?_ _ | refine blk_drew ?_ | refine blk_alloc ?_ _)); refine blk_put (cs := #[.int .u8 0, .int .i64 0, .int .i64 0]) ?_ 1 _ rfl; (with_reducible repeat (first | refine blk_drewN ?_ _ | refine blk_drew ?_ | refine blk_alloc ?_ _)); refine blk_put (cs := #[.int .u8 0, .int .i64 0, .int .i64 0]) ?_ 0 _ rfl; (with_reducible repeat (first | refine blk_drewN ?_ _ | refine blk_drew ?_ | refine blk_alloc ?_ _)); exact BK216.out) Try.underlying35 rfl (by kernel_rfl)) rfl ?_
          exact ⟨by first | rfl | (simp [errW_none, errW_some] <;> rfl) | (simp [*, errW_none, errW_some] <;> rfl), by repeat (first | (with_reducible first | exact HB.out | apply below_alloc | apply pw_below_drewN | apply below_drew1 | refine below_set ?_ GE216.out) | exact HB.out)⟩
        · rw [if_neg c11] at H
          have c11b0 : (t218 == (wrap64 (t217 + 1))) = false := beq_eq_false_iff_ne.mpr c11
          have c11b1 : (t218 != (wrap64 (t217 + 1))) = true := bne_iff_ne.mpr c11
          have HC13 := Aside0.mk H
          clear H
          go_upto_region 7 with (first | ((with_reducible refine gate_callee (f := 24) rfl ?_); refine goesL_ (some 28) rfl rfl Try.func24 (by kernel_rfl) rfl #[.string a0, .int .i64 (wrap64 (t217 + 1)), .bool false] rfl (by (try simp only [List.map_toArray, List.map_cons, List.map_nil]); first | done | rfl | (simp only [List.length_drop, List.length_take]; rfl)) ?_; (with_reducible refine (smithyref02_row.calls kj3 a0 (wrap64 (t217 + 1)) false t218 _ A10.out).mono ?_); rintro e w' ⟨rfl, ⟨nd, rfl⟩⟩; refine ⟨_, rfl, ?_⟩))
          (try simp only [Act.put, List.setIfInBounds_toArray, List.set_cons_zero, List.set_cons_succ])
          go_cut [43] (fun v43 wc => ∃ (kq : Nat) (x43_12 : Bool), v43 = .bool x43_12 ∧ Aside0 (smithyref02_literal.j1 kq a0 a1 t218 x43_12 = some (r1, r2, r3, r4, r5)) ∧ Aside0 (kq ≤ kj3) ∧ Aside0 (wc.heap[gb216]? = some (.cells #[.int .u8 0, .int .i64 0, .int .i64 0] 35 (0, 0))) ∧ Aside0 (Below w.heap.size w wc))
          case first =>
            have H := HC13.out
            clear HC13
            by_cases c14 : t218 < (a0.size : Int)
            · rw [if_pos c14] at H
              have c14b0 : decide (t218 < (a0.size : Int)) = true := decide_eq_true c14
              clear c14
              (first | rw [c14b0] | (simp only [i64_w, i32_w]; rw [c14b0]) | rw [c14b2] | skip)
              by_cases c15 : 0 ≤ t218
              · rw [if_pos c15] at H
                have c15b0 : decide (0 ≤ t218) = true := decide_eq_true c15
                clear c15
                have H' := Aside0.mk H
                clear H
                have p16 : 0 ≤ (t218 : Int) := of_decide_eq_true (by first | (with_reducible assumption) | assumption)
                have q16 : t218 < (a0.size : Int) := of_decide_eq_true (by first | (with_reducible assumption) | assumption)
                have hx16 := bt_at a0 t218
                replace p16 := eq_true p16
                replace q16 := eq_true q16
                go_wp2
                go_meet
                case rel => exact ⟨_, (((bt a0 t218) == 101)), (by first | rfl | (simp; done) | (simp [*]; done)), (by first | exact H' | (rw [hji21]; exact H')), ⟨by have := HJ3.out; first | omega | exact Nat.le_refl _⟩, ⟨by (with_reducible repeat (first | refine blk_drewN ?_ _ | refine blk_drew ?_ | refine blk_alloc ?_ _)); exact BK216.out⟩, ⟨by repeat (first | (with_reducible first | exact HB.out | apply below_alloc | apply pw_below_drewN | apply below_drew1 | refine below_set ?_ GE216.out) | exact HB.out)⟩⟩
              · rw [if_neg c15] at H
                exact absurd H (by simp)
            · rw [if_neg c14] at H
              have c14b0 : decide (t218 < (a0.size : Int)) = false := decide_eq_false c14
              clear c14
              (first | rw [c14b0] | (simp only [i64_w, i32_w]; rw [c14b0]) | rw [c14b2] | skip)
              have H' := Aside0.mk H
              clear H
              go_wp2
              go_meet
              case rel => exact ⟨_, (false), (by first | rfl | (simp; done) | (simp [*]; done)), (by first | exact H' | (rw [hji21]; exact H')), ⟨by have := HJ3.out; first | omega | exact Nat.le_refl _⟩, ⟨by (with_reducible repeat (first | refine blk_drewN ?_ _ | refine blk_drew ?_ | refine blk_alloc ?_ _)); exact BK216.out⟩, ⟨by repeat (first | (with_reducible first | exact HB.out | apply below_alloc | apply pw_below_drewN | apply below_drew1 | refine below_set ?_ GE216.out) | exact HB.out)⟩⟩
          case rest =>
            clear HC13
            try clear c1
            try clear p1
            try clear q1
            try clear hx1
            try clear c2
            try clear p2
            try clear c6
            try clear c6b0
            try clear c6b2
            try clear p6
            try clear c7
            try clear c7b0
            try clear p8
            try clear q8
            try clear hx8
            try clear c9
            try clear c11
            try clear c11b0
            try clear c11b1
            try clear c14
            try clear c14b0
            try clear c14b2
            try clear c15
            try clear c15b0
            try clear p16
            try clear q16
            try clear hx16
            try clear hcz12_0
            try clear hcz12_1
            try clear hcz12_2
            try clear hfz12_0
            try clear hfz12_1
            try clear hfz12_2
            try clear p16
            try clear p2
            try clear p8
            try clear q16
            try clear q8
            obtain ⟨kq, x43_12, rfl, HA, HJ12, BK216, HB⟩ := hcut
            cases kq with
            | zero => exact absurd HA.out (by simp [smithyref02_literal.j1])
            | succ kj12 =>
              have H := HA.out
              clear HA
              simp only [smithyref02_literal.j1] at H
              have HC17 := Aside0.mk H
              clear H
              go_upto_if 43 with (fail)
              go_cut [7] (fun v7 wc => ∃ (kq : Nat) (x7_16 : Int) (x217000_16 : Int) (x217001_16 : Int) (x217002_16 : Int), v7 = .int .i64 x7_16 ∧ Aside0 (smithyref02_literal.j4 kq a0 a1 x7_16 = some (r1, r2, r3, r4, r5)) ∧ Aside0 (kq ≤ kj12) ∧ Aside0 (wc.heap[gb216]? = some (.cells #[.int .u8 x217000_16, .int .i64 x217001_16, .int .i64 x217002_16] 35 (0, 0))) ∧ Aside0 (Below w.heap.size w wc))
              case first =>
                have H := HC17.out
                clear HC17
                by_cases c18 : x43_12 = true
                · subst c18
                  have H1 : (if (wrap64 (t218 + 1)) < (a0.size : Int) then (if 0 ≤ (wrap64 (t218 + 1)) then (if (bt a0 (wrap64 (t218 + 1))) = 43 then (smithyref02_literal.j2 kj12 a0 a1 (wrap64 (t218 + 1)) true) else (smithyref02_literal.j2 kj12 a0 a1 (wrap64 (t218 + 1)) ((bt a0 (wrap64 (t218 + 1))) == 45))) else (none)) else (smithyref02_literal.j2 kj12 a0 a1 (wrap64 (t218 + 1)) false)) = some (r1, r2, r3, r4, r5) := by rw [if_pos rfl] at H; exact H
                  clear H
                  have H := H1
                  clear H1
                  have HC19 := Aside0.mk H
                  clear H
                  go_upto_region 9 with (fail)
                  go_cut [61] (fun v61 wc => ∃ (kq : Nat) (x61_18 : Bool), v61 = .bool x61_18 ∧ Aside0 (smithyref02_literal.j2 kq a0 a1 (wrap64 (t218 + 1)) x61_18 = some (r1, r2, r3, r4, r5)) ∧ Aside0 (kq ≤ kj12) ∧ Aside0 (wc.heap[gb216]? = some (.cells #[.int .u8 0, .int .i64 0, .int .i64 0] 35 (0, 0))) ∧ Aside0 (Below w.heap.size w wc))
                  case first =>
                    have H := HC19.out
                    clear HC19
                    by_cases c20 : (wrap64 (t218 + 1)) < (a0.size : Int)
                    · rw [if_pos c20] at H
                      have c20b0 : decide ((wrap64 (t218 + 1)) < (a0.size : Int)) = true := decide_eq_true c20
                      clear c20
                      (first | rw [c20b0] | (simp only [i64_w, i32_w]; rw [c20b0]) | rw [c20b2] | skip)
                      obtain ⟨ji21, hji21⟩ : ∃ j_ : Int, (wrap64 (t218 + 1)) = j_ := ⟨_, rfl⟩
                      replace H : (if 0 ≤ (ji21) then (if (bt a0 (ji21)) = 43 then (smithyref02_literal.j2 kj12 a0 a1 ji21 true) else (smithyref02_literal.j2 kj12 a0 a1 ji21 ((bt a0 (ji21)) == 45))) else (none)) = some (r1, r2, r3, r4, r5) := by first | (rw [hji21] at H; exact H) | (simp only [hji21] at H ⊢; exact H)
                      (try rw [hji21] at c20b0)
                      have hji21w : (IntKind.i64.wrap (t218 + 1)) = ji21 := (i64_w _).trans hji21
                      by_cases c22 : 0 ≤ (ji21)
                      · rw [if_pos c22] at H
                        have c22b0 : decide (0 ≤ (ji21)) = true := decide_eq_true c22
                        clear c22
                        by_cases c24 : (bt a0 (ji21)) = 43
                        · rw [if_pos c24] at H
                          have c24b0 : ((bt a0 (ji21)) == 43) = true := beq_iff_eq.mpr c24
                          have c24b1 : ((bt a0 (ji21)) != 43) = false := bne_eq_false_iff_eq.mpr c24
                          clear c24
                          have H' := Aside0.mk H
                          clear H
                          have p23 : 0 ≤ ((ji21) : Int) := of_decide_eq_true (by first | (with_reducible assumption) | assumption)
                          have q23 : (ji21) < (a0.size : Int) := of_decide_eq_true (by first | (with_reducible assumption) | assumption)
                          have hx23 := bt_at a0 (ji21)
                          replace p23 := eq_true p23
                          replace q23 := eq_true q23
                          go_wp2
                          go_meet
                          case rel => exact ⟨_, (true), (by first | rfl | (simp; done) | (simp [*]; done)), (by first | exact H' | (rw [hji21]; exact H')), ⟨by have := HJ3.out; have := HJ12.out; first | omega | exact Nat.le_refl _⟩, ⟨by (with_reducible repeat (first | refine blk_drewN ?_ _ | refine blk_drew ?_ | refine blk_alloc ?_ _)); exact BK216.out⟩, ⟨by repeat (first | (with_reducible first | exact HB.out | apply below_alloc | apply pw_below_drewN | apply below_drew1 | refine below_set ?_ GE216.out) | exact HB.out)⟩⟩
                        · rw [if_neg c24] at H
                          have c24b0 : ((bt a0 (ji21)) == 43) = false := beq_eq_false_iff_ne.mpr c24
                          have c24b1 : ((bt a0 (ji21)) != 43) = true := bne_iff_ne.mpr c24
                          have H' := Aside0.mk H
                          clear H
                          have p23 : 0 ≤ ((ji21) : Int) := of_decide_eq_true (by first | (with_reducible assumption) | assumption)
                          have q23 : (ji21) < (a0.size : Int) := of_decide_eq_true (by first | (with_reducible assumption) | assumption)
                          have hx23 := bt_at a0 (ji21)
                          replace p23 := eq_true p23
                          replace q23 := eq_true q23
                          have p25 : 0 ≤ ((ji21) : Int) := of_decide_eq_true (by first | (with_reducible assumption) | assumption)
                          have q25 : (ji21) < (a0.size : Int) := of_decide_eq_true (by first | (with_reducible assumption) | assumption)
                          have hx25 := bt_at a0 (ji21)
                          replace p25 := eq_true p25
                          replace q25 := eq_true q25
                          go_wp2
                          go_meet
                          case rel => exact ⟨_, (((bt a0 (ji21)) == 45)), (by first | rfl | (simp; done) | (simp only [← hji21] <;> (first | rfl | simp)) | (simp [*]; done)), (by first | exact H' | (rw [hji21]; exact H')), ⟨by have := HJ3.out; have := HJ12.out; first | omega | exact Nat.le_refl _⟩, ⟨by (with_reducible repeat (first | refine blk_drewN ?_ _ | refine blk_drew ?_ | refine blk_alloc ?_ _)); exact BK216.out⟩, ⟨by repeat (first | (with_reducible first | exact HB.out | apply below_alloc | apply pw_below_drewN | apply below_drew1 | refine below_set ?_ GE216.out) | exact HB.out)⟩⟩
                      · rw [if_neg c22] at H
                        exact absurd H (by simp)
                    · rw [if_neg c20] at H
                      have c20b0 : decide ((wrap64 (t218 + 1)) < (a0.size : Int)) = false := decide_eq_false c20
                      clear c20
                      (first | rw [c20b0] | (simp only [i64_w, i32_w]; rw [c20b0]) | rw [c20b2] | skip)
                      have H' := Aside0.mk H
                      clear H
                      go_wp2
                      go_meet
                      case rel => exact ⟨_, (false), (by first | rfl | (simp; done) | (simp [*]; done)), (by first | exact H' | (rw [hji21]; exact H')), ⟨by have := HJ3.out; have := HJ12.out; first | omega | exact Nat.le_refl _⟩, ⟨by (with_reducible repeat (first | refine blk_drewN ?_ _ | refine blk_drew ?_ | refine blk_alloc ?_ _)); exact BK216.out⟩, ⟨by repeat (first | (with_reducible first | exact HB.out | apply below_alloc | apply pw_below_drewN | apply below_drew1 | refine below_set ?_ GE216.out) | exact HB.out)⟩⟩
                  case rest =>
                    clear HC19
                    try clear c1
                    try clear p1
                    try clear q1
                    try clear hx1
                    try clear c2
                    try clear p2
                    try clear q2
                    try clear hx2
                    try clear c6
                    try clear c6b0
                    try clear c6b2
                    try clear p6
                    try clear c7
                    try clear c7b0
                    try clear p8
                    try clear q8
                    try clear hx8
                    try clear c9
                    try clear c11
                    try clear c11b0
                    try clear c11b1
                    try clear c14
                    try clear c14b0
                    try clear c14b2
                    try clear c15
                    try clear c15b0
                    try clear p16
                    try clear q16
                    try clear hx16
                    try clear c18
                    try clear c20
                    try clear c20b0
                    try clear c20b2
                    try clear c22
                    try clear c22b0
                    try clear p23
                    try clear q23
                    try clear hx23
                    try clear c24
                    try clear c24b0
                    try clear c24b1
                    try clear p25
                    try clear q25
                    try clear hx25
                    try clear hcz12_0
                    try clear hcz12_1
                    try clear hcz12_2
                    try clear hfz12_0
                    try clear hfz12_1
                    try clear hfz12_2
                    try clear p1
                    try clear p16
                    try clear p2
                    try clear p23
                    try clear p25
                    try clear p6
                    try clear p8
                    try clear q1
                    try clear q16
                    try clear q23
                    try clear q25
                    try clear q8
                    obtain ⟨kq, x61_18, rfl, HA, HJ18, BK216, HB⟩ := hcut
                    cases kq with
                    | zero => exact absurd HA.out (by simp [smithyref02_literal.j2])
                    | succ kj18 =>
                      have H := HA.out
                      clear HA
                      simp only [smithyref02_literal.j2] at H
                      have HC26 := Aside0.mk H
                      clear H
                      go_upto_if 61 with (fail)
                      go_cut [8] (fun v8 wc => ∃ (kq : Nat) (x8_25 : Int), v8 = .int .i64 x8_25 ∧ Aside0 (smithyref02_literal.j3 kq a0 a1 x8_25 = some (r1, r2, r3, r4, r5)) ∧ Aside0 (kq ≤ kj18) ∧ Aside0 (wc.heap[gb216]? = some (.cells #[.int .u8 0, .int .i64 0, .int .i64 0] 35 (0, 0))) ∧ Aside0 (Below w.heap.size w wc))
                      case first =>
                        have H := HC26.out
                        clear HC26
                        by_cases c27 : x61_18 = true
                        · subst c27
                          have H1 : (smithyref02_literal.j3 kj18 a0 a1 (wrap64 ((wrap64 (t218 + 1)) + 1))) = some (r1, r2, r3, r4, r5) := by rw [if_pos rfl] at H; exact H
                          clear H
                          have H := H1
                          clear H1
                          have H' := Aside0.mk H
                          clear H
                          go_wp2
                          go_meet
                          case rel => exact ⟨_, (wrap64 ((wrap64 (t218 + 1)) + 1)), (by first | rfl | (simp; done) | (simp [*]; done)), (by first | exact H' | (rw [hji21]; exact H')), ⟨by have := HJ3.out; have := HJ12.out; have := HJ18.out; first | omega | exact Nat.le_refl _⟩, ⟨by (with_reducible repeat (first | refine blk_drewN ?_ _ | refine blk_drew ?_ | refine blk_alloc ?_ _)); exact BK216.out⟩, ⟨by repeat (first | (with_reducible first | exact HB.out | apply below_alloc | apply pw_below_drewN | apply below_drew1 | refine below_set ?_ GE216.out) | exact HB.out)⟩⟩
                        · replace c27 := Bool.eq_false_iff.mpr c27
                          subst c27
                          have H1 : (smithyref02_literal.j3 kj18 a0 a1 (wrap64 (t218 + 1))) = some (r1, r2, r3, r4, r5) := by rw [if_neg (show ¬ (false = true) by decide)] at H; exact H
                          clear H
                          have H := H1
                          clear H1
                          have H' := Aside0.mk H
                          clear H
                          go_wp2
                          go_meet
                          case rel => exact ⟨_, ((wrap64 (t218 + 1))), (by first | rfl | (simp; done) | (simp [*]; done)), (by first | exact H' | (rw [hji21]; exact H')), ⟨by have := HJ3.out; have := HJ12.out; have := HJ18.out; first | omega | exact Nat.le_refl _⟩, ⟨by (with_reducible repeat (first | refine blk_drewN ?_ _ | refine blk_drew ?_ | refine blk_alloc ?_ _)); exact BK216.out⟩, ⟨by repeat (first | (with_reducible first | exact HB.out | apply below_alloc | apply pw_below_drewN | apply below_drew1 | refine below_set ?_ GE216.out) | exact HB.out)⟩⟩
                      case rest =>
                        clear HC26
                        try clear c1
                        try clear p1
                        try clear q1
                        try clear hx1
                        try clear c2
                        try clear p2
                        try clear q2
                        try clear hx2
                        try clear c6
                        try clear c6b0
                        try clear c6b2
                        try clear p6
                        try clear c7
                        try clear c7b0
                        try clear p8
                        try clear q8
                        try clear hx8
                        try clear c9
                        try clear c11
                        try clear c11b0
                        try clear c11b1
                        try clear c14
                        try clear c14b0
                        try clear c14b2
                        try clear c15
                        try clear c15b0
                        try clear p16
                        try clear q16
                        try clear hx16
                        try clear c18
                        try clear c20
                        try clear c20b0
                        try clear c20b2
                        try clear c22
                        try clear c22b0
                        try clear p23
                        try clear q23
                        try clear hx23
                        try clear c24
                        try clear c24b0
                        try clear c24b1
                        try clear p25
                        try clear q25
                        try clear hx25
                        try clear c26
                        try clear c27
                        try clear hcz12_0
                        try clear hcz12_1
                        try clear hcz12_2
                        try clear hfz12_0
                        try clear hfz12_1
                        try clear hfz12_2
                        try clear p1
                        try clear p16
                        try clear p2
                        try clear p23
                        try clear p25
                        try clear p6
                        try clear p8
                        try clear q1
                        try clear q16
                        try clear q2
                        try clear q23
                        try clear q25
                        try clear q8
                        obtain ⟨kq, x8_25, rfl, HA, HJ25, BK216, HB⟩ := hcut
                        cases kq with
                        | zero => exact absurd HA.out (by simp [smithyref02_literal.j3])
                        | succ kj25 =>
                          have H := HA.out
                          clear HA
                          simp only [smithyref02_literal.j3] at H
                          replace H := Option.bind_eq_some_iff.mp H
                          obtain ⟨t219, A280, H⟩ := H
                          replace H : (if t219 = x8_25 then (some (0, 0, 0, t219, false)) else (smithyref02_literal.j4 kj25 a0 a1 t219)) = some (r1, r2, r3, r4, r5) := H
                          have A28 := Aside0.mk A280
                          clear A280
                          by_cases c29 : t219 = x8_25
                          · rw [if_pos c29] at H
                            have c29b0 : (t219 == x8_25) = true := beq_iff_eq.mpr c29
                            have c29b1 : (t219 != x8_25) = false := bne_eq_false_iff_eq.mpr c29
                            clear c29
                            simp only [Option.some.injEq, Prod.mk.injEq] at H
                            obtain ⟨rfl, rfl, rfl, rfl, rfl⟩ := H
                            go_wp2_with (first | ((with_reducible refine gate_callee (f := 24) rfl ?_); refine goesL_ (some 66) rfl rfl Try.func24 (by kernel_rfl) rfl #[.string a0, .int .i64 x8_25, .bool false] rfl (by (try simp only [List.map_toArray, List.map_cons, List.map_nil]); first | done | rfl | (simp only [List.length_drop, List.length_take]; rfl)) ?_; (with_reducible refine (smithyref02_row.calls kj25 a0 x8_25 false t219 _ A28.out).mono ?_); rintro e w' ⟨rfl, ⟨nd, rfl⟩⟩; refine ⟨_, rfl, ?_⟩; (try (rw [drewN_self wc]; generalize hq_ : World.drewN wc _ = wc; have n0_ : Aside0 (wc.heap[gb216]? = some (.cells #[.int .u8 0, .int .i64 0, .int .i64 0] 35 (0, 0))) := ⟨by rw [← hq_]; exact (by (with_reducible repeat (first | refine blk_drewN ?_ _ | refine blk_drew ?_ | refine blk_alloc ?_ _)); exact BK216.out)⟩; have n1_ : Aside0 (Below w.heap.size w wc) := ⟨by rw [← hq_]; exact (by repeat (first | (with_reducible first | exact HB.out | apply below_alloc | apply pw_below_drewN | apply below_drew1 | refine below_set ?_ GE216.out) | exact HB.out))⟩; clear BK216 HB hq_; have BK216 := n0_; have HB := n1_; clear n0_ n1_)); have hcz30_0 : wc.cell? ⟨gb216, 0, none⟩ = some (.int .u8 0) := (blk_cell BK216.out 0).trans rfl; have hcz30_1 : wc.cell? ⟨gb216, 1, none⟩ = some (.int .i64 0) := (blk_cell BK216.out 1).trans rfl; have hcz30_2 : wc.cell? ⟨gb216, 2, none⟩ = some (.int .i64 0) := (blk_cell BK216.out 2).trans rfl; have hfz30_0 := blk_frozen BK216.out 0; have hfz30_1 := blk_frozen BK216.out 1; have hfz30_2 := blk_frozen BK216.out 2))
                            refine bodyPost_ret (results_ctt rfl _ _ gb216 35 #[.int .u8 0, .int .i64 0, .int .i64 0] (0, 0) _ rfl (by (with_reducible repeat (first | refine blk_drewN ?_ _ | refine blk_drew ?_ | refine blk_alloc ?_ _)); refine blk_put (cs := #[.int .u8 0, .int .i64 0, .int .i64 0]) ?_ 2 _ rfl; (with_reducible repeat (first | refine blk_drewN ?_ _ | refine blk_drew ?_ | refine blk_alloc ?_ _)); refine blk_put (cs := #[.int .u8 0, .int .i64 0, .int .i64 0]) ?_ 1 _ rfl; (with_reducible repeat (first | refine blk_drewN ?_ _ | refine blk_drew ?_ | refine blk_alloc ?_ _)); refine blk_put (cs := #[.int .u8 0, .int .i64 0, .int .i64 0]) ?_ 0 _ rfl; (with_reducible repeat (first | refine blk_drewN ?_ _ | refine blk_drew ?_ | refine blk_alloc ?_ _)); exact BK216.out) Try.underlying35 rfl (by kernel_rfl)) rfl ?_
                            exact ⟨by first | rfl | (simp [errW_none, errW_some] <;> rfl) | (simp [*, errW_none, errW_some] <;> rfl), by repeat (first | (with_reducible first | exact HB.out | apply below_alloc | apply pw_below_drewN | apply below_drew1 | refine below_set ?_ GE216.out) | exact HB.out)⟩
                          · rw [if_neg c29] at H
                            have c29b0 : (t219 == x8_25) = false := beq_eq_false_iff_ne.mpr c29
                            have c29b1 : (t219 != x8_25) = true := bne_iff_ne.mpr c29
                            have H' := Aside0.mk H
                            clear H
                            go_wp2_with (first | ((with_reducible refine gate_callee (f := 24) rfl ?_); refine goesL_ (some 66) rfl rfl Try.func24 (by kernel_rfl) rfl #[.string a0, .int .i64 x8_25, .bool false] rfl (by (try simp only [List.map_toArray, List.map_cons, List.map_nil]); first | done | rfl | (simp only [List.length_drop, List.length_take]; rfl)) ?_; (with_reducible refine (smithyref02_row.calls kj25 a0 x8_25 false t219 _ A28.out).mono ?_); rintro e w' ⟨rfl, ⟨nd, rfl⟩⟩; refine ⟨_, rfl, ?_⟩))
                            go_meet
                            case rel => exact ⟨_, (t219), (0), (0), (0), (by first | rfl | (simp; done) | (simp [*]; done)), (by first | exact H' | (rw [hji21]; exact H')), ⟨by have := HJ3.out; have := HJ12.out; have := HJ18.out; have := HJ25.out; first | omega | exact Nat.le_refl _⟩, ⟨by (with_reducible repeat (first | refine blk_drewN ?_ _ | refine blk_drew ?_ | refine blk_alloc ?_ _)); exact BK216.out⟩, ⟨by repeat (first | (with_reducible first | exact HB.out | apply below_alloc | apply pw_below_drewN | apply below_drew1 | refine below_set ?_ GE216.out) | exact HB.out)⟩⟩
                · replace c18 := Bool.eq_false_iff.mpr c18
                  subst c18
                  have H1 : (smithyref02_literal.j4 kj12 a0 a1 t218) = some (r1, r2, r3, r4, r5) := by rw [if_neg (show ¬ (false = true) by decide)] at H; exact H
                  clear H
                  have H := H1
                  clear H1
                  have H' := Aside0.mk H
                  clear H
                  go_wp2
                  go_meet
                  case rel => exact ⟨_, (t218), (0), (0), (0), (by first | rfl | (simp; done) | (simp [*]; done)), (by first | exact H' | (rw [hji21]; exact H')), ⟨by have := HJ3.out; have := HJ12.out; first | omega | exact Nat.le_refl _⟩, ⟨by (with_reducible repeat (first | refine blk_drewN ?_ _ | refine blk_drew ?_ | refine blk_alloc ?_ _)); exact BK216.out⟩, ⟨by repeat (first | (with_reducible first | exact HB.out | apply below_alloc | apply pw_below_drewN | apply below_drew1 | refine below_set ?_ GE216.out) | exact HB.out)⟩⟩
              case rest =>
                clear HC17
                try clear c1
                try clear p1
                try clear q1
                try clear hx1
                try clear c2
                try clear p2
                try clear q2
                try clear hx2
                try clear c6
                try clear c6b0
                try clear c6b2
                try clear p6
                try clear c7
                try clear c7b0
                try clear p8
                try clear q8
                try clear hx8
                try clear c9
                try clear c11
                try clear c11b0
                try clear c11b1
                try clear c14
                try clear c14b0
                try clear c14b2
                try clear c15
                try clear c15b0
                try clear p16
                try clear q16
                try clear hx16
                try clear c18
                try clear c20
                try clear c20b0
                try clear c20b2
                try clear c22
                try clear c22b0
                try clear p23
                try clear q23
                try clear hx23
                try clear c24
                try clear c24b0
                try clear c24b1
                try clear p25
                try clear q25
                try clear hx25
                try clear c26
                try clear c27
                try clear c29
                try clear c29b0
                try clear c29b1
                try clear hcz12_0
                try clear hcz12_1
                try clear hcz12_2
                try clear hcz30_0
                try clear hcz30_1
                try clear hcz30_2
                try clear hfz12_0
                try clear hfz12_1
                try clear hfz12_2
                try clear hfz30_0
                try clear hfz30_1
                try clear hfz30_2
                try clear p1
                try clear p16
                try clear p2
                try clear p23
                try clear p25
                try clear p6
                try clear p8
                try clear q1
                try clear q16
                try clear q2
                try clear q23
                try clear q25
                try clear q8
                obtain ⟨kq, x7_16, x217000_16, x217001_16, x217002_16, rfl, HA, HJ16, BK216, HB⟩ := hcut
                cases kq with
                | zero => exact absurd HA.out (by simp [smithyref02_literal.j4])
                | succ kj16 =>
                  have H := HA.out
                  clear HA
                  simp only [smithyref02_literal.j4] at H
                  have HC31 := Aside0.mk H
                  clear H
                  go_upto_region 14 with (fail)
                  go_cut [88] (fun v88 wc => ∃ (kq : Nat) (x88_30 : Bool), v88 = .bool x88_30 ∧ Aside0 (smithyref02_literal.j5 kq a1 x7_16 x88_30 = some (r1, r2, r3, r4, r5)) ∧ Aside0 (kq ≤ kj16) ∧ Aside0 (wc.heap[gb216]? = some (.cells #[.int .u8 x217000_16, .int .i64 x217001_16, .int .i64 x217002_16] 35 (0, 0))) ∧ Aside0 (Below w.heap.size w wc))
                  case first =>
                    have H := HC31.out
                    clear HC31
                    replace H := Option.bind_eq_some_iff.mp H
                    obtain ⟨t220, A320, H⟩ := H
                    replace H : (if t220 > x7_16 then (smithyref02_literal.j5 kj16 a1 x7_16 true) else (if x7_16 < (a0.size : Int) then (if 0 ≤ x7_16 then (smithyref02_literal.j5 kj16 a1 x7_16 ((bt a0 x7_16) == 46)) else (none)) else (smithyref02_literal.j5 kj16 a1 x7_16 false))) = some (r1, r2, r3, r4, r5) := H
                    have A32 := Aside0.mk A320
                    clear A320
                    by_cases c33 : t220 > x7_16
                    · rw [if_pos c33] at H
                      have c33b0 : decide (x7_16 < t220) = true := decide_eq_true c33
                      clear c33
                      (first | rw [c33b0] | (simp only [i64_w, i32_w]; rw [c33b0]) | rw [c33b2] | skip)
                      have H' := Aside0.mk H
                      clear H
                      go_wp2_with (first | ((with_reducible refine gate_callee (f := 24) rfl ?_); refine goesL_ (some 74) rfl rfl Try.func24 (by kernel_rfl) rfl #[.string a0, .int .i64 x7_16, .bool true] rfl (by (try simp only [List.map_toArray, List.map_cons, List.map_nil]); first | done | rfl | (simp only [List.length_drop, List.length_take]; rfl)) ?_; (with_reducible refine (smithyref02_row.calls kj16 a0 x7_16 true t220 _ A32.out).mono ?_); rintro e w' ⟨rfl, ⟨nd, rfl⟩⟩; refine ⟨_, rfl, ?_⟩))
                      go_meet
                      case rel => exact ⟨_, (true), (by first | rfl | (simp; done) | (simp [*]; done)), (by first | exact H' | (rw [hji21]; exact H')), ⟨by have := HJ3.out; have := HJ12.out; have := HJ16.out; first | omega | exact Nat.le_refl _⟩, ⟨by (with_reducible repeat (first | refine blk_drewN ?_ _ | refine blk_drew ?_ | refine blk_alloc ?_ _)); exact BK216.out⟩, ⟨by repeat (first | (with_reducible first | exact HB.out | apply below_alloc | apply pw_below_drewN | apply below_drew1 | refine below_set ?_ GE216.out) | exact HB.out)⟩⟩
                    · rw [if_neg c33] at H
                      have c33b0 : decide (x7_16 < t220) = false := decide_eq_false c33
                      clear c33
                      (first | rw [c33b0] | (simp only [i64_w, i32_w]; rw [c33b0]) | rw [c33b2] | skip)
                      by_cases c34 : x7_16 < (a0.size : Int)
                      · rw [if_pos c34] at H
                        have c34b0 : decide (x7_16 < (a0.size : Int)) = true := decide_eq_true c34
                        clear c34
                        by_cases c35 : 0 ≤ x7_16
                        · rw [if_pos c35] at H
                          have c35b0 : decide (0 ≤ x7_16) = true := decide_eq_true c35
                          clear c35
                          have H' := Aside0.mk H
                          clear H
                          go_wp2_with (first | ((with_reducible refine gate_callee (f := 24) rfl ?_); refine goesL_ (some 74) rfl rfl Try.func24 (by kernel_rfl) rfl #[.string a0, .int .i64 x7_16, .bool true] rfl (by (try simp only [List.map_toArray, List.map_cons, List.map_nil]); first | done | rfl | (simp only [List.length_drop, List.length_take]; rfl)) ?_; (with_reducible refine (smithyref02_row.calls kj16 a0 x7_16 true t220 _ A32.out).mono ?_); rintro e w' ⟨rfl, ⟨nd, rfl⟩⟩; refine ⟨_, rfl, ?_⟩; have p36 : 0 ≤ (x7_16 : Int) := of_decide_eq_true (by first | (with_reducible assumption) | assumption); have q36 : x7_16 < (a0.size : Int) := of_decide_eq_true (by first | (with_reducible assumption) | assumption); have hx36 := bt_at a0 x7_16; replace p36 := eq_true p36; replace q36 := eq_true q36))
                          go_meet
                          case rel => exact ⟨_, (((bt a0 x7_16) == 46)), (by first | rfl | (simp; done) | (simp [*]; done)), (by first | exact H' | (rw [hji21]; exact H')), ⟨by have := HJ3.out; have := HJ12.out; have := HJ16.out; first | omega | exact Nat.le_refl _⟩, ⟨by (with_reducible repeat (first | refine blk_drewN ?_ _ | refine blk_drew ?_ | refine blk_alloc ?_ _)); exact BK216.out⟩, ⟨by repeat (first | (with_reducible first | exact HB.out | apply below_alloc | apply pw_below_drewN | apply below_drew1 | refine below_set ?_ GE216.out) | exact HB.out)⟩⟩
                        · rw [if_neg c35] at H
                          exact absurd H (by simp)
                      · rw [if_neg c34] at H
                        have c34b0 : decide (x7_16 < (a0.size : Int)) = false := decide_eq_false c34
                        clear c34
                        have H' := Aside0.mk H
                        clear H
                        go_wp2_with (first | ((with_reducible refine gate_callee (f := 24) rfl ?_); refine goesL_ (some 74) rfl rfl Try.func24 (by kernel_rfl) rfl #[.string a0, .int .i64 x7_16, .bool true] rfl (by (try simp only [List.map_toArray, List.map_cons, List.map_nil]); first | done | rfl | (simp only [List.length_drop, List.length_take]; rfl)) ?_; (with_reducible refine (smithyref02_row.calls kj16 a0 x7_16 true t220 _ A32.out).mono ?_); rintro e w' ⟨rfl, ⟨nd, rfl⟩⟩; refine ⟨_, rfl, ?_⟩))
                        go_meet
                        case rel => exact ⟨_, (false), (by first | rfl | (simp; done) | (simp [*]; done)), (by first | exact H' | (rw [hji21]; exact H')), ⟨by have := HJ3.out; have := HJ12.out; have := HJ16.out; first | omega | exact Nat.le_refl _⟩, ⟨by (with_reducible repeat (first | refine blk_drewN ?_ _ | refine blk_drew ?_ | refine blk_alloc ?_ _)); exact BK216.out⟩, ⟨by repeat (first | (with_reducible first | exact HB.out | apply below_alloc | apply pw_below_drewN | apply below_drew1 | refine below_set ?_ GE216.out) | exact HB.out)⟩⟩
                  case rest =>
                    clear HC31
                    try clear c1
                    try clear p1
                    try clear q1
                    try clear hx1
                    try clear c2
                    try clear p2
                    try clear q2
                    try clear hx2
                    try clear c3
                    try clear p3
                    try clear q3
                    try clear hx3
                    try clear c6
                    try clear c6b0
                    try clear c6b2
                    try clear p6
                    try clear c7
                    try clear c7b0
                    try clear p8
                    try clear q8
                    try clear hx8
                    try clear c9
                    try clear c11
                    try clear c11b0
                    try clear c11b1
                    try clear c14
                    try clear c14b0
                    try clear c14b2
                    try clear c15
                    try clear c15b0
                    try clear p16
                    try clear q16
                    try clear hx16
                    try clear c18
                    try clear c20
                    try clear c20b0
                    try clear c20b2
                    try clear c22
                    try clear c22b0
                    try clear p23
                    try clear q23
                    try clear hx23
                    try clear c24
                    try clear c24b0
                    try clear c24b1
                    try clear p25
                    try clear q25
                    try clear hx25
                    try clear c26
                    try clear c27
                    try clear c29
                    try clear c29b0
                    try clear c29b1
                    try clear c33
                    try clear c33b0
                    try clear c33b2
                    try clear c34
                    try clear c34b0
                    try clear c35
                    try clear c35b0
                    try clear p36
                    try clear q36
                    try clear hx36
                    try clear hcz12_0
                    try clear hcz12_1
                    try clear hcz12_2
                    try clear hcz30_0
                    try clear hcz30_1
                    try clear hcz30_2
                    try clear hfz12_0
                    try clear hfz12_1
                    try clear hfz12_2
                    try clear hfz30_0
                    try clear hfz30_1
                    try clear hfz30_2
                    try clear p1
                    try clear p16
                    try clear p2
                    try clear p23
                    try clear p25
                    try clear p36
                    try clear p6
                    try clear p8
                    try clear q1
                    try clear q16
                    try clear q2
                    try clear q23
                    try clear q25
                    try clear q36
                    try clear q8
                    obtain ⟨kq, x88_30, rfl, HA, HJ30, BK216, HB⟩ := hcut
                    cases kq with
                    | zero => exact absurd HA.out (by simp [smithyref02_literal.j5])
                    | succ kj30 =>
                      have H := HA.out
                      clear HA
                      simp only [smithyref02_literal.j5] at H
                      by_cases c37 : x88_30 = true
                      · subst c37
                        have H1 : (some (0, 0, 0, x7_16, false)) = some (r1, r2, r3, r4, r5) := by rw [if_pos rfl] at H; exact H
                        clear H
                        have H := H1
                        clear H1
                        simp only [Option.some.injEq, Prod.mk.injEq] at H
                        obtain ⟨rfl, rfl, rfl, rfl, rfl⟩ := H
                        have hcz38_0 : wc.cell? ⟨gb216, 0, none⟩ = some (.int .u8 x217000_16) := (blk_cell BK216.out 0).trans rfl
                        have hcz38_1 : wc.cell? ⟨gb216, 1, none⟩ = some (.int .i64 x217001_16) := (blk_cell BK216.out 1).trans rfl
                        have hcz38_2 : wc.cell? ⟨gb216, 2, none⟩ = some (.int .i64 x217002_16) := (blk_cell BK216.out 2).trans rfl
                        have hfz38_0 := blk_frozen BK216.out 0
                        have hfz38_1 := blk_frozen BK216.out 1
                        have hfz38_2 := blk_frozen BK216.out 2
                        go_wp2
                        refine bodyPost_ret (results_ctt rfl _ _ gb216 35 #[.int .u8 0, .int .i64 0, .int .i64 0] (0, 0) _ rfl (by (with_reducible repeat (first | refine blk_drewN ?_ _ | refine blk_drew ?_ | refine blk_alloc ?_ _)); refine blk_put (cs := #[.int .u8 0, .int .i64 0, .int .i64 x217002_16]) ?_ 2 _ rfl; (with_reducible repeat (first | refine blk_drewN ?_ _ | refine blk_drew ?_ | refine blk_alloc ?_ _)); refine blk_put (cs := #[.int .u8 0, .int .i64 x217001_16, .int .i64 x217002_16]) ?_ 1 _ rfl; (with_reducible repeat (first | refine blk_drewN ?_ _ | refine blk_drew ?_ | refine blk_alloc ?_ _)); refine blk_put (cs := #[.int .u8 x217000_16, .int .i64 x217001_16, .int .i64 x217002_16]) ?_ 0 _ rfl; (with_reducible repeat (first | refine blk_drewN ?_ _ | refine blk_drew ?_ | refine blk_alloc ?_ _)); exact BK216.out) Try.underlying35 rfl (by kernel_rfl)) rfl ?_
                        exact ⟨by first | rfl | (simp [errW_none, errW_some] <;> rfl) | (simp [*, errW_none, errW_some] <;> rfl), by repeat (first | (with_reducible first | exact HB.out | apply below_alloc | apply pw_below_drewN | apply below_drew1 | refine below_set ?_ GE216.out) | exact HB.out)⟩
                      · replace c37 := Bool.eq_false_iff.mpr c37
                        subst c37
                        have H1 : (some (5, a1, x7_16, 0, true)) = some (r1, r2, r3, r4, r5) := by rw [if_neg (show ¬ (false = true) by decide)] at H; exact H
                        clear H
                        have H := H1
                        clear H1
                        simp only [Option.some.injEq, Prod.mk.injEq] at H
                        obtain ⟨rfl, rfl, rfl, rfl, rfl⟩ := H
                        have hcz39_0 : wc.cell? ⟨gb216, 0, none⟩ = some (.int .u8 x217000_16) := (blk_cell BK216.out 0).trans rfl
                        have hcz39_1 : wc.cell? ⟨gb216, 1, none⟩ = some (.int .i64 x217001_16) := (blk_cell BK216.out 1).trans rfl
                        have hcz39_2 : wc.cell? ⟨gb216, 2, none⟩ = some (.int .i64 x217002_16) := (blk_cell BK216.out 2).trans rfl
                        have hfz39_0 := blk_frozen BK216.out 0
                        have hfz39_1 := blk_frozen BK216.out 1
                        have hfz39_2 := blk_frozen BK216.out 2
                        go_wp2
                        refine bodyPost_ret (results_ctt rfl _ _ gb216 35 #[.int .u8 5, .int .i64 a1, .int .i64 x7_16] (0, 0) _ rfl (by (with_reducible repeat (first | refine blk_drewN ?_ _ | refine blk_drew ?_ | refine blk_alloc ?_ _)); refine blk_put (cs := #[.int .u8 5, .int .i64 a1, .int .i64 x217002_16]) ?_ 2 _ rfl; (with_reducible repeat (first | refine blk_drewN ?_ _ | refine blk_drew ?_ | refine blk_alloc ?_ _)); refine blk_put (cs := #[.int .u8 5, .int .i64 x217001_16, .int .i64 x217002_16]) ?_ 1 _ rfl; (with_reducible repeat (first | refine blk_drewN ?_ _ | refine blk_drew ?_ | refine blk_alloc ?_ _)); refine blk_put (cs := #[.int .u8 x217000_16, .int .i64 x217001_16, .int .i64 x217002_16]) ?_ 0 _ rfl; (with_reducible repeat (first | refine blk_drewN ?_ _ | refine blk_drew ?_ | refine blk_alloc ?_ _)); exact BK216.out) Try.underlying35 rfl (by kernel_rfl)) rfl ?_
                        exact ⟨by first | rfl | (simp [errW_none, errW_some] <;> rfl) | (simp [*, errW_none, errW_some] <;> rfl), by repeat (first | (with_reducible first | exact HB.out | apply below_alloc | apply pw_below_drewN | apply below_drew1 | refine below_set ?_ GE216.out) | exact HB.out)⟩
      · replace c9 := Bool.eq_false_iff.mpr c9
        subst c9
        have H1 : ((smithyref02_row.f kj3 a0 t217 true).bind fun t221 => (if 0 ≤ t217 then (if t217 ≤ t221 then (if t221 ≤ (a0.size : Int) then (if (a0.extract (t217 : Int).toNat (t221 : Int).toNat).toList = ([] : List UInt8) then (smithyref02_literal.j6 kj3 a1 t217 t221 false) else (if (a0.extract (t217 : Int).toNat (t221 : Int).toNat).toList = ([105, 54, 52] : List UInt8) then (smithyref02_literal.j6 kj3 a1 t217 t221 false) else (if (a0.extract (t217 : Int).toNat (t221 : Int).toNat).toList = ([105, 51, 50] : List UInt8) then (smithyref02_literal.j6 kj3 a1 t217 t221 false) else (smithyref02_literal.j6 kj3 a1 t217 t221 ((a0.extract (t217 : Int).toNat (t221 : Int).toNat).toList != ([117, 56] : List UInt8)))))) else (none)) else (none)) else (none))) = some (r1, r2, r3, r4, r5) := by rw [if_neg (show ¬ (false = true) by decide)] at H; exact H
        clear H
        have H := H1
        clear H1
        replace H := Option.bind_eq_some_iff.mp H
        obtain ⟨t221, A400, H⟩ := H
        replace H : (if 0 ≤ t217 then (if t217 ≤ t221 then (if t221 ≤ (a0.size : Int) then (if (a0.extract (t217 : Int).toNat (t221 : Int).toNat).toList = ([] : List UInt8) then (smithyref02_literal.j6 kj3 a1 t217 t221 false) else (if (a0.extract (t217 : Int).toNat (t221 : Int).toNat).toList = ([105, 54, 52] : List UInt8) then (smithyref02_literal.j6 kj3 a1 t217 t221 false) else (if (a0.extract (t217 : Int).toNat (t221 : Int).toNat).toList = ([105, 51, 50] : List UInt8) then (smithyref02_literal.j6 kj3 a1 t217 t221 false) else (smithyref02_literal.j6 kj3 a1 t217 t221 ((a0.extract (t217 : Int).toNat (t221 : Int).toNat).toList != ([117, 56] : List UInt8)))))) else (none)) else (none)) else (none)) = some (r1, r2, r3, r4, r5) := H
        have A40 := Aside0.mk A400
        clear A400
        by_cases c41 : 0 ≤ t217
        · rw [if_pos c41] at H
          have c41b0 := eq_true c41
          have c41b1 : decide (0 ≤ t217) = true := decide_eq_true c41
          clear c41
          by_cases c42 : t217 ≤ t221
          · rw [if_pos c42] at H
            have c42b0 := eq_true c42
            have c42b1 : decide (t217 ≤ t221) = true := decide_eq_true c42
            clear c42
            by_cases c43 : t221 ≤ (a0.size : Int)
            · rw [if_pos c43] at H
              have c43b0 := eq_true c43
              have c43b1 : decide (t221 ≤ (a0.size : Int)) = true := decide_eq_true c43
              clear c43
              have HC44 := Aside0.mk H
              clear H
              go_upto_region 19 with (first | ((with_reducible refine gate_callee (f := 24) rfl ?_); refine goesL_ (some 96) rfl rfl Try.func24 (by kernel_rfl) rfl #[.string a0, .int .i64 t217, .bool true] rfl (by (try simp only [List.map_toArray, List.map_cons, List.map_nil]); first | done | rfl | (simp only [List.length_drop, List.length_take]; rfl)) ?_; (with_reducible refine (smithyref02_row.calls kj3 a0 t217 true t221 _ A40.out).mono ?_); rintro e w' ⟨rfl, ⟨nd, rfl⟩⟩; refine ⟨_, rfl, ?_⟩))
              (try simp only [Act.put, List.setIfInBounds_toArray, List.set_cons_zero, List.set_cons_succ])
              go_cut [114] (fun v114 wc => ∃ (kq : Nat) (x114_43 : Bool), v114 = .bool x114_43 ∧ Aside0 (smithyref02_literal.j6 kq a1 t217 t221 x114_43 = some (r1, r2, r3, r4, r5)) ∧ Aside0 (kq ≤ kj3) ∧ Aside0 (wc.heap[gb216]? = some (.cells #[.int .u8 0, .int .i64 0, .int .i64 0] 35 (0, 0))) ∧ Aside0 (Below w.heap.size w wc))
              case first =>
                have H := HC44.out
                clear HC44
                by_cases c45 : (a0.extract (t217 : Int).toNat (t221 : Int).toNat).toList = ([] : List UInt8)
                · rw [if_pos c45] at H
                  have c45b0 : ((a0.extract (t217 : Int).toNat (t221 : Int).toNat).toList == ([] : List UInt8)) = true := beq_iff_eq.mpr c45
                  have c45b1 : ((a0.extract (t217 : Int).toNat (t221 : Int).toNat).toList != ([] : List UInt8)) = false := bne_eq_false_iff_eq.mpr c45
                  (try (have c45b2 : ((a0.extract (t217 : Int).toNat (t221 : Int).toNat).toList).isEmpty = true := (by rw [c45]; rfl)))
                  clear c45
                  (first | rw [c45b0] | (simp only [i64_w, i32_w]; rw [c45b0]) | rw [c45b2] | skip)
                  have H' := Aside0.mk H
                  clear H
                  go_wp2
                  go_meet
                  case rel => exact ⟨_, (false), (by first | rfl | (simp; done) | (simp [*]; done)), (by first | exact H' | (rw [hji21]; exact H')), ⟨by have := HJ3.out; first | omega | exact Nat.le_refl _⟩, ⟨by (with_reducible repeat (first | refine blk_drewN ?_ _ | refine blk_drew ?_ | refine blk_alloc ?_ _)); exact BK216.out⟩, ⟨by repeat (first | (with_reducible first | exact HB.out | apply below_alloc | apply pw_below_drewN | apply below_drew1 | refine below_set ?_ GE216.out) | exact HB.out)⟩⟩
                · rw [if_neg c45] at H
                  have c45b0 : ((a0.extract (t217 : Int).toNat (t221 : Int).toNat).toList == ([] : List UInt8)) = false := beq_eq_false_iff_ne.mpr c45
                  have c45b1 : ((a0.extract (t217 : Int).toNat (t221 : Int).toNat).toList != ([] : List UInt8)) = true := bne_iff_ne.mpr c45
                  (try (have c45b2 : ((a0.extract (t217 : Int).toNat (t221 : Int).toNat).toList).isEmpty = false := Bool.eq_false_iff.mpr (fun h_ => c45 (List.isEmpty_iff.mp h_))))
                  (first | rw [c45b0] | (simp only [i64_w, i32_w]; rw [c45b0]) | rw [c45b2] | skip)
                  by_cases c46 : (a0.extract (t217 : Int).toNat (t221 : Int).toNat).toList = ([105, 54, 52] : List UInt8)
                  · rw [if_pos c46] at H
                    have c46b0 : ((a0.extract (t217 : Int).toNat (t221 : Int).toNat).toList == ([105, 54, 52] : List UInt8)) = true := beq_iff_eq.mpr c46
                    have c46b1 : ((a0.extract (t217 : Int).toNat (t221 : Int).toNat).toList != ([105, 54, 52] : List UInt8)) = false := bne_eq_false_iff_eq.mpr c46
                    clear c46
                    have H' := Aside0.mk H
                    clear H
                    go_wp2
                    go_meet
                    case rel => exact ⟨_, (false), (by first | rfl | (simp; done) | (simp [*]; done)), (by first | exact H' | (rw [hji21]; exact H')), ⟨by have := HJ3.out; first | omega | exact Nat.le_refl _⟩, ⟨by (with_reducible repeat (first | refine blk_drewN ?_ _ | refine blk_drew ?_ | refine blk_alloc ?_ _)); exact BK216.out⟩, ⟨by repeat (first | (with_reducible first | exact HB.out | apply below_alloc | apply pw_below_drewN | apply below_drew1 | refine below_set ?_ GE216.out) | exact HB.out)⟩⟩
                  · rw [if_neg c46] at H
                    have c46b0 : ((a0.extract (t217 : Int).toNat (t221 : Int).toNat).toList == ([105, 54, 52] : List UInt8)) = false := beq_eq_false_iff_ne.mpr c46
                    have c46b1 : ((a0.extract (t217 : Int).toNat (t221 : Int).toNat).toList != ([105, 54, 52] : List UInt8)) = true := bne_iff_ne.mpr c46
                    by_cases c47 : (a0.extract (t217 : Int).toNat (t221 : Int).toNat).toList = ([105, 51, 50] : List UInt8)
                    · rw [if_pos c47] at H
                      have c47b0 : ((a0.extract (t217 : Int).toNat (t221 : Int).toNat).toList == ([105, 51, 50] : List UInt8)) = true := beq_iff_eq.mpr c47
                      have c47b1 : ((a0.extract (t217 : Int).toNat (t221 : Int).toNat).toList != ([105, 51, 50] : List UInt8)) = false := bne_eq_false_iff_eq.mpr c47
                      clear c47
                      have H' := Aside0.mk H
                      clear H
                      go_wp2
                      go_meet
                      case rel => exact ⟨_, (false), (by first | rfl | (simp; done) | (simp [*]; done)), (by first | exact H' | (rw [hji21]; exact H')), ⟨by have := HJ3.out; first | omega | exact Nat.le_refl _⟩, ⟨by (with_reducible repeat (first | refine blk_drewN ?_ _ | refine blk_drew ?_ | refine blk_alloc ?_ _)); exact BK216.out⟩, ⟨by repeat (first | (with_reducible first | exact HB.out | apply below_alloc | apply pw_below_drewN | apply below_drew1 | refine below_set ?_ GE216.out) | exact HB.out)⟩⟩
                    · rw [if_neg c47] at H
                      have c47b0 : ((a0.extract (t217 : Int).toNat (t221 : Int).toNat).toList == ([105, 51, 50] : List UInt8)) = false := beq_eq_false_iff_ne.mpr c47
                      have c47b1 : ((a0.extract (t217 : Int).toNat (t221 : Int).toNat).toList != ([105, 51, 50] : List UInt8)) = true := bne_iff_ne.mpr c47
                      have H' := Aside0.mk H
                      clear H
                      go_wp2
                      go_meet
                      case rel => exact ⟨_, (((a0.extract (t217 : Int).toNat (t221 : Int).toNat).toList != ([117, 56] : List UInt8))), (by first | rfl | (simp; done) | (simp [*]; done)), (by first | exact H' | (rw [hji21]; exact H')), ⟨by have := HJ3.out; first | omega | exact Nat.le_refl _⟩, ⟨by (with_reducible repeat (first | refine blk_drewN ?_ _ | refine blk_drew ?_ | refine blk_alloc ?_ _)); exact BK216.out⟩, ⟨by repeat (first | (with_reducible first | exact HB.out | apply below_alloc | apply pw_below_drewN | apply below_drew1 | refine below_set ?_ GE216.out) | exact HB.out)⟩⟩
              case rest =>
                clear HC44
                try clear c1
                try clear p1
                try clear q1
                try clear hx1
                try clear c2
                try clear p2
                try clear q2
                try clear hx2
                try clear c3
                try clear p3
                try clear q3
                try clear hx3
                try clear c4
                try clear c6
                try clear c6b0
                try clear c6b2
                try clear p6
                try clear c7
                try clear c7b0
                try clear p8
                try clear q8
                try clear hx8
                try clear c9
                try clear c11
                try clear c11b0
                try clear c11b1
                try clear c14
                try clear c14b0
                try clear c14b2
                try clear c15
                try clear c15b0
                try clear p16
                try clear q16
                try clear hx16
                try clear c18
                try clear c20
                try clear c20b0
                try clear c20b2
                try clear c22
                try clear c22b0
                try clear p23
                try clear q23
                try clear hx23
                try clear c24
                try clear c24b0
                try clear c24b1
                try clear p25
                try clear q25
                try clear hx25
                try clear c26
                try clear c27
                try clear c29
                try clear c29b0
                try clear c29b1
                try clear c33
                try clear c33b0
                try clear c33b2
                try clear c34
                try clear c34b0
                try clear c35
                try clear c35b0
                try clear p36
                try clear q36
                try clear hx36
                try clear c37
                try clear c41
                try clear c41b0
                try clear c41b1
                try clear c42
                try clear c42b0
                try clear c42b1
                try clear c43
                try clear c43b0
                try clear c43b1
                try clear c45
                try clear c45b0
                try clear c45b1
                try clear c45b2
                try clear c46
                try clear c46b0
                try clear c46b1
                try clear c47
                try clear c47b0
                try clear c47b1
                try clear hcz12_0
                try clear hcz12_1
                try clear hcz12_2
                try clear hcz30_0
                try clear hcz30_1
                try clear hcz30_2
                try clear hcz38_0
                try clear hcz38_1
                try clear hcz38_2
                try clear hcz39_0
                try clear hcz39_1
                try clear hcz39_2
                try clear hfz12_0
                try clear hfz12_1
                try clear hfz12_2
                try clear hfz30_0
                try clear hfz30_1
                try clear hfz30_2
                try clear hfz38_0
                try clear hfz38_1
                try clear hfz38_2
                try clear hfz39_0
                try clear hfz39_1
                try clear hfz39_2
                try clear p1
                try clear p16
                try clear p2
                try clear p23
                try clear p25
                try clear p3
                try clear p36
                try clear p6
                try clear p8
                try clear q1
                try clear q16
                try clear q2
                try clear q23
                try clear q25
                try clear q3
                try clear q36
                try clear q8
                obtain ⟨kq, x114_43, rfl, HA, HJ43, BK216, HB⟩ := hcut
                cases kq with
                | zero => exact absurd HA.out (by simp [smithyref02_literal.j6])
                | succ kj43 =>
                  have H := HA.out
                  clear HA
                  simp only [smithyref02_literal.j6] at H
                  by_cases c48 : x114_43 = true
                  · subst c48
                    have H1 : (some (0, 0, 0, t217, false)) = some (r1, r2, r3, r4, r5) := by rw [if_pos rfl] at H; exact H
                    clear H
                    have H := H1
                    clear H1
                    simp only [Option.some.injEq, Prod.mk.injEq] at H
                    obtain ⟨rfl, rfl, rfl, rfl, rfl⟩ := H
                    have hcz49_0 : wc.cell? ⟨gb216, 0, none⟩ = some (.int .u8 0) := (blk_cell BK216.out 0).trans rfl
                    have hcz49_1 : wc.cell? ⟨gb216, 1, none⟩ = some (.int .i64 0) := (blk_cell BK216.out 1).trans rfl
                    have hcz49_2 : wc.cell? ⟨gb216, 2, none⟩ = some (.int .i64 0) := (blk_cell BK216.out 2).trans rfl
                    have hfz49_0 := blk_frozen BK216.out 0
                    have hfz49_1 := blk_frozen BK216.out 1
                    have hfz49_2 := blk_frozen BK216.out 2
                    go_wp2
                    refine bodyPost_ret (results_ctt rfl _ _ gb216 35 #[.int .u8 0, .int .i64 0, .int .i64 0] (0, 0) _ rfl (by (with_reducible repeat (first | refine blk_drewN ?_ _ | refine blk_drew ?_ | refine blk_alloc ?_ _)); refine blk_put (cs := #[.int .u8 0, .int .i64 0, .int .i64 0]) ?_ 2 _ rfl; (with_reducible repeat (first | refine blk_drewN ?_ _ | refine blk_drew ?_ | refine blk_alloc ?_ _)); refine blk_put (cs := #[.int .u8 0, .int .i64 0, .int .i64 0]) ?_ 1 _ rfl; (with_reducible repeat (first | refine blk_drewN ?_ _ | refine blk_drew ?_ | refine blk_alloc ?_ _)); refine blk_put (cs := #[.int .u8 0, .int .i64 0, .int .i64 0]) ?_ 0 _ rfl; (with_reducible repeat (first | refine blk_drewN ?_ _ | refine blk_drew ?_ | refine blk_alloc ?_ _)); exact BK216.out) Try.underlying35 rfl (by kernel_rfl)) rfl ?_
                    exact ⟨by first | rfl | (simp [errW_none, errW_some] <;> rfl) | (simp [*, errW_none, errW_some] <;> rfl), by repeat (first | (with_reducible first | exact HB.out | apply below_alloc | apply pw_below_drewN | apply below_drew1 | refine below_set ?_ GE216.out) | exact HB.out)⟩
                  · replace c48 := Bool.eq_false_iff.mpr c48
                    subst c48
                    have H1 : (some (4, a1, t221, 0, true)) = some (r1, r2, r3, r4, r5) := by rw [if_neg (show ¬ (false = true) by decide)] at H; exact H
                    clear H
                    have H := H1
                    clear H1
                    simp only [Option.some.injEq, Prod.mk.injEq] at H
                    obtain ⟨rfl, rfl, rfl, rfl, rfl⟩ := H
                    have hcz50_0 : wc.cell? ⟨gb216, 0, none⟩ = some (.int .u8 0) := (blk_cell BK216.out 0).trans rfl
                    have hcz50_1 : wc.cell? ⟨gb216, 1, none⟩ = some (.int .i64 0) := (blk_cell BK216.out 1).trans rfl
                    have hcz50_2 : wc.cell? ⟨gb216, 2, none⟩ = some (.int .i64 0) := (blk_cell BK216.out 2).trans rfl
                    have hfz50_0 := blk_frozen BK216.out 0
                    have hfz50_1 := blk_frozen BK216.out 1
                    have hfz50_2 := blk_frozen BK216.out 2
                    go_wp2
                    refine bodyPost_ret (results_ctt rfl _ _ gb216 35 #[.int .u8 4, .int .i64 a1, .int .i64 t221] (0, 0) _ rfl (by (with_reducible repeat (first | refine blk_drewN ?_ _ | refine blk_drew ?_ | refine blk_alloc ?_ _)); refine blk_put (cs := #[.int .u8 4, .int .i64 a1, .int .i64 0]) ?_ 2 _ rfl; (with_reducible repeat (first | refine blk_drewN ?_ _ | refine blk_drew ?_ | refine blk_alloc ?_ _)); refine blk_put (cs := #[.int .u8 4, .int .i64 0, .int .i64 0]) ?_ 1 _ rfl; (with_reducible repeat (first | refine blk_drewN ?_ _ | refine blk_drew ?_ | refine blk_alloc ?_ _)); refine blk_put (cs := #[.int .u8 0, .int .i64 0, .int .i64 0]) ?_ 0 _ rfl; (with_reducible repeat (first | refine blk_drewN ?_ _ | refine blk_drew ?_ | refine blk_alloc ?_ _)); exact BK216.out) Try.underlying35 rfl (by kernel_rfl)) rfl ?_
                    exact ⟨by first | rfl | (simp [errW_none, errW_some] <;> rfl) | (simp [*, errW_none, errW_some] <;> rfl), by repeat (first | (with_reducible first | exact HB.out | apply below_alloc | apply pw_below_drewN | apply below_drew1 | refine below_set ?_ GE216.out) | exact HB.out)⟩
            · rw [if_neg c43] at H
              exact absurd H (by simp)
          · rw [if_neg c42] at H
            exact absurd H (by simp)
        · rw [if_neg c41] at H
          exact absurd H (by simp)

end Go.Proofs.Ytimnlnkjogbjfaa.X
