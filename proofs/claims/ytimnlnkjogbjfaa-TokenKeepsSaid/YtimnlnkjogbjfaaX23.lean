/- Go functions of this seat as Lean functions, each with the proof that the Go call comes to the same (lines written by a program of the session's; no condition beyond those stated). -/
import Derived.Test.YtimnlnkjogbjfaaX0
import Derived.Test.YtimnlnkjogbjfaaX16
import Derived.Test.YtimnlnkjogbjfaaX18
import Derived.Test.YtimnlnkjogbjfaaX19
import Derived.Test.YtimnlnkjogbjfaaX20
import Derived.Test.YtimnlnkjogbjfaaX21
import Derived.Test.YtimnlnkjogbjfaaX22
namespace Go.Proofs.Ytimnlnkjogbjfaa.X
open Go.RowKit Go.Proofs.YtimnlnkjogbjfaaW.PrintWords Go.Proofs.YtimnlnkjogbjfaaW.PrintLast Go.Proofs.YtimnlnkjogbjfaaW.PrintMore
attribute [local go_sem] max2_int min2_int max_two min_two max_three min_three max_four min_four   -- for this text's walks alone
set_option linter.unusedVariables false
set_option linter.unusedSimpArgs false

/-! ### smithyref02_Scan: function 12 -/
def smithyref02_Scan.l0 : Nat → ByteArray → List (S35) → Int → Option ((List (S35)) × Int × Int)
  | 0, _, _, _ => none
  | k + 1, x0, x4, x5 => if x5 < (x0.size : Int) then (if 0 ≤ x5 then ((smithyref02_Letter.f (bt x0 x5)).bind fun t228 => (if t228 = true then ((smithyref02_row.f k x0 x5 true).bind fun t229 => (if (wrap64 (t229 - x5)) > 32 then (some (([] : List (S35)), 120, x5)) else (if x5 ≤ t229 then (if t229 ≤ (x0.size : Int) then ((smithyref02_Word.f k (x0.extract (x5 : Int).toNat (t229 : Int).toNat)).bind fun t230 => (if t230 = true then (if x4.length < 5864062014805 then ((smithyref02_skip.f k x0 t229).bind fun t234 => (smithyref02_Scan.l0 k x0 (x4 ++ [(⟨3, x5, t229⟩ : S35)]) t234)) else (none)) else (if x4.length < 5864062014805 then ((smithyref02_skip.f k x0 t229).bind fun t238 => (smithyref02_Scan.l0 k x0 (x4 ++ [(⟨2, x5, t229⟩ : S35)]) t238)) else (none)))) else (none)) else (none)))) else ((smithyref02_Digit.f (bt x0 x5)).bind fun t239 => (if t239 = true then ((smithyref02_literal.f k x0 x5).bind fun bt240 => (if bt240.2.2.2.2 = true then (if x4.length < 5864062014805 then ((smithyref02_skip.f k x0 bt240.2.2.1).bind fun t249 => (smithyref02_Scan.l0 k x0 (x4 ++ [(⟨bt240.1, bt240.2.1, bt240.2.2.1⟩ : S35)]) t249)) else (none)) else (some (([] : List (S35)), 120, bt240.2.2.2.1)))) else ((smithyref02_Sign.f k x0 x5).bind fun t250 => (if t250 = 0 then (some (([] : List (S35)), 120, x5)) else (if x4.length < 5864062014805 then ((smithyref02_skip.f k x0 (wrap64 (x5 + t250))).bind fun t254 => (smithyref02_Scan.l0 k x0 (x4 ++ [(⟨6, x5, wrap64 (x5 + t250)⟩ : S35)]) t254)) else (none)))))))) else (none)) else (if x4.length < 5864062014805 then (some ((x4 ++ [(⟨1, (x0.size : Int), (x0.size : Int)⟩ : S35)]), 0, 0)) else (none))
def smithyref02_Scan.f (k : Nat) (a0 : ByteArray) : Option ((List (S35)) × Int × Int) := if (a0.size : Int) > 65536 then (some (([] : List (S35)), 3, 0)) else ((smithyref02_skip.f k a0 0).bind fun t223 => (smithyref02_Scan.l0 k a0 ([] : List (S35)) t223))
theorem smithyref02_Scan.mono_l : ∀ k, (∀ y0 y1 y2, LeO (smithyref02_Scan.l0 k y0 y1 y2) (smithyref02_Scan.l0 (k + 1) y0 y1 y2))
  | 0 => fun _ _ _ r h => by simp [smithyref02_Scan.l0] at h
  | k + 1 => by
    have ih0 := smithyref02_Scan.mono_l k
    · intro y0 y1 y2
      unfold smithyref02_Scan.l0
      repeat' first
      | (with_reducible exact ih0 _ _ _)
      | (with_reducible exact smithyref02_Sign.mono _ _ _)
      | (with_reducible exact smithyref02_Word.mono _ _)
      | (with_reducible exact smithyref02_literal.mono _ _ _)
      | (with_reducible exact smithyref02_row.mono _ _ _ _)
      | (with_reducible exact smithyref02_skip.mono _ _ _)
      | (with_reducible exact LeO.refl _)
      | (with_reducible exact LeO.none _)
      | (with_reducible refine LeO.ite ?_ ?_)
      | (with_reducible refine LeO.bind ?_ (fun _ => ?_))
      | exact ih0 _ _ _
      | exact smithyref02_Sign.mono _ _ _
      | exact smithyref02_Word.mono _ _
      | exact smithyref02_literal.mono _ _ _
      | exact smithyref02_row.mono _ _ _ _
      | exact smithyref02_skip.mono _ _ _
      | exact LeO.none _
      | refine LeO.ite ?_ ?_
      | refine LeO.bind ?_ (fun _ => ?_)
theorem smithyref02_Scan.mono : ∀ a0 k, LeO (smithyref02_Scan.f k a0) (smithyref02_Scan.f (k + 1) a0) := by
  intro a0 k
  have ih0 := smithyref02_Scan.mono_l k
  unfold smithyref02_Scan.f
  repeat' first
      | (with_reducible exact ih0 _ _ _)
      | (with_reducible exact smithyref02_Sign.mono _ _ _)
      | (with_reducible exact smithyref02_Word.mono _ _)
      | (with_reducible exact smithyref02_literal.mono _ _ _)
      | (with_reducible exact smithyref02_row.mono _ _ _ _)
      | (with_reducible exact smithyref02_skip.mono _ _ _)
      | (with_reducible exact LeO.refl _)
      | (with_reducible exact LeO.none _)
      | (with_reducible refine LeO.ite ?_ ?_)
      | (with_reducible refine LeO.bind ?_ (fun _ => ?_))
      | exact ih0 _ _ _
      | exact smithyref02_Sign.mono _ _ _
      | exact smithyref02_Word.mono _ _
      | exact smithyref02_literal.mono _ _ _
      | exact smithyref02_row.mono _ _ _ _
      | exact smithyref02_skip.mono _ _ _
      | exact LeO.none _
      | refine LeO.ite ?_ ?_
      | refine LeO.bind ?_ (fun _ => ?_)
theorem xp_setCell_drewN (w : World) (n : Nat) (a : Addr) (v : Value) : (w.drewN n).setCell a v = (w.setCell a v).drewN n := rfl
attribute [local go_sem] xp_setCell_drewN
set_option maxHeartbeats 8000000 in
set_option maxRecDepth 100000 in
theorem smithyref02_Scan.calls (k : Nat) (a0 : ByteArray) (r1 : List (S35)) (r2 : Int) (r3 : Int) (w : World) (h : smithyref02_Scan.f k a0 = some (r1, r2, r3)) :
    Calls Try.prog 12 #[.string a0] w fun e w' => ∃ v0_ : Value, e = .returned (.tuple #[v0_, .agg #[.int .i64 r2, .int .i64 r3]]) ∧ Kd.R k35 35 w' w.heap.size (fun _ => True) v0_ r1 ∧ Below w.heap.size w w' := by
  have hu26 := Try.underlying26
  have hu35 := Try.underlying35
  have HB := Aside0.mk (Below.refl w.heap.size w)
  have H : (if (a0.size : Int) > 65536 then (some (([] : List (S35)), 3, 0)) else ((smithyref02_skip.f k a0 0).bind fun t223 => (smithyref02_Scan.l0 k a0 ([] : List (S35)) t223))) = some (r1, r2, r3) := h
  clear h
  by_cases c2 : (a0.size : Int) > 65536
  · rw [if_pos c2] at H
    have c2b0 : decide (65536 < (a0.size : Int)) = true := decide_eq_true c2
    have c2b1 : decide (65536 < a0.size) = true := decide_eq_true (by omega)
    clear c2
    simp only [Option.some.injEq, Prod.mk.injEq] at H
    obtain ⟨rfl, rfl, rfl⟩ := H
    go_enter Try.func12, Try.ntmps12
    go_wp2_with (first | ((with_reducible refine gate_dst (N := 3) rfl ?_); refine box_event ?hg (N := 3) ?hd (cs := #[.int .i64 0, .int .i64 0]) (t := 26) ?hr ?_; (case hd => rfl); (case hg => rfl); (case hr => first | (go_simp; done) | (go_simp; rfl)); intro gb207 hg w3 hbox hb; have n0_ := Aside0.mk (below_step (by repeat (first | (with_reducible first | exact HB.out | apply below_alloc | apply pw_below_drewN | apply below_drew1) | exact HB.out)) hb); have n1_ := Aside0.mk (hbox); have n2_ := Aside0.mk ((by rw [hg]; exact (below_size (by repeat (first | (with_reducible first | exact HB.out | apply below_alloc | apply pw_below_drewN | apply below_drew1) | exact HB.out))) : w.heap.size ≤ gb207)); have n3_ := Aside0.mk ((by rw [hg]; exact (below_size (by repeat (first | (with_reducible first | exact HB.out | apply below_alloc | apply pw_below_drewN | apply below_drew1) | exact HB.out))) : w.heap.size ≤ gb207)); clear HB; have HB := n0_; have BK207 := n1_; have GW207 := n2_; have GE207 := n3_; clear n0_ n1_ n2_ n3_; clear hb hbox hg; have hcz4_0 : w3.cell? ⟨gb207, 0, none⟩ = some (.int .i64 0) := (blk_cell BK207.out 0).trans rfl; have hcz4_1 : w3.cell? ⟨gb207, 1, none⟩ = some (.int .i64 0) := (blk_cell BK207.out 1).trans rfl; have hfz4_0 := blk_frozen BK207.out 0; have hfz4_1 := blk_frozen BK207.out 1))
    refine bodyPost_ret (results_tc rfl _ _ gb207 26 #[.int .i64 3, .int .i64 0] (0, 0) _ rfl (by (with_reducible repeat (first | refine blk_drewN ?_ _ | refine blk_drew ?_ | refine blk_alloc ?_ _)); refine blk_put (cs := #[.int .i64 3, .int .i64 0]) ?_ 1 _ rfl; (with_reducible repeat (first | refine blk_drewN ?_ _ | refine blk_drew ?_ | refine blk_alloc ?_ _)); refine blk_put (cs := #[.int .i64 0, .int .i64 0]) ?_ 0 _ rfl; (with_reducible repeat (first | refine blk_drewN ?_ _ | refine blk_drew ?_ | refine blk_alloc ?_ _)); exact BK207.out) Try.underlying26 rfl (by kernel_rfl)) rfl ?_
    exact ⟨_, by first | rfl | (simp [errW_none, errW_some] <;> rfl) | (simp [*, errW_none, errW_some] <;> rfl), by first | exact Kd.R_nil _ _ _ _ _ | exact Kd.N_nil _ _ _ _ _ | exact Kd.V_nil _ _ _ _ _ | exact Kd.Q_nil _ _ _ _ _ | exact Kd.S_nil _ _ _ _ _, by repeat (first | (with_reducible first | exact HB.out | apply below_alloc | apply pw_below_drewN | apply below_drew1 | refine below_set ?_ GE207.out) | exact HB.out)⟩
  · rw [if_neg c2] at H
    have c2b0 : decide (65536 < (a0.size : Int)) = false := decide_eq_false c2
    have c2b1 : decide (65536 < a0.size) = false := decide_eq_false (by omega)
    clear c2
    replace H := Option.bind_eq_some_iff.mp H
    obtain ⟨t223, A50, H⟩ := H
    replace H : (smithyref02_Scan.l0 k a0 ([] : List (S35)) t223) = some (r1, r2, r3) := H
    have A5 := Aside0.mk A50
    clear A50
    have H' := Aside0.mk H
    clear H
    go_enter Try.func12, Try.ntmps12
    go_wp2_with (first | ((with_reducible refine gate_dst (N := 3) rfl ?_); refine box_event ?hg (N := 3) ?hd (cs := #[.int .i64 0, .int .i64 0]) (t := 26) ?hr ?_; (case hd => rfl); (case hg => rfl); (case hr => first | (go_simp; done) | (go_simp; rfl)); intro gb207 hg w6 hbox hb; have n0_ := Aside0.mk (below_step (by repeat (first | (with_reducible first | exact HB.out | apply below_alloc | apply pw_below_drewN | apply below_drew1) | exact HB.out)) hb); have n1_ := Aside0.mk (hbox); have n2_ := Aside0.mk ((by rw [hg]; exact (below_size (by repeat (first | (with_reducible first | exact HB.out | apply below_alloc | apply pw_below_drewN | apply below_drew1) | exact HB.out))) : w.heap.size ≤ gb207)); have n3_ := Aside0.mk ((by rw [hg]; exact (below_size (by repeat (first | (with_reducible first | exact HB.out | apply below_alloc | apply pw_below_drewN | apply below_drew1) | exact HB.out))) : w.heap.size ≤ gb207)); clear HB; have HB := n0_; have BK207 := n1_; have GW207 := n2_; have GE207 := n3_; clear n0_ n1_ n2_ n3_; clear hb hbox hg) | ((with_reducible refine gate_callee (f := 22) rfl ?_); refine goesL_ (some 16) rfl rfl Try.func22 (by kernel_rfl) rfl #[.string a0, .int .i64 0] rfl (by (try simp only [List.map_toArray, List.map_cons, List.map_nil]); first | done | rfl | (simp only [List.length_drop, List.length_take]; rfl)) ?_; (with_reducible refine (smithyref02_skip.calls k a0 0 t223 _ A5.out).mono ?_); rintro e w' ⟨rfl, ⟨nd, rfl⟩⟩; refine ⟨_, rfl, ?_⟩))
    go_loopg [4, 5] k (fun kq v4 v5 w' => ∃ (x4_1 : List (S35)) (x5_1 : Int) (x208000_1 : Int) (x208001_1 : Int), v5 = .int .i64 x5_1 ∧ Aside0 (smithyref02_Scan.l0 kq a0 x4_1 x5_1 = some (r1, r2, r3)) ∧ Aside0 (kq ≤ k) ∧ Aside0 (Kd.R k35 35 w' w.heap.size (fun _ => True) v4 x4_1) ∧ Aside0 (w'.heap[gb207]? = some (.cells #[.int .i64 x208000_1, .int .i64 x208001_1] 26 (0, 0))) ∧ Aside0 (Below w.heap.size w w'))
    case atStart => exact ⟨(([] : List (S35))), (t223), (0), (0), (by first | rfl | (simp; done) | (simp [*]; done)), H', ⟨Nat.le_refl _⟩, ⟨by first | exact Kd.R_nil _ _ _ _ _ | exact Kd.N_nil _ _ _ _ _ | exact Kd.V_nil _ _ _ _ _ | exact Kd.Q_nil _ _ _ _ _ | exact Kd.S_nil _ _ _ _ _⟩, ⟨by (with_reducible repeat (first | refine blk_drewN ?_ _ | refine blk_drew ?_ | refine blk_alloc ?_ _)); exact BK207.out⟩, ⟨by repeat (first | (with_reducible first | exact HB.out | apply below_alloc | apply pw_below_drewN | apply below_drew1 | refine below_set ?_ GE207.out) | exact HB.out)⟩⟩
    case round =>
      clear H'
      try clear c1
      try clear c2
      try clear c2b0
      try clear c2b1
      try clear p2
      try clear hcz4_0
      try clear hcz4_1
      try clear hfz4_0
      try clear hfz4_1
      obtain ⟨x4_1, x5_1, x208000_1, x208001_1, rfl, HA, HK1, HO_4, BK207, HB⟩ := hrel
      cases gk with
      | zero => exact absurd HA.out (by simp [smithyref02_Scan.l0])
      | succ k1 =>
        have H := HA.out
        clear HA
        simp only [smithyref02_Scan.l0] at H
        by_cases c7 : x5_1 < (a0.size : Int)
        · rw [if_pos c7] at H
          have c7b0 : decide (x5_1 < (a0.size : Int)) = true := decide_eq_true c7
          clear c7
          by_cases c8 : 0 ≤ x5_1
          · rw [if_pos c8] at H
            have c8b0 : decide (0 ≤ x5_1) = true := decide_eq_true c8
            clear c8
            replace H := Option.bind_eq_some_iff.mp H
            obtain ⟨t228, A100, H⟩ := H
            replace H : (if t228 = true then ((smithyref02_row.f k1 a0 x5_1 true).bind fun t229 => (if (wrap64 (t229 - x5_1)) > 32 then (some (([] : List (S35)), 120, x5_1)) else (if x5_1 ≤ t229 then (if t229 ≤ (a0.size : Int) then ((smithyref02_Word.f k1 (a0.extract (x5_1 : Int).toNat (t229 : Int).toNat)).bind fun t230 => (if t230 = true then (if x4_1.length < 5864062014805 then ((smithyref02_skip.f k1 a0 t229).bind fun t234 => (smithyref02_Scan.l0 k1 a0 (x4_1 ++ [(⟨3, x5_1, t229⟩ : S35)]) t234)) else (none)) else (if x4_1.length < 5864062014805 then ((smithyref02_skip.f k1 a0 t229).bind fun t238 => (smithyref02_Scan.l0 k1 a0 (x4_1 ++ [(⟨2, x5_1, t229⟩ : S35)]) t238)) else (none)))) else (none)) else (none)))) else ((smithyref02_Digit.f (bt a0 x5_1)).bind fun t239 => (if t239 = true then ((smithyref02_literal.f k1 a0 x5_1).bind fun bt240 => (if bt240.2.2.2.2 = true then (if x4_1.length < 5864062014805 then ((smithyref02_skip.f k1 a0 bt240.2.2.1).bind fun t249 => (smithyref02_Scan.l0 k1 a0 (x4_1 ++ [(⟨bt240.1, bt240.2.1, bt240.2.2.1⟩ : S35)]) t249)) else (none)) else (some (([] : List (S35)), 120, bt240.2.2.2.1)))) else ((smithyref02_Sign.f k1 a0 x5_1).bind fun t250 => (if t250 = 0 then (some (([] : List (S35)), 120, x5_1)) else (if x4_1.length < 5864062014805 then ((smithyref02_skip.f k1 a0 (wrap64 (x5_1 + t250))).bind fun t254 => (smithyref02_Scan.l0 k1 a0 (x4_1 ++ [(⟨6, x5_1, wrap64 (x5_1 + t250)⟩ : S35)]) t254)) else (none))))))) = some (r1, r2, r3) := H
            have A10 := Aside0.mk A100
            clear A100
            by_cases c11 : t228 = true
            · subst c11
              have H1 : ((smithyref02_row.f k1 a0 x5_1 true).bind fun t229 => (if (wrap64 (t229 - x5_1)) > 32 then (some (([] : List (S35)), 120, x5_1)) else (if x5_1 ≤ t229 then (if t229 ≤ (a0.size : Int) then ((smithyref02_Word.f k1 (a0.extract (x5_1 : Int).toNat (t229 : Int).toNat)).bind fun t230 => (if t230 = true then (if x4_1.length < 5864062014805 then ((smithyref02_skip.f k1 a0 t229).bind fun t234 => (smithyref02_Scan.l0 k1 a0 (x4_1 ++ [(⟨3, x5_1, t229⟩ : S35)]) t234)) else (none)) else (if x4_1.length < 5864062014805 then ((smithyref02_skip.f k1 a0 t229).bind fun t238 => (smithyref02_Scan.l0 k1 a0 (x4_1 ++ [(⟨2, x5_1, t229⟩ : S35)]) t238)) else (none)))) else (none)) else (none)))) = some (r1, r2, r3) := by rw [if_pos rfl] at H; exact H
              clear H
              have H := H1
              clear H1
              replace H := Option.bind_eq_some_iff.mp H
              obtain ⟨t229, A120, H⟩ := H
              replace H : (if (wrap64 (t229 - x5_1)) > 32 then (some (([] : List (S35)), 120, x5_1)) else (if x5_1 ≤ t229 then (if t229 ≤ (a0.size : Int) then ((smithyref02_Word.f k1 (a0.extract (x5_1 : Int).toNat (t229 : Int).toNat)).bind fun t230 => (if t230 = true then (if x4_1.length < 5864062014805 then ((smithyref02_skip.f k1 a0 t229).bind fun t234 => (smithyref02_Scan.l0 k1 a0 (x4_1 ++ [(⟨3, x5_1, t229⟩ : S35)]) t234)) else (none)) else (if x4_1.length < 5864062014805 then ((smithyref02_skip.f k1 a0 t229).bind fun t238 => (smithyref02_Scan.l0 k1 a0 (x4_1 ++ [(⟨2, x5_1, t229⟩ : S35)]) t238)) else (none)))) else (none)) else (none))) = some (r1, r2, r3) := H
              have A12 := Aside0.mk A120
              clear A120
              by_cases c13 : (wrap64 (t229 - x5_1)) > 32
              · rw [if_pos c13] at H
                have c13b0 : decide (32 < (wrap64 (t229 - x5_1))) = true := decide_eq_true c13
                clear c13
                simp only [Option.some.injEq, Prod.mk.injEq] at H
                obtain ⟨rfl, rfl, rfl⟩ := H
                have p9 : 0 ≤ (x5_1 : Int) := of_decide_eq_true (by first | (with_reducible assumption) | assumption)
                have q9 : x5_1 < (a0.size : Int) := of_decide_eq_true (by first | (with_reducible assumption) | assumption)
                have hx9 := bt_at a0 x5_1
                replace p9 := eq_true p9
                replace q9 := eq_true q9
                have cz0 : wr.cell? ⟨gb207, 0, none⟩ = some (.int .i64 x208000_1) := (blk_cell BK207.out 0).trans rfl
                have cz1 : wr.cell? ⟨gb207, 1, none⟩ = some (.int .i64 x208001_1) := (blk_cell BK207.out 1).trans rfl
                have fz0 := blk_frozen BK207.out 0
                have fz1 := blk_frozen BK207.out 1
                have hlt := blk_lt BK207.out
                have hlt1 := Nat.lt_succ_of_lt hlt
                have hne := Nat.ne_of_lt (blk_lt BK207.out)
                have hne' := Nat.ne_of_gt (blk_lt BK207.out)
                have hne1 := Nat.ne_of_lt hlt1
                go_wp2_with (first | (go_at_call 23; ((with_reducible refine (smithyref02_Letter.calls (bt a0 x5_1) true _ A10.out).mono ?_)); rintro e w' ⟨rfl, ⟨nd, rfl⟩⟩) | (go_at_call 24; ((with_reducible refine (smithyref02_row.calls k1 a0 x5_1 true t229 _ A12.out).mono ?_)); rintro e w' ⟨rfl, ⟨nd, rfl⟩⟩))
                refine bodyPost_ret (results_tc rfl _ _ gb207 26 #[.int .i64 120, .int .i64 x5_1] (0, 0) _ rfl (by repeat (first | (with_reducible exact BK207.out) | (with_reducible refine blk_drewN ?_ _) | (with_reducible refine blk_alloc ?_ _) | (with_reducible apply blk_put) | (with_reducible refine blk_far ?_ hne _) | (refine blk_far ?_ hne _) | (refine blk_far ?_ hne1 _) | exact rfl)) Try.underlying26 rfl (by kernel_rfl)) rfl ?_
                exact ⟨_, rfl, Kd.R_nil _ _ _ _ _, (by repeat (first | (with_reducible exact HB.out) | (with_reducible apply below_alloc) | (with_reducible apply pw_below_drewN) | (with_reducible refine below_set ?_ GE207.out) | (with_reducible refine below_set ?_ (below_size HB.out))))⟩
              · rw [if_neg c13] at H
                have c13b0 : decide (32 < (wrap64 (t229 - x5_1))) = false := decide_eq_false c13
                clear c13
                have c18b0 := eq_true (of_decide_eq_true (by first | (with_reducible assumption) | assumption) : 0 ≤ x5_1)
                by_cases c19 : x5_1 ≤ t229
                · rw [if_pos c19] at H
                  have c19b0 := eq_true c19
                  have c19b1 : decide (x5_1 ≤ t229) = true := decide_eq_true c19
                  clear c19
                  by_cases c20 : t229 ≤ (a0.size : Int)
                  · rw [if_pos c20] at H
                    have c20b0 := eq_true c20
                    have c20b1 : decide (t229 ≤ (a0.size : Int)) = true := decide_eq_true c20
                    clear c20
                    replace H := Option.bind_eq_some_iff.mp H
                    obtain ⟨t230, A210, H⟩ := H
                    replace H : (if t230 = true then (if x4_1.length < 5864062014805 then ((smithyref02_skip.f k1 a0 t229).bind fun t234 => (smithyref02_Scan.l0 k1 a0 (x4_1 ++ [(⟨3, x5_1, t229⟩ : S35)]) t234)) else (none)) else (if x4_1.length < 5864062014805 then ((smithyref02_skip.f k1 a0 t229).bind fun t238 => (smithyref02_Scan.l0 k1 a0 (x4_1 ++ [(⟨2, x5_1, t229⟩ : S35)]) t238)) else (none))) = some (r1, r2, r3) := H
                    have A21 := Aside0.mk A210
                    clear A210
                    by_cases c22 : t230 = true
                    · subst c22
                      have H1 : (if x4_1.length < 5864062014805 then ((smithyref02_skip.f k1 a0 t229).bind fun t234 => (smithyref02_Scan.l0 k1 a0 (x4_1 ++ [(⟨3, x5_1, t229⟩ : S35)]) t234)) else (none)) = some (r1, r2, r3) := by rw [if_pos rfl] at H; exact H
                      clear H
                      have H := H1
                      clear H1
                      by_cases c23 : x4_1.length < 5864062014805
                      · rw [if_pos c23] at H
                        have LMc23 := Aside0.mk c23
                        clear c23
                        obtain ⟨y231, hy231⟩ : ∃ y_ : List (S35), y_ = (x4_1 ++ [(⟨3, x5_1, t229⟩ : S35)]) := ⟨_, rfl⟩
                        replace H : ((smithyref02_skip.f k1 a0 t229).bind fun t234 => (smithyref02_Scan.l0 k1 a0 y231 t234)) = some (r1, r2, r3) := by first | (rw [hy231]; with_reducible exact H) | (have H2_ := (Option.bind_some _ _).symm.trans H; rw [hy231]; with_reducible exact H2_) | (have H2_ := (Option.bind_some _ _).symm.trans H; with_reducible exact H2_) | with_reducible exact H | (rw [hy231]; exact H) | exact H
                        have Ny231 := Aside0.mk hy231
                        clear hy231
                        replace H := Option.bind_eq_some_iff.mp H
                        obtain ⟨t234, A240, H⟩ := H
                        replace H : (smithyref02_Scan.l0 k1 a0 y231 t234) = some (r1, r2, r3) := H
                        have A24 := Aside0.mk A240
                        clear A240
                        have H' := Aside0.mk H
                        clear H
                        have p9 : 0 ≤ (x5_1 : Int) := of_decide_eq_true (by first | (with_reducible assumption) | assumption)
                        have q9 : x5_1 < (a0.size : Int) := of_decide_eq_true (by first | (with_reducible assumption) | assumption)
                        have hx9 := bt_at a0 x5_1
                        replace p9 := eq_true p9
                        replace q9 := eq_true q9
                        have cz0 : wr.cell? ⟨gb207, 0, none⟩ = some (.int .i64 x208000_1) := (blk_cell BK207.out 0).trans rfl
                        have cz1 : wr.cell? ⟨gb207, 1, none⟩ = some (.int .i64 x208001_1) := (blk_cell BK207.out 1).trans rfl
                        have fz0 := blk_frozen BK207.out 0
                        have fz1 := blk_frozen BK207.out 1
                        have hlt := blk_lt BK207.out
                        have hlt1 := Nat.lt_succ_of_lt hlt
                        have hne := Nat.ne_of_lt (blk_lt BK207.out)
                        have hne' := Nat.ne_of_gt (blk_lt BK207.out)
                        have hne1 := Nat.ne_of_lt hlt1
                        go_wp2_with (first | (go_at_call 23; ((with_reducible refine (smithyref02_Letter.calls (bt a0 x5_1) true _ A10.out).mono ?_)); rintro e w' ⟨rfl, ⟨nd, rfl⟩⟩) | (go_at_call 24; ((with_reducible refine (smithyref02_row.calls k1 a0 x5_1 true t229 _ A12.out).mono ?_)); rintro e w' ⟨rfl, ⟨nd, rfl⟩⟩) | (go_at_call 15; ((with_reducible refine (smithyref02_Word.calls k1 (a0.extract (x5_1 : Int).toNat (t229 : Int).toNat) true _ A21.out).mono ?_)); rintro e w' ⟨rfl, ⟨nd, rfl⟩⟩) | (go_at_call 22; ((with_reducible refine (smithyref02_skip.calls k1 a0 t229 t234 _ A24.out).mono ?_)); rintro e w' ⟨rfl, ⟨nd, rfl⟩⟩) | ((with_reducible refine gate_builtin (b := .append) (xs := #[.tmp 74, .tmp 76]) rfl ?_); at_builtin; refine Kd.R_append k35 (w0 := w) w.heap.size rfl (.tmp 74) (.tmp 76) 23 35 (.agg #[(.int .u8 0), (.int .i64 0), (.int .i64 0)]) 24 rfl Try.underlying23 info35 rfl (by decide) (by omega) u4 x4_1 (⟨3, x5_1, t229⟩ : S35) [.int .u8 3, .int .i64 x5_1, .int .i64 t229] (fun _ => True) (fun _ => False) rfl (by first | (go_simp; done) | (go_simp; rfl)) ?aP (fun _ hk => hk.elim) (fun _ _ => trivial) ?aO ?aB ?aS ?aL ?_; (case aP => exact k35_mkM _ _ _ (⟨3, x5_1, t229⟩ : S35)); (case aO => exact Kd.R_below HO_4.out (by repeat (first | (with_reducible exact Below.refl _ _) | (with_reducible apply below_alloc) | (with_reducible apply pw_below_drewN) | (with_reducible refine below_set ?_ (Nat.le_refl _))))); (case aB => exact (by repeat (first | (with_reducible exact HB.out) | (with_reducible apply below_alloc) | (with_reducible apply pw_below_drewN) | (with_reducible refine below_set ?_ GE207.out) | (with_reducible refine below_set ?_ (below_size HB.out))))); (case aS => exact below_size (by repeat (first | (with_reducible exact HB.out) | (with_reducible apply below_alloc) | (with_reducible apply pw_below_drewN) | (with_reducible refine below_set ?_ GE207.out) | (with_reducible refine below_set ?_ (below_size HB.out))))); (case aL => have := LMc23.out; omega); intro vn wn ho hb hg hat; rw [← Ny231.out] at ho; have hKn := Aside0.mk (blk_grown (g := gb207) (o := .cells #[.int .i64 x208000_1, .int .i64 x208001_1] 26 (0, 0)) (by repeat (first | (with_reducible exact BK207.out) | (with_reducible refine blk_drewN ?_ _) | (with_reducible refine blk_alloc ?_ _) | (with_reducible apply blk_put) | (with_reducible refine blk_far ?_ hne _) | (refine blk_far ?_ hne _) | (refine blk_far ?_ hne1 _) | exact rfl)) hg (Kd.R_ne HO_4.out BK207.out (by decide))); have hTn := blk_grown (g := wr.heap.size) (o := .cells #[.int .u8 3, .int .i64 x5_1, .int .i64 t229] 35 (0, 0)) (by repeat (first | (with_reducible refine blk_drewN ?_ _) | (with_reducible exact blk_new _ _) | (with_reducible apply blk_put) | exact rfl)) hg (Kd.R_away (Kd.R_elderB HO_4.out wr.heap.size (Nat.le_refl _)) (fun _ hk => hk.2)); have hc2n : wn.cell? ⟨wr.heap.size, 2, none⟩ = some (.int .i64 t229) := (blk_cell hTn 2).trans rfl; clear hTn; have Hon := Aside0.mk ho; have Hbn := Aside0.mk hb; clear ho hb hg hat))
                        go_roundg k1
                        case measure => have := HK1.out; omega
                        case rel => exact ⟨y231, t234, x208000_1, x208001_1, (by first | rfl | (simp; done)), H', ⟨by have := HK1.out; omega⟩, ⟨by repeat (first | (with_reducible exact Hon.out) | (with_reducible apply Kd.R_drewN))⟩, ⟨by repeat (first | (with_reducible exact hKn.out) | (with_reducible refine blk_drewN ?_ _))⟩, ⟨by repeat (first | (with_reducible exact Hbn.out) | (with_reducible apply pw_below_drewN))⟩⟩
                      · rw [if_neg c23] at H
                        exact absurd H (by simp)
                    · replace c22 := Bool.eq_false_iff.mpr c22
                      subst c22
                      have H1 : (if x4_1.length < 5864062014805 then ((smithyref02_skip.f k1 a0 t229).bind fun t238 => (smithyref02_Scan.l0 k1 a0 (x4_1 ++ [(⟨2, x5_1, t229⟩ : S35)]) t238)) else (none)) = some (r1, r2, r3) := by rw [if_neg (show ¬ (false = true) by decide)] at H; exact H
                      clear H
                      have H := H1
                      clear H1
                      by_cases c30 : x4_1.length < 5864062014805
                      · rw [if_pos c30] at H
                        have LMc30 := Aside0.mk c30
                        clear c30
                        obtain ⟨y235, hy235⟩ : ∃ y_ : List (S35), y_ = (x4_1 ++ [(⟨2, x5_1, t229⟩ : S35)]) := ⟨_, rfl⟩
                        replace H : ((smithyref02_skip.f k1 a0 t229).bind fun t238 => (smithyref02_Scan.l0 k1 a0 y235 t238)) = some (r1, r2, r3) := by first | (rw [hy235]; with_reducible exact H) | (have H2_ := (Option.bind_some _ _).symm.trans H; rw [hy235]; with_reducible exact H2_) | (have H2_ := (Option.bind_some _ _).symm.trans H; with_reducible exact H2_) | with_reducible exact H | (rw [hy235]; exact H) | exact H
                        have Ny235 := Aside0.mk hy235
                        clear hy235
                        replace H := Option.bind_eq_some_iff.mp H
                        obtain ⟨t238, A310, H⟩ := H
                        replace H : (smithyref02_Scan.l0 k1 a0 y235 t238) = some (r1, r2, r3) := H
                        have A31 := Aside0.mk A310
                        clear A310
                        have H' := Aside0.mk H
                        clear H
                        have p9 : 0 ≤ (x5_1 : Int) := of_decide_eq_true (by first | (with_reducible assumption) | assumption)
                        have q9 : x5_1 < (a0.size : Int) := of_decide_eq_true (by first | (with_reducible assumption) | assumption)
                        have hx9 := bt_at a0 x5_1
                        replace p9 := eq_true p9
                        replace q9 := eq_true q9
                        have cz0 : wr.cell? ⟨gb207, 0, none⟩ = some (.int .i64 x208000_1) := (blk_cell BK207.out 0).trans rfl
                        have cz1 : wr.cell? ⟨gb207, 1, none⟩ = some (.int .i64 x208001_1) := (blk_cell BK207.out 1).trans rfl
                        have fz0 := blk_frozen BK207.out 0
                        have fz1 := blk_frozen BK207.out 1
                        have hlt := blk_lt BK207.out
                        have hlt1 := Nat.lt_succ_of_lt hlt
                        have hne := Nat.ne_of_lt (blk_lt BK207.out)
                        have hne' := Nat.ne_of_gt (blk_lt BK207.out)
                        have hne1 := Nat.ne_of_lt hlt1
                        go_wp2_with (first | (go_at_call 23; ((with_reducible refine (smithyref02_Letter.calls (bt a0 x5_1) true _ A10.out).mono ?_)); rintro e w' ⟨rfl, ⟨nd, rfl⟩⟩) | (go_at_call 24; ((with_reducible refine (smithyref02_row.calls k1 a0 x5_1 true t229 _ A12.out).mono ?_)); rintro e w' ⟨rfl, ⟨nd, rfl⟩⟩) | (go_at_call 15; ((with_reducible refine (smithyref02_Word.calls k1 (a0.extract (x5_1 : Int).toNat (t229 : Int).toNat) false _ A21.out).mono ?_)); rintro e w' ⟨rfl, ⟨nd, rfl⟩⟩) | (go_at_call 22; ((with_reducible refine (smithyref02_skip.calls k1 a0 t229 t238 _ A31.out).mono ?_)); rintro e w' ⟨rfl, ⟨nd, rfl⟩⟩) | ((with_reducible refine gate_builtin (b := .append) (xs := #[.tmp 74, .tmp 76]) rfl ?_); at_builtin; refine Kd.R_append k35 (w0 := w) w.heap.size rfl (.tmp 74) (.tmp 76) 23 35 (.agg #[(.int .u8 0), (.int .i64 0), (.int .i64 0)]) 24 rfl Try.underlying23 info35 rfl (by decide) (by omega) u4 x4_1 (⟨2, x5_1, t229⟩ : S35) [.int .u8 2, .int .i64 x5_1, .int .i64 t229] (fun _ => True) (fun _ => False) rfl (by first | (go_simp; done) | (go_simp; rfl)) ?aP (fun _ hk => hk.elim) (fun _ _ => trivial) ?aO ?aB ?aS ?aL ?_; (case aP => exact k35_mkM _ _ _ (⟨2, x5_1, t229⟩ : S35)); (case aO => exact Kd.R_below HO_4.out (by repeat (first | (with_reducible exact Below.refl _ _) | (with_reducible apply below_alloc) | (with_reducible apply pw_below_drewN) | (with_reducible refine below_set ?_ (Nat.le_refl _))))); (case aB => exact (by repeat (first | (with_reducible exact HB.out) | (with_reducible apply below_alloc) | (with_reducible apply pw_below_drewN) | (with_reducible refine below_set ?_ GE207.out) | (with_reducible refine below_set ?_ (below_size HB.out))))); (case aS => exact below_size (by repeat (first | (with_reducible exact HB.out) | (with_reducible apply below_alloc) | (with_reducible apply pw_below_drewN) | (with_reducible refine below_set ?_ GE207.out) | (with_reducible refine below_set ?_ (below_size HB.out))))); (case aL => have := LMc30.out; omega); intro vn wn ho hb hg hat; rw [← Ny235.out] at ho; have hKn := Aside0.mk (blk_grown (g := gb207) (o := .cells #[.int .i64 x208000_1, .int .i64 x208001_1] 26 (0, 0)) (by repeat (first | (with_reducible exact BK207.out) | (with_reducible refine blk_drewN ?_ _) | (with_reducible refine blk_alloc ?_ _) | (with_reducible apply blk_put) | (with_reducible refine blk_far ?_ hne _) | (refine blk_far ?_ hne _) | (refine blk_far ?_ hne1 _) | exact rfl)) hg (Kd.R_ne HO_4.out BK207.out (by decide))); have hTn := blk_grown (g := wr.heap.size) (o := .cells #[.int .u8 2, .int .i64 x5_1, .int .i64 t229] 35 (0, 0)) (by repeat (first | (with_reducible refine blk_drewN ?_ _) | (with_reducible exact blk_new _ _) | (with_reducible apply blk_put) | exact rfl)) hg (Kd.R_away (Kd.R_elderB HO_4.out wr.heap.size (Nat.le_refl _)) (fun _ hk => hk.2)); have hc2n : wn.cell? ⟨wr.heap.size, 2, none⟩ = some (.int .i64 t229) := (blk_cell hTn 2).trans rfl; clear hTn; have Hon := Aside0.mk ho; have Hbn := Aside0.mk hb; clear ho hb hg hat))
                        go_roundg k1
                        case measure => have := HK1.out; omega
                        case rel => exact ⟨y235, t238, x208000_1, x208001_1, (by first | rfl | (simp; done)), H', ⟨by have := HK1.out; omega⟩, ⟨by repeat (first | (with_reducible exact Hon.out) | (with_reducible apply Kd.R_drewN))⟩, ⟨by repeat (first | (with_reducible exact hKn.out) | (with_reducible refine blk_drewN ?_ _))⟩, ⟨by repeat (first | (with_reducible exact Hbn.out) | (with_reducible apply pw_below_drewN))⟩⟩
                      · rw [if_neg c30] at H
                        exact absurd H (by simp)
                  · rw [if_neg c20] at H
                    exact absurd H (by simp)
                · rw [if_neg c19] at H
                  exact absurd H (by simp)
            · replace c11 := Bool.eq_false_iff.mpr c11
              subst c11
              have H1 : ((smithyref02_Digit.f (bt a0 x5_1)).bind fun t239 => (if t239 = true then ((smithyref02_literal.f k1 a0 x5_1).bind fun bt240 => (if bt240.2.2.2.2 = true then (if x4_1.length < 5864062014805 then ((smithyref02_skip.f k1 a0 bt240.2.2.1).bind fun t249 => (smithyref02_Scan.l0 k1 a0 (x4_1 ++ [(⟨bt240.1, bt240.2.1, bt240.2.2.1⟩ : S35)]) t249)) else (none)) else (some (([] : List (S35)), 120, bt240.2.2.2.1)))) else ((smithyref02_Sign.f k1 a0 x5_1).bind fun t250 => (if t250 = 0 then (some (([] : List (S35)), 120, x5_1)) else (if x4_1.length < 5864062014805 then ((smithyref02_skip.f k1 a0 (wrap64 (x5_1 + t250))).bind fun t254 => (smithyref02_Scan.l0 k1 a0 (x4_1 ++ [(⟨6, x5_1, wrap64 (x5_1 + t250)⟩ : S35)]) t254)) else (none)))))) = some (r1, r2, r3) := by rw [if_neg (show ¬ (false = true) by decide)] at H; exact H
              clear H
              have H := H1
              clear H1
              replace H := Option.bind_eq_some_iff.mp H
              obtain ⟨t239, A380, H⟩ := H
              replace H : (if t239 = true then ((smithyref02_literal.f k1 a0 x5_1).bind fun bt240 => (if bt240.2.2.2.2 = true then (if x4_1.length < 5864062014805 then ((smithyref02_skip.f k1 a0 bt240.2.2.1).bind fun t249 => (smithyref02_Scan.l0 k1 a0 (x4_1 ++ [(⟨bt240.1, bt240.2.1, bt240.2.2.1⟩ : S35)]) t249)) else (none)) else (some (([] : List (S35)), 120, bt240.2.2.2.1)))) else ((smithyref02_Sign.f k1 a0 x5_1).bind fun t250 => (if t250 = 0 then (some (([] : List (S35)), 120, x5_1)) else (if x4_1.length < 5864062014805 then ((smithyref02_skip.f k1 a0 (wrap64 (x5_1 + t250))).bind fun t254 => (smithyref02_Scan.l0 k1 a0 (x4_1 ++ [(⟨6, x5_1, wrap64 (x5_1 + t250)⟩ : S35)]) t254)) else (none))))) = some (r1, r2, r3) := H
              have A38 := Aside0.mk A380
              clear A380
              by_cases c39 : t239 = true
              · subst c39
                have H1 : ((smithyref02_literal.f k1 a0 x5_1).bind fun bt240 => (if bt240.2.2.2.2 = true then (if x4_1.length < 5864062014805 then ((smithyref02_skip.f k1 a0 bt240.2.2.1).bind fun t249 => (smithyref02_Scan.l0 k1 a0 (x4_1 ++ [(⟨bt240.1, bt240.2.1, bt240.2.2.1⟩ : S35)]) t249)) else (none)) else (some (([] : List (S35)), 120, bt240.2.2.2.1)))) = some (r1, r2, r3) := by rw [if_pos rfl] at H; exact H
                clear H
                have H := H1
                clear H1
                replace H := Option.bind_eq_some_iff.mp H
                obtain ⟨⟨t240, t241, t242, t243, t244⟩, A400, H⟩ := H
                replace H : (if t244 = true then (if x4_1.length < 5864062014805 then ((smithyref02_skip.f k1 a0 t242).bind fun t249 => (smithyref02_Scan.l0 k1 a0 (x4_1 ++ [(⟨t240, t241, t242⟩ : S35)]) t249)) else (none)) else (some (([] : List (S35)), 120, t243))) = some (r1, r2, r3) := H
                have A40 := Aside0.mk A400
                clear A400
                by_cases c41 : t244 = true
                · subst c41
                  have H1 : (if x4_1.length < 5864062014805 then ((smithyref02_skip.f k1 a0 t242).bind fun t249 => (smithyref02_Scan.l0 k1 a0 (x4_1 ++ [(⟨t240, t241, t242⟩ : S35)]) t249)) else (none)) = some (r1, r2, r3) := by rw [if_pos rfl] at H; exact H
                  clear H
                  have H := H1
                  clear H1
                  by_cases c42 : x4_1.length < 5864062014805
                  · rw [if_pos c42] at H
                    have LMc42 := Aside0.mk c42
                    clear c42
                    obtain ⟨y246, hy246⟩ : ∃ y_ : List (S35), y_ = (x4_1 ++ [(⟨t240, t241, t242⟩ : S35)]) := ⟨_, rfl⟩
                    replace H : ((smithyref02_skip.f k1 a0 t242).bind fun t249 => (smithyref02_Scan.l0 k1 a0 y246 t249)) = some (r1, r2, r3) := by first | (rw [hy246]; with_reducible exact H) | (have H2_ := (Option.bind_some _ _).symm.trans H; rw [hy246]; with_reducible exact H2_) | (have H2_ := (Option.bind_some _ _).symm.trans H; with_reducible exact H2_) | with_reducible exact H | (rw [hy246]; exact H) | exact H
                    have Ny246 := Aside0.mk hy246
                    clear hy246
                    replace H := Option.bind_eq_some_iff.mp H
                    obtain ⟨t249, A430, H⟩ := H
                    replace H : (smithyref02_Scan.l0 k1 a0 y246 t249) = some (r1, r2, r3) := H
                    have A43 := Aside0.mk A430
                    clear A430
                    have H' := Aside0.mk H
                    clear H
                    have p9 : 0 ≤ (x5_1 : Int) := of_decide_eq_true (by first | (with_reducible assumption) | assumption)
                    have q9 : x5_1 < (a0.size : Int) := of_decide_eq_true (by first | (with_reducible assumption) | assumption)
                    have hx9 := bt_at a0 x5_1
                    replace p9 := eq_true p9
                    replace q9 := eq_true q9
                    have cz0 : wr.cell? ⟨gb207, 0, none⟩ = some (.int .i64 x208000_1) := (blk_cell BK207.out 0).trans rfl
                    have cz1 : wr.cell? ⟨gb207, 1, none⟩ = some (.int .i64 x208001_1) := (blk_cell BK207.out 1).trans rfl
                    have fz0 := blk_frozen BK207.out 0
                    have fz1 := blk_frozen BK207.out 1
                    have hlt := blk_lt BK207.out
                    have hlt1 := Nat.lt_succ_of_lt hlt
                    have hne := Nat.ne_of_lt (blk_lt BK207.out)
                    have hne' := Nat.ne_of_gt (blk_lt BK207.out)
                    have hne1 := Nat.ne_of_lt hlt1
                    go_wp2_with (first | (go_at_call 23; ((with_reducible refine (smithyref02_Letter.calls (bt a0 x5_1) false _ A10.out).mono ?_)); rintro e w' ⟨rfl, ⟨nd, rfl⟩⟩) | (go_at_call 25; ((with_reducible refine (smithyref02_Digit.calls (bt a0 x5_1) true _ A38.out).mono ?_)); rintro e w' ⟨rfl, ⟨nd, rfl⟩⟩) | (go_at_call 22; ((with_reducible refine (smithyref02_skip.calls k1 a0 t242 t249 _ A43.out).mono ?_)); rintro e w' ⟨rfl, ⟨nd, rfl⟩⟩) | (go_at_call 26; ((with_reducible refine (smithyref02_literal.calls k1 a0 x5_1 t240 t241 t242 t243 true _ A40.out).mono ?_)); rintro e wl ⟨rfl, hb⟩; have hBL := Aside0.mk (blk_below (g := gb207) (o := .cells #[.int .i64 x208000_1, .int .i64 x208001_1] 26 (0, 0)) (by repeat (first | (with_reducible exact BK207.out) | (with_reducible refine blk_drewN ?_ _) | (with_reducible refine blk_alloc ?_ _) | (with_reducible apply blk_put) | (with_reducible refine blk_far ?_ hne _) | (refine blk_far ?_ hne _) | (refine blk_far ?_ hne1 _) | exact rfl)) hb); have hTL := Aside0.mk (blk_below (g := wr.heap.size) (o := .cells #[.int .u8 0, .int .i64 x5_1, .int .i64 0] 35 (0, 0)) (by repeat (first | (with_reducible refine blk_drewN ?_ _) | (with_reducible exact blk_new _ _) | (with_reducible apply blk_put) | exact rfl)) hb); have hOL : Aside0 (Kd.R k35 35 wl w.heap.size (fun k => True ∧ k ≠ wr.heap.size) u4 x4_1) := Aside0.mk (Kd.R_below (Kd.R_below (Kd.R_elderB HO_4.out wr.heap.size (Nat.le_refl _)) (by repeat (first | (with_reducible exact Below.refl _ _) | (with_reducible apply below_alloc) | (with_reducible apply pw_below_drewN) | (with_reducible refine below_set ?_ (Nat.le_refl _))))) hb); have hbL := Aside0.mk (below_step (by repeat (first | (with_reducible exact HB.out) | (with_reducible apply below_alloc) | (with_reducible apply pw_below_drewN) | (with_reducible refine below_set ?_ GE207.out) | (with_reducible refine below_set ?_ (below_size HB.out)))) hb); clear hb; have czl0 : wl.cell? ⟨gb207, 0, none⟩ = some (.int .i64 x208000_1) := (blk_cell hBL.out 0).trans rfl; have czl1 : wl.cell? ⟨gb207, 1, none⟩ = some (.int .i64 x208001_1) := (blk_cell hBL.out 1).trans rfl; have fzl0 := blk_frozen hBL.out 0; have fzl1 := blk_frozen hBL.out 1; have ctl0 : wl.cell? ⟨wr.heap.size, 0, none⟩ = some (.int .u8 0) := (blk_cell hTL.out 0).trans rfl; have ctl1 : wl.cell? ⟨wr.heap.size, 1, none⟩ = some (.int .i64 x5_1) := (blk_cell hTL.out 1).trans rfl; have ctl2 : wl.cell? ⟨wr.heap.size, 2, none⟩ = some (.int .i64 0) := (blk_cell hTL.out 2).trans rfl; have ftl0 := blk_frozen hTL.out 0; have ftl1 := blk_frozen hTL.out 1; have ftl2 := blk_frozen hTL.out 2; have hltl := blk_lt hBL.out; have hltt := blk_lt hTL.out; have hnel := Nat.ne_of_lt hltl; have hnet := Nat.ne_of_lt hltt; have hnet' := Nat.ne_of_gt hltt; have hnel' := Nat.ne_of_gt hltl) | ((with_reducible refine gate_builtin (b := .append) (xs := #[.tmp 74, .tmp 76]) rfl ?_); at_builtin; refine Kd.R_append k35 (w0 := w) w.heap.size rfl (.tmp 74) (.tmp 76) 23 35 (.agg #[(.int .u8 0), (.int .i64 0), (.int .i64 0)]) 24 rfl Try.underlying23 info35 rfl (by decide) (by omega) u4 x4_1 (⟨t240, t241, t242⟩ : S35) [.int .u8 t240, .int .i64 t241, .int .i64 t242] (fun _ => True) (fun _ => False) rfl (by first | (go_simp; done) | (go_simp; rfl)) ?aP (fun _ hk => hk.elim) (fun _ _ => trivial) ?aO ?aB ?aS ?aL ?_; (case aP => exact k35_mkM _ _ _ (⟨t240, t241, t242⟩ : S35)); (case aO => exact Kd.R_mono (ok := fun k => True ∧ k ≠ wr.heap.size) (by repeat (first | (with_reducible exact hOL.out) | (with_reducible apply Kd.R_alloc) | (with_reducible apply Kd.R_drewN) | (refine Kd.R_far ?_ (fun _ hk => hk.2) _))) (fun _ _ => trivial)); (case aB => exact (by repeat (first | (with_reducible exact hbL.out) | (with_reducible apply below_alloc) | (with_reducible apply pw_below_drewN) | (with_reducible refine below_set ?_ GE207.out) | (with_reducible refine below_set ?_ (below_size HB.out))))); (case aS => exact below_size (by repeat (first | (with_reducible exact hbL.out) | (with_reducible apply below_alloc) | (with_reducible apply pw_below_drewN) | (with_reducible refine below_set ?_ GE207.out) | (with_reducible refine below_set ?_ (below_size HB.out))))); (case aL => have := LMc42.out; omega); intro vn wn ho hb hg hat; rw [← Ny246.out] at ho; have hKn := Aside0.mk (blk_grown (g := gb207) (o := .cells #[.int .i64 x208000_1, .int .i64 x208001_1] 26 (0, 0)) (by repeat (first | (with_reducible exact hBL.out) | (with_reducible refine blk_drewN ?_ _) | (with_reducible refine blk_alloc ?_ _) | (with_reducible apply blk_put) | (with_reducible refine blk_far ?_ hne _) | (refine blk_far ?_ hne _) | (refine blk_far ?_ hnel _) | exact rfl)) hg (Kd.R_ne hOL.out hBL.out (by decide))); have hTn := blk_grown (g := wr.heap.size) (o := .cells #[.int .u8 t240, .int .i64 t241, .int .i64 t242] 35 (0, 0)) (by repeat (first | (with_reducible exact hTL.out) | (with_reducible refine blk_drewN ?_ _) | (with_reducible refine blk_alloc ?_ _) | (with_reducible apply blk_put) | (refine blk_far ?_ hnet _) | exact rfl)) hg (Kd.R_away hOL.out (fun _ hk => hk.2)); have hc2n : wn.cell? ⟨wr.heap.size, 2, none⟩ = some (.int .i64 t242) := (blk_cell hTn 2).trans rfl; clear hTn; have Hon := Aside0.mk ho; have Hbn := Aside0.mk hb; clear ho hb hg hat))
                    go_roundg k1
                    case measure => have := HK1.out; omega
                    case rel => exact ⟨y246, t249, x208000_1, x208001_1, (by first | rfl | (simp; done)), H', ⟨by have := HK1.out; omega⟩, ⟨by repeat (first | (with_reducible exact Hon.out) | (with_reducible apply Kd.R_drewN))⟩, ⟨by repeat (first | (with_reducible exact hKn.out) | (with_reducible refine blk_drewN ?_ _))⟩, ⟨by repeat (first | (with_reducible exact Hbn.out) | (with_reducible apply pw_below_drewN))⟩⟩
                  · rw [if_neg c42] at H
                    exact absurd H (by simp)
                · replace c41 := Bool.eq_false_iff.mpr c41
                  subst c41
                  have H1 : (some (([] : List (S35)), 120, t243)) = some (r1, r2, r3) := by rw [if_neg (show ¬ (false = true) by decide)] at H; exact H
                  clear H
                  have H := H1
                  clear H1
                  simp only [Option.some.injEq, Prod.mk.injEq] at H
                  obtain ⟨rfl, rfl, rfl⟩ := H
                  have p9 : 0 ≤ (x5_1 : Int) := of_decide_eq_true (by first | (with_reducible assumption) | assumption)
                  have q9 : x5_1 < (a0.size : Int) := of_decide_eq_true (by first | (with_reducible assumption) | assumption)
                  have hx9 := bt_at a0 x5_1
                  replace p9 := eq_true p9
                  replace q9 := eq_true q9
                  have cz0 : wr.cell? ⟨gb207, 0, none⟩ = some (.int .i64 x208000_1) := (blk_cell BK207.out 0).trans rfl
                  have cz1 : wr.cell? ⟨gb207, 1, none⟩ = some (.int .i64 x208001_1) := (blk_cell BK207.out 1).trans rfl
                  have fz0 := blk_frozen BK207.out 0
                  have fz1 := blk_frozen BK207.out 1
                  have hlt := blk_lt BK207.out
                  have hlt1 := Nat.lt_succ_of_lt hlt
                  have hne := Nat.ne_of_lt (blk_lt BK207.out)
                  have hne' := Nat.ne_of_gt (blk_lt BK207.out)
                  have hne1 := Nat.ne_of_lt hlt1
                  go_wp2_with (first | (go_at_call 23; ((with_reducible refine (smithyref02_Letter.calls (bt a0 x5_1) false _ A10.out).mono ?_)); rintro e w' ⟨rfl, ⟨nd, rfl⟩⟩) | (go_at_call 25; ((with_reducible refine (smithyref02_Digit.calls (bt a0 x5_1) true _ A38.out).mono ?_)); rintro e w' ⟨rfl, ⟨nd, rfl⟩⟩) | (go_at_call 26; ((with_reducible refine (smithyref02_literal.calls k1 a0 x5_1 t240 t241 t242 t243 false _ A40.out).mono ?_)); rintro e wl ⟨rfl, hb⟩; have hBL := Aside0.mk (blk_below (g := gb207) (o := .cells #[.int .i64 x208000_1, .int .i64 x208001_1] 26 (0, 0)) (by repeat (first | (with_reducible exact BK207.out) | (with_reducible refine blk_drewN ?_ _) | (with_reducible refine blk_alloc ?_ _) | (with_reducible apply blk_put) | (with_reducible refine blk_far ?_ hne _) | (refine blk_far ?_ hne _) | (refine blk_far ?_ hne1 _) | exact rfl)) hb); have hTL := Aside0.mk (blk_below (g := wr.heap.size) (o := .cells #[.int .u8 0, .int .i64 x5_1, .int .i64 0] 35 (0, 0)) (by repeat (first | (with_reducible refine blk_drewN ?_ _) | (with_reducible exact blk_new _ _) | (with_reducible apply blk_put) | exact rfl)) hb); have hOL : Aside0 (Kd.R k35 35 wl w.heap.size (fun k => True ∧ k ≠ wr.heap.size) u4 x4_1) := Aside0.mk (Kd.R_below (Kd.R_below (Kd.R_elderB HO_4.out wr.heap.size (Nat.le_refl _)) (by repeat (first | (with_reducible exact Below.refl _ _) | (with_reducible apply below_alloc) | (with_reducible apply pw_below_drewN) | (with_reducible refine below_set ?_ (Nat.le_refl _))))) hb); have hbL := Aside0.mk (below_step (by repeat (first | (with_reducible exact HB.out) | (with_reducible apply below_alloc) | (with_reducible apply pw_below_drewN) | (with_reducible refine below_set ?_ GE207.out) | (with_reducible refine below_set ?_ (below_size HB.out)))) hb); clear hb; have czl0 : wl.cell? ⟨gb207, 0, none⟩ = some (.int .i64 x208000_1) := (blk_cell hBL.out 0).trans rfl; have czl1 : wl.cell? ⟨gb207, 1, none⟩ = some (.int .i64 x208001_1) := (blk_cell hBL.out 1).trans rfl; have fzl0 := blk_frozen hBL.out 0; have fzl1 := blk_frozen hBL.out 1; have ctl0 : wl.cell? ⟨wr.heap.size, 0, none⟩ = some (.int .u8 0) := (blk_cell hTL.out 0).trans rfl; have ctl1 : wl.cell? ⟨wr.heap.size, 1, none⟩ = some (.int .i64 x5_1) := (blk_cell hTL.out 1).trans rfl; have ctl2 : wl.cell? ⟨wr.heap.size, 2, none⟩ = some (.int .i64 0) := (blk_cell hTL.out 2).trans rfl; have ftl0 := blk_frozen hTL.out 0; have ftl1 := blk_frozen hTL.out 1; have ftl2 := blk_frozen hTL.out 2; have hltl := blk_lt hBL.out; have hltt := blk_lt hTL.out; have hnel := Nat.ne_of_lt hltl; have hnet := Nat.ne_of_lt hltt; have hnet' := Nat.ne_of_gt hltt; have hnel' := Nat.ne_of_gt hltl))
                  refine bodyPost_ret (results_tc rfl _ _ gb207 26 #[.int .i64 120, .int .i64 t243] (0, 0) _ rfl (by repeat (first | (with_reducible exact hBL.out) | (with_reducible refine blk_drewN ?_ _) | (with_reducible refine blk_alloc ?_ _) | (with_reducible apply blk_put) | (with_reducible refine blk_far ?_ hne _) | (refine blk_far ?_ hne _) | (refine blk_far ?_ hnel _) | exact rfl)) Try.underlying26 rfl (by kernel_rfl)) rfl ?_
                  exact ⟨_, rfl, Kd.R_nil _ _ _ _ _, (by repeat (first | (with_reducible exact hbL.out) | (with_reducible apply below_alloc) | (with_reducible apply pw_below_drewN) | (with_reducible refine below_set ?_ GE207.out) | (with_reducible refine below_set ?_ (below_size HB.out))))⟩
              · replace c39 := Bool.eq_false_iff.mpr c39
                subst c39
                have H1 : ((smithyref02_Sign.f k1 a0 x5_1).bind fun t250 => (if t250 = 0 then (some (([] : List (S35)), 120, x5_1)) else (if x4_1.length < 5864062014805 then ((smithyref02_skip.f k1 a0 (wrap64 (x5_1 + t250))).bind fun t254 => (smithyref02_Scan.l0 k1 a0 (x4_1 ++ [(⟨6, x5_1, wrap64 (x5_1 + t250)⟩ : S35)]) t254)) else (none)))) = some (r1, r2, r3) := by rw [if_neg (show ¬ (false = true) by decide)] at H; exact H
                clear H
                have H := H1
                clear H1
                replace H := Option.bind_eq_some_iff.mp H
                obtain ⟨t250, A640, H⟩ := H
                replace H : (if t250 = 0 then (some (([] : List (S35)), 120, x5_1)) else (if x4_1.length < 5864062014805 then ((smithyref02_skip.f k1 a0 (wrap64 (x5_1 + t250))).bind fun t254 => (smithyref02_Scan.l0 k1 a0 (x4_1 ++ [(⟨6, x5_1, wrap64 (x5_1 + t250)⟩ : S35)]) t254)) else (none))) = some (r1, r2, r3) := H
                have A64 := Aside0.mk A640
                clear A640
                by_cases c65 : t250 = 0
                · rw [if_pos c65] at H
                  have c65b0 : (t250 == 0) = true := beq_iff_eq.mpr c65
                  have c65b1 : (t250 != 0) = false := bne_eq_false_iff_eq.mpr c65
                  clear c65
                  simp only [Option.some.injEq, Prod.mk.injEq] at H
                  obtain ⟨rfl, rfl, rfl⟩ := H
                  have p9 : 0 ≤ (x5_1 : Int) := of_decide_eq_true (by first | (with_reducible assumption) | assumption)
                  have q9 : x5_1 < (a0.size : Int) := of_decide_eq_true (by first | (with_reducible assumption) | assumption)
                  have hx9 := bt_at a0 x5_1
                  replace p9 := eq_true p9
                  replace q9 := eq_true q9
                  have cz0 : wr.cell? ⟨gb207, 0, none⟩ = some (.int .i64 x208000_1) := (blk_cell BK207.out 0).trans rfl
                  have cz1 : wr.cell? ⟨gb207, 1, none⟩ = some (.int .i64 x208001_1) := (blk_cell BK207.out 1).trans rfl
                  have fz0 := blk_frozen BK207.out 0
                  have fz1 := blk_frozen BK207.out 1
                  have hlt := blk_lt BK207.out
                  have hlt1 := Nat.lt_succ_of_lt hlt
                  have hne := Nat.ne_of_lt (blk_lt BK207.out)
                  have hne' := Nat.ne_of_gt (blk_lt BK207.out)
                  have hne1 := Nat.ne_of_lt hlt1
                  go_wp2_with (first | (go_at_call 23; ((with_reducible refine (smithyref02_Letter.calls (bt a0 x5_1) false _ A10.out).mono ?_)); rintro e w' ⟨rfl, ⟨nd, rfl⟩⟩) | (go_at_call 25; ((with_reducible refine (smithyref02_Digit.calls (bt a0 x5_1) false _ A38.out).mono ?_)); rintro e w' ⟨rfl, ⟨nd, rfl⟩⟩) | (go_at_call 27; ((with_reducible refine (smithyref02_Sign.calls k1 a0 x5_1 t250 _ A64.out).mono ?_)); rintro e w' ⟨rfl, ⟨nd, rfl⟩⟩))
                  refine bodyPost_ret (results_tc rfl _ _ gb207 26 #[.int .i64 120, .int .i64 x5_1] (0, 0) _ rfl (by repeat (first | (with_reducible exact BK207.out) | (with_reducible refine blk_drewN ?_ _) | (with_reducible refine blk_alloc ?_ _) | (with_reducible apply blk_put) | (with_reducible refine blk_far ?_ hne _) | (refine blk_far ?_ hne _) | (refine blk_far ?_ hne1 _) | exact rfl)) Try.underlying26 rfl (by kernel_rfl)) rfl ?_
                  exact ⟨_, rfl, Kd.R_nil _ _ _ _ _, (by repeat (first | (with_reducible exact HB.out) | (with_reducible apply below_alloc) | (with_reducible apply pw_below_drewN) | (with_reducible refine below_set ?_ GE207.out) | (with_reducible refine below_set ?_ (below_size HB.out))))⟩
                · rw [if_neg c65] at H
                  have c65b0 : (t250 == 0) = false := beq_eq_false_iff_ne.mpr c65
                  have c65b1 : (t250 != 0) = true := bne_iff_ne.mpr c65
                  by_cases c70 : x4_1.length < 5864062014805
                  · rw [if_pos c70] at H
                    have LMc70 := Aside0.mk c70
                    clear c70
                    obtain ⟨y251, hy251⟩ : ∃ y_ : List (S35), y_ = (x4_1 ++ [(⟨6, x5_1, wrap64 (x5_1 + t250)⟩ : S35)]) := ⟨_, rfl⟩
                    replace H : ((smithyref02_skip.f k1 a0 (wrap64 (x5_1 + t250))).bind fun t254 => (smithyref02_Scan.l0 k1 a0 y251 t254)) = some (r1, r2, r3) := by first | (rw [hy251]; with_reducible exact H) | (have H2_ := (Option.bind_some _ _).symm.trans H; rw [hy251]; with_reducible exact H2_) | (have H2_ := (Option.bind_some _ _).symm.trans H; with_reducible exact H2_) | with_reducible exact H | (rw [hy251]; exact H) | exact H
                    have Ny251 := Aside0.mk hy251
                    clear hy251
                    replace H := Option.bind_eq_some_iff.mp H
                    obtain ⟨t254, A710, H⟩ := H
                    replace H : (smithyref02_Scan.l0 k1 a0 y251 t254) = some (r1, r2, r3) := H
                    have A71 := Aside0.mk A710
                    clear A710
                    have H' := Aside0.mk H
                    clear H
                    have p9 : 0 ≤ (x5_1 : Int) := of_decide_eq_true (by first | (with_reducible assumption) | assumption)
                    have q9 : x5_1 < (a0.size : Int) := of_decide_eq_true (by first | (with_reducible assumption) | assumption)
                    have hx9 := bt_at a0 x5_1
                    replace p9 := eq_true p9
                    replace q9 := eq_true q9
                    have cz0 : wr.cell? ⟨gb207, 0, none⟩ = some (.int .i64 x208000_1) := (blk_cell BK207.out 0).trans rfl
                    have cz1 : wr.cell? ⟨gb207, 1, none⟩ = some (.int .i64 x208001_1) := (blk_cell BK207.out 1).trans rfl
                    have fz0 := blk_frozen BK207.out 0
                    have fz1 := blk_frozen BK207.out 1
                    have hlt := blk_lt BK207.out
                    have hlt1 := Nat.lt_succ_of_lt hlt
                    have hne := Nat.ne_of_lt (blk_lt BK207.out)
                    have hne' := Nat.ne_of_gt (blk_lt BK207.out)
                    have hne1 := Nat.ne_of_lt hlt1
                    go_wp2_with (first | (go_at_call 23; ((with_reducible refine (smithyref02_Letter.calls (bt a0 x5_1) false _ A10.out).mono ?_)); rintro e w' ⟨rfl, ⟨nd, rfl⟩⟩) | (go_at_call 25; ((with_reducible refine (smithyref02_Digit.calls (bt a0 x5_1) false _ A38.out).mono ?_)); rintro e w' ⟨rfl, ⟨nd, rfl⟩⟩) | (go_at_call 27; ((with_reducible refine (smithyref02_Sign.calls k1 a0 x5_1 t250 _ A64.out).mono ?_)); rintro e w' ⟨rfl, ⟨nd, rfl⟩⟩) | (go_at_call 22; ((with_reducible refine (smithyref02_skip.calls k1 a0 (wrap64 (x5_1 + t250)) t254 _ A71.out).mono ?_)); rintro e w' ⟨rfl, ⟨nd, rfl⟩⟩) | ((with_reducible refine gate_builtin (b := .append) (xs := #[.tmp 74, .tmp 76]) rfl ?_); at_builtin; refine Kd.R_append k35 (w0 := w) w.heap.size rfl (.tmp 74) (.tmp 76) 23 35 (.agg #[(.int .u8 0), (.int .i64 0), (.int .i64 0)]) 24 rfl Try.underlying23 info35 rfl (by decide) (by omega) u4 x4_1 (⟨6, x5_1, wrap64 (x5_1 + t250)⟩ : S35) [.int .u8 6, .int .i64 x5_1, .int .i64 (wrap64 (x5_1 + t250))] (fun _ => True) (fun _ => False) rfl (by first | (go_simp; done) | (go_simp; rfl)) ?aP (fun _ hk => hk.elim) (fun _ _ => trivial) ?aO ?aB ?aS ?aL ?_; (case aP => exact k35_mkM _ _ _ (⟨6, x5_1, wrap64 (x5_1 + t250)⟩ : S35)); (case aO => exact Kd.R_below HO_4.out (by repeat (first | (with_reducible exact Below.refl _ _) | (with_reducible apply below_alloc) | (with_reducible apply pw_below_drewN) | (with_reducible refine below_set ?_ (Nat.le_refl _))))); (case aB => exact (by repeat (first | (with_reducible exact HB.out) | (with_reducible apply below_alloc) | (with_reducible apply pw_below_drewN) | (with_reducible refine below_set ?_ GE207.out) | (with_reducible refine below_set ?_ (below_size HB.out))))); (case aS => exact below_size (by repeat (first | (with_reducible exact HB.out) | (with_reducible apply below_alloc) | (with_reducible apply pw_below_drewN) | (with_reducible refine below_set ?_ GE207.out) | (with_reducible refine below_set ?_ (below_size HB.out))))); (case aL => have := LMc70.out; omega); intro vn wn ho hb hg hat; rw [← Ny251.out] at ho; have hKn := Aside0.mk (blk_grown (g := gb207) (o := .cells #[.int .i64 x208000_1, .int .i64 x208001_1] 26 (0, 0)) (by repeat (first | (with_reducible exact BK207.out) | (with_reducible refine blk_drewN ?_ _) | (with_reducible refine blk_alloc ?_ _) | (with_reducible apply blk_put) | (with_reducible refine blk_far ?_ hne _) | (refine blk_far ?_ hne _) | (refine blk_far ?_ hne1 _) | exact rfl)) hg (Kd.R_ne HO_4.out BK207.out (by decide))); have hTn := blk_grown (g := wr.heap.size) (o := .cells #[.int .u8 6, .int .i64 x5_1, .int .i64 (wrap64 (x5_1 + t250))] 35 (0, 0)) (by repeat (first | (with_reducible refine blk_drewN ?_ _) | (with_reducible exact blk_new _ _) | (with_reducible apply blk_put) | exact rfl)) hg (Kd.R_away (Kd.R_elderB HO_4.out wr.heap.size (Nat.le_refl _)) (fun _ hk => hk.2)); have hc2n : wn.cell? ⟨wr.heap.size, 2, none⟩ = some (.int .i64 (wrap64 (x5_1 + t250))) := (blk_cell hTn 2).trans rfl; clear hTn; have Hon := Aside0.mk ho; have Hbn := Aside0.mk hb; clear ho hb hg hat))
                    go_roundg k1
                    case measure => have := HK1.out; omega
                    case rel => exact ⟨y251, t254, x208000_1, x208001_1, (by first | rfl | (simp; done)), H', ⟨by have := HK1.out; omega⟩, ⟨by repeat (first | (with_reducible exact Hon.out) | (with_reducible apply Kd.R_drewN))⟩, ⟨by repeat (first | (with_reducible exact hKn.out) | (with_reducible refine blk_drewN ?_ _))⟩, ⟨by repeat (first | (with_reducible exact Hbn.out) | (with_reducible apply pw_below_drewN))⟩⟩
                  · rw [if_neg c70] at H
                    exact absurd H (by simp)
          · rw [if_neg c8] at H
            exact absurd H (by simp)
        · rw [if_neg c7] at H
          have c7b0 : decide (x5_1 < (a0.size : Int)) = false := decide_eq_false c7
          clear c7
          by_cases c77 : x4_1.length < 5864062014805
          · rw [if_pos c77] at H
            have LMc77 := Aside0.mk c77
            clear c77
            obtain ⟨y224, hy224⟩ : ∃ y_ : List (S35), y_ = (x4_1 ++ [(⟨1, (a0.size : Int), (a0.size : Int)⟩ : S35)]) := ⟨_, rfl⟩
            replace H : (some (y224, 0, 0)) = some (r1, r2, r3) := by first | (rw [hy224]; with_reducible exact H) | (have H2_ := (Option.bind_some _ _).symm.trans H; rw [hy224]; with_reducible exact H2_) | (have H2_ := (Option.bind_some _ _).symm.trans H; with_reducible exact H2_) | with_reducible exact H | (rw [hy224]; exact H) | exact H
            have Ny224 := Aside0.mk hy224
            clear hy224
            simp only [Option.some.injEq, Prod.mk.injEq] at H
            obtain ⟨rfl, rfl, rfl⟩ := H
            have cz0 : wr.cell? ⟨gb207, 0, none⟩ = some (.int .i64 x208000_1) := (blk_cell BK207.out 0).trans rfl
            have cz1 : wr.cell? ⟨gb207, 1, none⟩ = some (.int .i64 x208001_1) := (blk_cell BK207.out 1).trans rfl
            have fz0 := blk_frozen BK207.out 0
            have fz1 := blk_frozen BK207.out 1
            have hlt := blk_lt BK207.out
            have hlt1 := Nat.lt_succ_of_lt hlt
            have hne := Nat.ne_of_lt (blk_lt BK207.out)
            have hne' := Nat.ne_of_gt (blk_lt BK207.out)
            have hne1 := Nat.ne_of_lt hlt1
            go_wp2_with (first | ((with_reducible refine gate_builtin (b := .append) (xs := #[.tmp 82, .tmp 88]) rfl ?_); at_builtin; refine Kd.R_append k35 (w0 := w) w.heap.size rfl (.tmp 82) (.tmp 88) 23 35 (.agg #[(.int .u8 0), (.int .i64 0), (.int .i64 0)]) 24 rfl Try.underlying23 info35 rfl (by decide) (by omega) u4 x4_1 (⟨1, (a0.size : Int), (a0.size : Int)⟩ : S35) [.int .u8 1, .int .i64 (a0.size : Int), .int .i64 (a0.size : Int)] (fun _ => True) (fun _ => False) rfl (by first | (go_simp; done) | (go_simp; rfl)) ?aP (fun _ hk => hk.elim) (fun _ _ => trivial) ?aO ?aB ?aS ?aL ?_; (case aP => exact k35_mkM _ _ _ (⟨1, (a0.size : Int), (a0.size : Int)⟩ : S35)); (case aO => exact Kd.R_below HO_4.out (by repeat (first | (with_reducible exact Below.refl _ _) | (with_reducible apply below_alloc) | (with_reducible apply pw_below_drewN) | (with_reducible refine below_set ?_ (Nat.le_refl _))))); (case aB => exact (by repeat (first | (with_reducible exact HB.out) | (with_reducible apply below_alloc) | (with_reducible apply pw_below_drewN) | (with_reducible refine below_set ?_ GE207.out) | (with_reducible refine below_set ?_ (below_size HB.out))))); (case aS => exact below_size (by repeat (first | (with_reducible exact HB.out) | (with_reducible apply below_alloc) | (with_reducible apply pw_below_drewN) | (with_reducible refine below_set ?_ GE207.out) | (with_reducible refine below_set ?_ (below_size HB.out))))); (case aL => have := LMc77.out; omega); intro vn wn ho hb hg hat; rw [← Ny224.out] at ho; have hKn := Aside0.mk (blk_grown (g := gb207) (o := .cells #[.int .i64 x208000_1, .int .i64 x208001_1] 26 (0, 0)) (by repeat (first | (with_reducible exact BK207.out) | (with_reducible refine blk_drewN ?_ _) | (with_reducible refine blk_alloc ?_ _) | (with_reducible apply blk_put) | (with_reducible refine blk_far ?_ hne _) | (refine blk_far ?_ hne _) | (refine blk_far ?_ hne1 _) | exact rfl)) hg (Kd.R_ne HO_4.out BK207.out (by decide))); have czn0 : wn.cell? ⟨gb207, 0, none⟩ = some (.int .i64 x208000_1) := (blk_cell hKn.out 0).trans rfl; have czn1 : wn.cell? ⟨gb207, 1, none⟩ = some (.int .i64 x208001_1) := (blk_cell hKn.out 1).trans rfl; have fzn0 := blk_frozen hKn.out 0; have fzn1 := blk_frozen hKn.out 1; have Hon := Aside0.mk ho; have Hbn := Aside0.mk hb; clear ho hb hg hat))
            refine bodyPost_ret (results_tc rfl _ _ gb207 26 #[.int .i64 0, .int .i64 0] (0, 0) _ rfl (by repeat (first | (with_reducible exact hKn.out) | (with_reducible refine blk_drewN ?_ _) | (with_reducible refine blk_alloc ?_ _) | (with_reducible apply blk_put) | (with_reducible refine blk_far ?_ hne _) | (refine blk_far ?_ hne _) | (refine blk_far ?_ hne1 _) | exact rfl)) Try.underlying26 rfl (by kernel_rfl)) rfl ?_
            exact ⟨vn, by first | rfl | (simp; done), Kd.R_mono (Kd.R_far (Kd.R_far (Kd.R_types Hon.out hKn.out (by decide)) (fun _ hk => hk.2) _) (fun _ hk => hk.2) _) (fun _ _ => trivial), (by repeat (first | (with_reducible exact Hbn.out) | (with_reducible apply below_alloc) | (with_reducible apply pw_below_drewN) | (with_reducible refine below_set ?_ GE207.out) | (with_reducible refine below_set ?_ (below_size Hbn.out))))⟩
          · rw [if_neg c77] at H
            exact absurd H (by simp)

end Go.Proofs.Ytimnlnkjogbjfaa.X
