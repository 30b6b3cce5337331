/- Go functions of this seat as Lean functions, each with the proof that the Go call comes to the same (lines written by a program of the session's; no condition beyond those stated). -/
import Derived.Test.YtimnlnkjogbjfaaX0
import Derived.Test.YtimnlnkjogbjfaaX5
import Derived.Test.YtimnlnkjogbjfaaX6
import Derived.Test.YtimnlnkjogbjfaaX7
import Derived.Test.YtimnlnkjogbjfaaX10
import Derived.Test.YtimnlnkjogbjfaaX11
import Derived.Test.YtimnlnkjogbjfaaX12
namespace Go.Proofs.Ytimnlnkjogbjfaa.X
open Go.RowKit Go.Proofs.YtimnlnkjogbjfaaW.PrintWords Go.Proofs.YtimnlnkjogbjfaaW.PrintLast Go.Proofs.YtimnlnkjogbjfaaW.PrintMore
attribute [local go_sem] max2_int min2_int max_two min_two max_three min_three max_four min_four   -- for this text's walks alone
set_option linter.unusedVariables false
set_option linter.unusedSimpArgs false

/-! ### token_Scan: function 11 -/
def token_Scan.l0 : Nat → ByteArray → ByteArray → Int → Int → List S35 → Option (List (S35) × Int × Int)
  | 0, _, _, _, _, _ => none
  | k + 1, a0, s0, s1, s2, x => (token_cutter_skip.f k s0 s1 s2).bind fun b => (if b.2.1 = (a0.size : Int) then (if x.length < 5864062014805 then (some (x ++ [(⟨1, b.2.1, b.2.1⟩ : S35)], 0, 0)) else (none)) else (if 0 ≤ b.2.1 then (if b.2.1 < (a0.size : Int) then ((token_of.f k (bt a0 b.2.1)).bind fun o => ((if o = 2 then (token_cutter_name.f k b.1 b.2.1 b.2.2) else (if o = 3 then (token_cutter_literal.f k b.1 b.2.1 b.2.2) else (if o = 4 then (token_cutter_sign.f k b.1 b.2.1 b.2.2) else (some ((0 : Int), b.1, b.2.1, b.2.2))))).bind fun c => (if c.1 = 0 then (some (([] : List (S35)), 120, b.2.1)) else (if c.2.2.2 ≥ 0 then (some (([] : List (S35)), 120, c.2.2.2)) else (if x.length < 5864062014805 then (token_Scan.l0 k a0 c.2.1 c.2.2.1 c.2.2.2 (x ++ [(⟨c.1, b.2.1, c.2.2.1⟩ : S35)])) else (none)))))) else (none)) else (none)))
def token_Scan.f (k : Nat) (a0 : ByteArray) : Option (List (S35) × Int × Int) := if (a0.size : Int) > 65536 then (some (([] : List (S35)), 3, 0)) else (token_Scan.l0 k a0 a0 0 (-1) ([] : List (S35)))
theorem token_Scan.mono_l : ∀ k a0 s0 s1 s2 x, LeO (token_Scan.l0 k a0 s0 s1 s2 x) (token_Scan.l0 (k + 1) a0 s0 s1 s2 x) := by
  intro k
  induction k with
  | zero => intros; exact LeO.none _
  | succ k ih =>
    intro a0 s0 s1 s2 x
    rw [token_Scan.l0, token_Scan.l0]
    repeat' first
      | (with_reducible exact ih _ _ _ _ _)
      | (with_reducible exact token_cutter_skip.mono _ _ _ _)
      | (with_reducible exact token_of.mono _ _)
      | (with_reducible exact token_cutter_name.mono _ _ _ _)
      | (with_reducible exact token_cutter_literal.mono _ _ _ _)
      | (with_reducible exact token_cutter_sign.mono _ _ _ _)
      | (with_reducible exact LeO.refl _)
      | (with_reducible exact LeO.none _)
      | (with_reducible refine LeO.ite ?_ ?_)
      | (with_reducible refine LeO.bind ?_ (fun _ => ?_))
theorem token_Scan.mono : ∀ a0 k, LeO (token_Scan.f k a0) (token_Scan.f (k + 1) a0) := by
  intro a0 k
  unfold token_Scan.f
  refine LeO.ite (LeO.refl _) (token_Scan.mono_l k _ _ _ _ _)
set_option maxHeartbeats 16000000 in
set_option maxRecDepth 100000 in
theorem token_Scan.calls (k : Nat) (a0 : ByteArray) (r1 : List (S35)) (r2 : Int) (r3 : Int) (w : World) (h : token_Scan.f k a0 = some (r1, r2, r3)) :
    Calls Try.prog 11 #[.string a0] w fun e w' => ∃ v0_ : Value, e = .returned (.tuple #[v0_, .agg #[.int .i64 r2, .int .i64 r3]]) ∧ Kd.R k35 35 w' w.heap.size (fun _ => True) v0_ r1 ∧ Below w.heap.size w w' := by
  have hu26 := Try.underlying26
  have hu35 := Try.underlying35
  have hu40 := Try.underlying40
  have hu43 := Try.underlying43
  have hu44 := Try.underlying44
  have H : (if (a0.size : Int) > 65536 then (some (([] : List (S35)), 3, 0)) else (token_Scan.l0 k a0 a0 0 (-1) ([] : List (S35)))) = some (r1, r2, r3) := h
  clear h
  by_cases c2 : (a0.size : Int) > 65536
  · rw [if_pos c2] at H
    have c2b0 : decide (65536 < (a0.size : Int)) = true := decide_eq_true c2
    have c2b1 : decide (65536 < a0.size) = true := decide_eq_true (by omega)
    clear c2
    simp only [Option.some.injEq, Prod.mk.injEq] at H
    obtain ⟨rfl, rfl, rfl⟩ := H
    go_enter Try.func11, Try.ntmps11
    go_wp2_with fail
    refine bodyPost_ret (results_tc rfl _ _ w.heap.size 26 #[.int .i64 3, .int .i64 0] (0, 0) _ rfl (blk_new _ _) Try.underlying26 rfl (by kernel_rfl)) rfl ?_
    exact ⟨_, rfl, Kd.R_nil _ _ _ _ _, below_alloc (Below.refl _ _) _⟩
  · rw [if_neg c2] at H
    have c2b0 : decide (65536 < (a0.size : Int)) = false := decide_eq_false c2
    have c2b1 : decide (65536 < a0.size) = false := decide_eq_false (by omega)
    clear c2
    have H' := Aside0.mk H
    clear H
    go_enter Try.func11, Try.ntmps11
    go_wp2_with fail
    obtain ⟨W0, hW0⟩ : ∃ W0 : World, W0 = (((w.alloc (.cells #[.int .i64 0, .int .i64 0] 26)).alloc (.cells #[.string a0, .int .i64 0, .int .i64 (-1)] 40)).alloc (.cells #[.int .i64 2, .func (Fn.func 17) #[.pointer (some ⟨w.heap.size + 1, 0, none⟩)] #[], .int .i64 3, .func (Fn.func 18) #[.pointer (some ⟨w.heap.size + 1, 0, none⟩)] #[], .int .i64 4, .func (Fn.func 19) #[.pointer (some ⟨w.heap.size + 1, 0, none⟩)] #[]] 44)) := ⟨_, rfl⟩
    have BF := Aside0.mk (show W0.heap[w.heap.size]? = some (.cells #[.int .i64 0, .int .i64 0] 26 (0, 0)) from by rw [hW0]; exact blk_alloc (blk_alloc (blk_new _ _) _) _)
    have HI := Aside0.mk (show IsS40 w W0 (w.heap.size + 1) a0 0 (-1) from by rw [hW0]; exact (show IsS40 w ((w.alloc (.cells #[.int .i64 0, .int .i64 0] 26)).alloc (.cells #[.string a0, .int .i64 0, .int .i64 (-1)] 40)) (w.heap.size + 1) a0 0 (-1) from ⟨by have := heap_alloc_new (w.alloc (.cells #[.int .i64 0, .int .i64 0] 26)) (.cells #[.string a0, .int .i64 0, .int .i64 (-1)] 40); simpa using this, Nat.le_succ _⟩).alloc _)
    have BA := Aside0.mk (show W0.heap[w.heap.size + 1 + 1]? = some (.cells #[.int .i64 2, .func (Fn.func 17) #[.pointer (some ⟨w.heap.size + 1, 0, none⟩)] #[], .int .i64 3, .func (Fn.func 18) #[.pointer (some ⟨w.heap.size + 1, 0, none⟩)] #[], .int .i64 4, .func (Fn.func 19) #[.pointer (some ⟨w.heap.size + 1, 0, none⟩)] #[]] 44 (0, 0)) from by rw [hW0]; have := heap_alloc_new ((w.alloc (.cells #[.int .i64 0, .int .i64 0] 26)).alloc (.cells #[.string a0, .int .i64 0, .int .i64 (-1)] 40)) (.cells #[.int .i64 2, .func (Fn.func 17) #[.pointer (some ⟨w.heap.size + 1, 0, none⟩)] #[], .int .i64 3, .func (Fn.func 18) #[.pointer (some ⟨w.heap.size + 1, 0, none⟩)] #[], .int .i64 4, .func (Fn.func 19) #[.pointer (some ⟨w.heap.size + 1, 0, none⟩)] #[]] 44); simpa using this)
    have HB := Aside0.mk (show Below w.heap.size w W0 from by rw [hW0]; exact below_alloc (below_alloc (below_alloc (Below.refl _ _) _) _) _)
    rw [← hW0]
    clear hW0
    generalize hgA : w.heap.size + 1 + 1 = gA at BA ⊢
    generalize hgC : w.heap.size + 1 = gC at HI BA ⊢
    generalize hgF : w.heap.size = gF at BF ⊢
    have hFC : gF ≠ gC := by omega
    have hFA : gF ≠ gA := by omega
    have hCA : gC ≠ gA := by omega
    have hCF := hFC.symm
    have hAF := hFA.symm
    have hAC := hCA.symm
    have GF : Aside0 (w.heap.size ≤ gF) := ⟨by omega⟩
    have GC : Aside0 (w.heap.size ≤ gC) := ⟨by omega⟩
    have GA : Aside0 (w.heap.size ≤ gA) := ⟨by omega⟩
    clear hgA hgC hgF
    go_loopg [6] k (fun kq v6 w' => ∃ (s0 : ByteArray) (s1 : Int) (s2 : Int) (x : List S35), Aside0 (token_Scan.l0 kq a0 s0 s1 s2 x = some (r1, r2, r3)) ∧ Aside0 (kq ≤ k) ∧ Aside0 (Kd.R k35 35 w' w.heap.size (fun k_ => k_ ≠ gF ∧ k_ ≠ gC ∧ k_ ≠ gA) v6 x) ∧ Aside0 (IsS40 w w' gC s0 s1 s2) ∧ Aside0 (w'.heap[gF]? = some (.cells #[.int .i64 0, .int .i64 0] 26 (0, 0))) ∧ Aside0 (w'.heap[gA]? = some (.cells #[.int .i64 2, .func (Fn.func 17) #[.pointer (some ⟨gC, 0, none⟩)] #[], .int .i64 3, .func (Fn.func 18) #[.pointer (some ⟨gC, 0, none⟩)] #[], .int .i64 4, .func (Fn.func 19) #[.pointer (some ⟨gC, 0, none⟩)] #[]] 44 (0, 0))) ∧ Aside0 (Below w.heap.size w w'))
    case atStart => exact ⟨_, _, _, _, H', ⟨Nat.le_refl _⟩, ⟨Kd.R_nil _ _ _ _ _⟩, HI, BF, BA, HB⟩
    case round =>
      clear H' HI BF BA HB
      obtain ⟨s0, s1, s2, x, HA, HK1, HO, HI, BF, BA, HB⟩ := hrel
      cases gk with
      | zero => exact absurd HA.out (by simp [token_Scan.l0])
      | succ k1 =>
        have H := HA.out
        clear HA
        rw [token_Scan.l0] at H
        replace H := Option.bind_eq_some_iff.mp H
        obtain ⟨⟨b1, b2, b3⟩, A1, H⟩ := H
        dsimp only at H
        replace A1 := Aside0.mk A1
        have HgC := HI.out.lt
        go_wp2_with fail
        ((with_reducible refine (token_cutter_skip.calls k1 gC s0 s1 s2 b1 b2 b3 w wr HI.out HB.out A1.out).mono ?_))
        rintro e w1 ⟨rfl, hi, hb, hk⟩
        have HI1 := Aside0.mk hi
        have HB1 := Aside0.mk hb
        have HO1 := Aside0.mk (Kd.R_keep HO.out hk (fun _ h => h.2.1))
        have BF1 := Aside0.mk (hk.blk BF.out hFC (by simp))
        have BA1 := Aside0.mk (hk.blk BA.out hAC (by simp))
        clear hi hb hk HI HB HO BF BA HgC A1
        obtain ⟨HG1, hg1⟩ := HI1.out
        have cs0 : w1.cell? ⟨gC, 0, none⟩ = some (.string b1) := cellS40_0 HG1
        have cs1 : w1.cell? ⟨gC, 1, none⟩ = some (.int .i64 b2) := cellS40_1 HG1
        have cs2 : w1.cell? ⟨gC, 2, none⟩ = some (.int .i64 b3) := cellS40_2 HG1
        have fs0 := blk_frozen HG1 0
        have fs1 := blk_frozen HG1 1
        have fs2 := blk_frozen HG1 2
        have hltC := blk_lt HG1
        have hltF := blk_lt BF1.out
        have hltA := blk_lt BA1.out
        have cf0 : w1.cell? ⟨gF, 0, none⟩ = some (.int .i64 0) := (blk_cell BF1.out 0).trans rfl
        have cf1 : w1.cell? ⟨gF, 1, none⟩ = some (.int .i64 0) := (blk_cell BF1.out 1).trans rfl
        have ff0 := blk_frozen BF1.out 0
        have ff1 := blk_frozen BF1.out 1
        have ca0 : w1.cell? ⟨gA, 0, none⟩ = some (.int .i64 2) := (blk_cell BA1.out 0).trans rfl
        have ca1 : w1.cell? ⟨gA, 1, none⟩ = some (.func (Fn.func 17) #[.pointer (some ⟨gC, 0, none⟩)] #[]) := (blk_cell BA1.out 1).trans rfl
        have ca2 : w1.cell? ⟨gA, 2, none⟩ = some (.int .i64 3) := (blk_cell BA1.out 2).trans rfl
        have ca3 : w1.cell? ⟨gA, 3, none⟩ = some (.func (Fn.func 18) #[.pointer (some ⟨gC, 0, none⟩)] #[]) := (blk_cell BA1.out 3).trans rfl
        have ca4 : w1.cell? ⟨gA, 4, none⟩ = some (.int .i64 4) := (blk_cell BA1.out 4).trans rfl
        have ca5 : w1.cell? ⟨gA, 5, none⟩ = some (.func (Fn.func 19) #[.pointer (some ⟨gC, 0, none⟩)] #[]) := (blk_cell BA1.out 5).trans rfl
        have BC1 := Aside0.mk HG1
        clear HG1 hg1
        by_cases c1 : b2 = (a0.size : Int)
        · rw [if_pos c1] at H
          have c1b : (b2 == (a0.size : Int)) = true := beq_iff_eq.mpr c1
          clear c1
          have c3 : x.length < 5864062014805 := by
            by_cases c : x.length < 5864062014805
            · exact c
            · rw [if_neg c] at H; exact absurd H (by simp)
          rw [if_pos c3] at H
          have LM := Aside0.mk c3
          clear c3
          simp only [Option.some.injEq, Prod.mk.injEq] at H
          obtain ⟨rfl, rfl, rfl⟩ := H
          go_wp2_with fail
          go_region_law (first | (rw [← World.alloc_drew]; (refine Kd.R_append_step k35 (w0 := w) w.heap.size (by rfl) (.tmp 36) (.tmp 46) 23 35 (.agg #[(.int .u8 0), (.int .i64 0), (.int .i64 0)]) 24 rfl Try.underlying23 info35 rfl (by decide) (by omega) u6 x (⟨1, b2, b2⟩ : S35) [.int .u8 1, .int .i64 b2, .int .i64 b2] (fun k_ => k_ ≠ gF ∧ k_ ≠ gC ∧ k_ ≠ gA) (fun _ => False) rfl (by first | (go_simp; done) | (go_simp; rfl)) ?aP (fun _ hk => hk.elim) ?aF ?aO ?aB ?aS ?aL ?_; (case aP => exact k35_mkM _ _ _ (⟨1, b2, b2⟩ : S35)); (case aF => exact fun k_ hk_ => ⟨Kd.freshB (g := gF) (by repeat (first | (with_reducible exact BF1.out) | (with_reducible apply blk_drewN) | (with_reducible apply blk_drew) | (with_reducible apply blk_alloc) | (with_reducible apply blk_put) | (apply blk_far (hp := hFC)) | exact rfl)) k_ hk_, Kd.freshB (g := gC) (by repeat (first | (with_reducible exact BC1.out) | (with_reducible apply blk_drewN) | (with_reducible apply blk_drew) | (with_reducible apply blk_alloc) | (with_reducible apply blk_put) | (apply blk_far (hp := hCF)) | exact rfl)) k_ hk_, Kd.freshB (g := gA) (by repeat (first | (with_reducible exact BA1.out) | (with_reducible apply blk_drewN) | (with_reducible apply blk_drew) | (with_reducible apply blk_alloc) | (with_reducible apply blk_put) | (apply blk_far (hp := hAF)) | exact rfl)) k_ hk_⟩); (case aO => exact (by repeat (first | (with_reducible exact HO1.out) | (with_reducible apply Kd.R_alloc) | (with_reducible apply Kd.R_drewN) | (with_reducible apply Kd.R_drew)))); (case aB => exact (by repeat (first | (with_reducible exact HB1.out) | (with_reducible apply below_alloc) | (with_reducible apply pw_below_drewN) | (with_reducible apply below_drew1) | (with_reducible refine below_set ?_ GF.out) | (with_reducible refine below_set ?_ GC.out)))); (case aS => exact below_size (by repeat (first | (with_reducible exact HB1.out) | (with_reducible apply below_alloc) | (with_reducible apply pw_below_drewN) | (with_reducible apply below_drew1) | (with_reducible refine below_set ?_ GF.out) | (with_reducible refine below_set ?_ GC.out)))); (case aL => have := LM.out; omega); intro vn wn ho hb hg hat; have BFn := Aside0.mk (blk_grown (g := gF) (o := .cells #[.int .i64 0, .int .i64 0] 26 (0, 0)) (by repeat (first | (with_reducible exact BF1.out) | (with_reducible apply blk_drewN) | (with_reducible apply blk_drew) | (with_reducible apply blk_alloc) | (with_reducible apply blk_put) | (apply blk_far (hp := hFC)) | exact rfl)) hg (Kd.R_away HO1.out (fun _ h_ => h_.1))); have cg0 : wn.cell? ⟨gF, 0, none⟩ = some (.int .i64 0) := (blk_cell BFn.out 0).trans rfl; have cg1 : wn.cell? ⟨gF, 1, none⟩ = some (.int .i64 0) := (blk_cell BFn.out 1).trans rfl; have fg0 := blk_frozen BFn.out 0; have fg1 := blk_frozen BFn.out 1; have HOn := Aside0.mk ho; have HBn := Aside0.mk hb; clear ho hb hg hat)))
          all_goals (go_wp2_with fail)
          all_goals refine bodyPost_ret (results_tc rfl _ _ gF 26 #[.int .i64 0, .int .i64 0] (0, 0) _ rfl (by repeat (first | (with_reducible exact BFn.out) | (with_reducible apply blk_drewN) | (with_reducible apply blk_drew) | (with_reducible apply blk_alloc) | (with_reducible apply blk_put) | (apply blk_far (hp := hFC)) | exact rfl)) Try.underlying26 rfl (by kernel_rfl)) rfl ?_
          all_goals exact ⟨vn, by first | rfl | (simp; done), Kd.R_mono (ok := (fun k_ => k_ ≠ gF ∧ k_ ≠ gC ∧ k_ ≠ gA)) (by repeat (first | (with_reducible exact HOn.out) | (with_reducible apply Kd.R_drewN) | (with_reducible apply Kd.R_drew) | (refine Kd.R_far ?_ (fun _ hk => hk.1) _))) (fun _ _ => trivial), (by repeat (first | (with_reducible exact HBn.out) | (with_reducible apply below_alloc) | (with_reducible apply pw_below_drewN) | (with_reducible apply below_drew1) | (with_reducible refine below_set ?_ GF.out) | (with_reducible refine below_set ?_ GC.out)))⟩
        · rw [if_neg c1] at H
          have c1b : (b2 == (a0.size : Int)) = false := beq_eq_false_iff_ne.mpr c1
          clear c1
          have d1 : 0 ≤ b2 := by
            by_cases c : 0 ≤ b2
            · exact c
            · rw [if_neg c] at H; exact absurd H (by simp)
          rw [if_pos d1] at H
          have d2 : b2 < (a0.size : Int) := by
            by_cases c : b2 < (a0.size : Int)
            · exact c
            · rw [if_neg c] at H; exact absurd H (by simp)
          rw [if_pos d2] at H
          replace H := Option.bind_eq_some_iff.mp H
          obtain ⟨o, A2, H⟩ := H
          replace H := Option.bind_eq_some_iff.mp H
          obtain ⟨⟨e1, e2, e3, e4⟩, A3, H⟩ := H
          dsimp only at H
          replace A2 := Aside0.mk A2
          have hx9 := bt_at a0 b2
          replace d1 := eq_true d1
          replace d2 := eq_true d2
          replace H := Aside0.mk H
          have ix0 : ∀ W : World, (Instr.index 44 (.agg #[.int .i64 2, .func (Fn.func 17) #[.pointer (some ⟨gC, 0, none⟩)] #[], .int .i64 3, .func (Fn.func 18) #[.pointer (some ⟨gC, 0, none⟩)] #[], .int .i64 4, .func (Fn.func 19) #[.pointer (some ⟨gC, 0, none⟩)] #[]]) (.int .i64 0)).run Try.prog W = .ok (.agg #[.int .i64 2, .func (Fn.func 17) #[.pointer (some ⟨gC, 0, none⟩)] #[]]) W := fun W => by rfl
          have ix1 : ∀ W : World, (Instr.index 44 (.agg #[.int .i64 2, .func (Fn.func 17) #[.pointer (some ⟨gC, 0, none⟩)] #[], .int .i64 3, .func (Fn.func 18) #[.pointer (some ⟨gC, 0, none⟩)] #[], .int .i64 4, .func (Fn.func 19) #[.pointer (some ⟨gC, 0, none⟩)] #[]]) (.int .i64 1)).run Try.prog W = .ok (.agg #[.int .i64 3, .func (Fn.func 18) #[.pointer (some ⟨gC, 0, none⟩)] #[]]) W := fun W => by rfl
          have ix2 : ∀ W : World, (Instr.index 44 (.agg #[.int .i64 2, .func (Fn.func 17) #[.pointer (some ⟨gC, 0, none⟩)] #[], .int .i64 3, .func (Fn.func 18) #[.pointer (some ⟨gC, 0, none⟩)] #[], .int .i64 4, .func (Fn.func 19) #[.pointer (some ⟨gC, 0, none⟩)] #[]]) (.int .i64 2)).run Try.prog W = .ok (.agg #[.int .i64 4, .func (Fn.func 19) #[.pointer (some ⟨gC, 0, none⟩)] #[]]) W := fun W => by rfl
          have hCT := Nat.ne_of_lt hltC
          have hFT := Nat.ne_of_lt hltF
          have hAT := Nat.ne_of_lt hltA
          have hTC := hCT.symm
          have hTF := hFT.symm
          have GT := Aside0.mk (below_size HB1.out)
          have HOT := Aside0.mk (Kd.R_elderB HO1.out w1.heap.size (Nat.le_refl _))
          go_wp2_with fail
          by_cases o2 : o = 2
          · subst o2
            rw [if_pos rfl] at A3
            replace A3 := Aside0.mk A3
            refine wp_loop_rounds 4 ?_
            rw [rounds_succ]
            go_wp2_with fail
            go_quiet ((go_at_call 21; ((with_reducible refine (token_of.calls k1 (bt a0 b2) 2 _ A2.out).mono ?_)); rintro e w' ⟨rfl, ⟨nd, rfl⟩⟩; (try first | exact ⟨rfl, _, World.drewN_drewN _ _ _⟩ | exact ⟨rfl, _, Eq.trans (World.drewN_drewN _ _ _) (congrArg (World.drewN _) (Nat.add_assoc _ _ _))⟩)))
            go_wp2_with fail
            ((with_reducible refine (token_cutter_name.calls k1 gC b1 b2 b3 e1 e2 e3 e4 w _ (by repeat (first | (with_reducible exact HI1.out) | (with_reducible apply IsS40.alloc) | (with_reducible apply IsS40.drewN) | (with_reducible apply IsS40.drew))) (by repeat (first | (with_reducible exact HB1.out) | (with_reducible apply below_alloc) | (with_reducible apply pw_below_drewN) | (with_reducible apply below_drew1) | (with_reducible refine below_set ?_ GF.out) | (with_reducible refine below_set ?_ GC.out) | (with_reducible refine below_set ?_ GT.out))) A3.out).mono ?_))
            rintro e w2 ⟨rfl, hi, hb, hk⟩
            have HI2 := Aside0.mk hi
            have HB2 := Aside0.mk hb
            have BF2 := Aside0.mk (hk.blk (g' := gF) (o := .cells #[.int .i64 0, .int .i64 0] 26 (0, 0)) (by repeat (first | (with_reducible exact BF1.out) | (with_reducible apply blk_drewN) | (with_reducible apply blk_drew) | (with_reducible apply blk_alloc) | (with_reducible apply blk_put) | (apply blk_far (hp := hFC)) | (apply blk_far (hp := hFT)) | exact rfl)) hFC (by simp))
            have BA2 := Aside0.mk (hk.blk (g' := gA) (o := .cells #[.int .i64 2, .func (Fn.func 17) #[.pointer (some ⟨gC, 0, none⟩)] #[], .int .i64 3, .func (Fn.func 18) #[.pointer (some ⟨gC, 0, none⟩)] #[], .int .i64 4, .func (Fn.func 19) #[.pointer (some ⟨gC, 0, none⟩)] #[]] 44 (0, 0)) (by repeat (first | (with_reducible exact BA1.out) | (with_reducible apply blk_drewN) | (with_reducible apply blk_drew) | (with_reducible apply blk_alloc) | (with_reducible apply blk_put) | (apply blk_far (hp := hAC)) | (apply blk_far (hp := hAT)) | exact rfl)) hAC (by simp))
            have BT2 := Aside0.mk (hk.blk (g' := w1.heap.size) (o := .cells #[.int .u8 0, .int .i64 b2, .int .i64 0] 35 (0, 0)) (by repeat (first | (with_reducible apply blk_drewN) | (with_reducible exact blk_new _ _) | (with_reducible apply blk_alloc))) hTC (by simp))
            have HO2 := Aside0.mk (Kd.R_keep (Kd.R_mono (ok := (fun k_ => (k_ ≠ gF ∧ k_ ≠ gC ∧ k_ ≠ gA) ∧ k_ ≠ w1.heap.size)) (by repeat (first | (with_reducible exact HOT.out) | (with_reducible apply Kd.R_alloc) | (with_reducible apply Kd.R_drewN) | (with_reducible apply Kd.R_drew))) (fun _ h_ => h_)) hk (fun _ h_ => h_.1.2.1))
            clear hi hb hk HI1 HB1 HOT BF1 BA1 BC1 cs0 cs1 cs2 fs0 fs1 fs2 cf0 cf1 ff0 ff1 ca0 ca1 ca2 ca3 ca4 ca5
            obtain ⟨HG2, hg2⟩ := HI2.out
            have BC2 := Aside0.mk HG2
            have cs0 : w2.cell? ⟨gC, 0, none⟩ = some (.string e2) := cellS40_0 HG2
            have cs1 : w2.cell? ⟨gC, 1, none⟩ = some (.int .i64 e3) := cellS40_1 HG2
            have cs2 : w2.cell? ⟨gC, 2, none⟩ = some (.int .i64 e4) := cellS40_2 HG2
            have fs0 := blk_frozen HG2 0
            have fs1 := blk_frozen HG2 1
            have fs2 := blk_frozen HG2 2
            have cf0 : w2.cell? ⟨gF, 0, none⟩ = some (.int .i64 0) := (blk_cell BF2.out 0).trans rfl
            have cf1 : w2.cell? ⟨gF, 1, none⟩ = some (.int .i64 0) := (blk_cell BF2.out 1).trans rfl
            have ff0 := blk_frozen BF2.out 0
            have ff1 := blk_frozen BF2.out 1
            have ct0 : w2.cell? ⟨w1.heap.size, 0, none⟩ = some (.int .u8 0) := (blk_cell BT2.out 0).trans rfl
            have ct1 : w2.cell? ⟨w1.heap.size, 1, none⟩ = some (.int .i64 b2) := (blk_cell BT2.out 1).trans rfl
            have ct2 : w2.cell? ⟨w1.heap.size, 2, none⟩ = some (.int .i64 0) := (blk_cell BT2.out 2).trans rfl
            have ft0 := blk_frozen BT2.out 0
            have ft1 := blk_frozen BT2.out 1
            have ft2 := blk_frozen BT2.out 2
            have hlC2 := blk_lt HG2
            have hlF2 := blk_lt BF2.out
            have hlT2 := blk_lt BT2.out
            have hlC3 := Nat.lt_succ_of_lt hlC2
            have hlF3 := Nat.lt_succ_of_lt hlF2
            have hlT3 := Nat.lt_succ_of_lt hlT2
            clear HG2 hg2 hltC hltF hltA
            replace H := H.out
            by_cases z1 : e1 = 0
            · rw [if_pos z1] at H
              subst z1
              simp only [Option.some.injEq, Prod.mk.injEq] at H
              have h1_ := H.1
              have h2_ := H.2.1
              have h3_ := H.2.2
              clear H
              subst h1_
              subst h2_
              subst h3_
              have g0 : decide (0 ≤ b2) = true := decide_eq_true (of_eq_true d1)
              go_wp2_with fail
              rw [rounds_succ]
              go_wp2_with fail
              go_quiet ((go_at_call 21; ((with_reducible refine (token_of.calls k1 (bt a0 b2) 2 _ A2.out).mono ?_)); rintro e w' ⟨rfl, ⟨nd, rfl⟩⟩; (try first | exact ⟨rfl, _, World.drewN_drewN _ _ _⟩ | exact ⟨rfl, _, Eq.trans (World.drewN_drewN _ _ _) (congrArg (World.drewN _) (Nat.add_assoc _ _ _))⟩)))
              go_wp2_with fail
              rw [rounds_succ]
              go_wp2_with fail
              go_quiet ((go_at_call 21; ((with_reducible refine (token_of.calls k1 (bt a0 b2) 2 _ A2.out).mono ?_)); rintro e w' ⟨rfl, ⟨nd, rfl⟩⟩; (try first | exact ⟨rfl, _, World.drewN_drewN _ _ _⟩ | exact ⟨rfl, _, Eq.trans (World.drewN_drewN _ _ _) (congrArg (World.drewN _) (Nat.add_assoc _ _ _))⟩)))
              go_wp2_with fail
              rw [rounds_succ]
              go_wp2_with fail
              go_region
              all_goals (go_wp2_with fail)
              all_goals refine bodyPost_ret (results_tc rfl _ _ gF 26 #[.int .i64 120, .int .i64 b2] (0, 0) _ rfl (by repeat (first | (with_reducible exact BF2.out) | (with_reducible apply blk_drewN) | (with_reducible apply blk_drew) | (with_reducible apply blk_alloc) | (with_reducible apply blk_put) | (apply blk_far (hp := hFC)) | (apply blk_far (hp := hFT)) | exact rfl)) Try.underlying26 rfl (by kernel_rfl)) rfl ?_
              all_goals exact ⟨_, by first | rfl | (simp; done), Kd.R_nil _ _ _ _ _, (by repeat (first | (with_reducible exact HB2.out) | (with_reducible apply below_alloc) | (with_reducible apply pw_below_drewN) | (with_reducible apply below_drew1) | (with_reducible refine below_set ?_ GF.out) | (with_reducible refine below_set ?_ GC.out) | (with_reducible refine below_set ?_ GT.out)))⟩
            · rw [if_neg z1] at H
              have z1b : (e1 == 0) = false := beq_eq_false_iff_ne.mpr z1
              clear z1
              by_cases z4 : e4 ≥ 0
              · rw [if_pos z4] at H
                have g0 : decide (0 ≤ e4) = true := decide_eq_true z4
                clear z4
                simp only [Option.some.injEq, Prod.mk.injEq] at H
                have h1_ := H.1
                have h2_ := H.2.1
                have h3_ := H.2.2
                clear H
                subst h1_
                subst h2_
                subst h3_
                go_wp2_with fail
                rw [rounds_succ]
                go_wp2_with fail
                go_quiet ((go_at_call 21; ((with_reducible refine (token_of.calls k1 (bt a0 b2) 2 _ A2.out).mono ?_)); rintro e w' ⟨rfl, ⟨nd, rfl⟩⟩; (try first | exact ⟨rfl, _, World.drewN_drewN _ _ _⟩ | exact ⟨rfl, _, Eq.trans (World.drewN_drewN _ _ _) (congrArg (World.drewN _) (Nat.add_assoc _ _ _))⟩)))
                go_wp2_with fail
                rw [rounds_succ]
                go_wp2_with fail
                go_quiet ((go_at_call 21; ((with_reducible refine (token_of.calls k1 (bt a0 b2) 2 _ A2.out).mono ?_)); rintro e w' ⟨rfl, ⟨nd, rfl⟩⟩; (try first | exact ⟨rfl, _, World.drewN_drewN _ _ _⟩ | exact ⟨rfl, _, Eq.trans (World.drewN_drewN _ _ _) (congrArg (World.drewN _) (Nat.add_assoc _ _ _))⟩)))
                go_wp2_with fail
                rw [rounds_succ]
                go_wp2_with fail
                go_region
                all_goals (go_wp2_with fail)
                all_goals refine bodyPost_ret (results_tc rfl _ _ gF 26 #[.int .i64 120, .int .i64 e4] (0, 0) _ rfl (by repeat (first | (with_reducible exact BF2.out) | (with_reducible apply blk_drewN) | (with_reducible apply blk_drew) | (with_reducible apply blk_alloc) | (with_reducible apply blk_put) | (apply blk_far (hp := hFC)) | (apply blk_far (hp := hFT)) | exact rfl)) Try.underlying26 rfl (by kernel_rfl)) rfl ?_
                all_goals exact ⟨_, by first | rfl | (simp; done), Kd.R_nil _ _ _ _ _, (by repeat (first | (with_reducible exact HB2.out) | (with_reducible apply below_alloc) | (with_reducible apply pw_below_drewN) | (with_reducible apply below_drew1) | (with_reducible refine below_set ?_ GF.out) | (with_reducible refine below_set ?_ GC.out) | (with_reducible refine below_set ?_ GT.out)))⟩
              · rw [if_neg z4] at H
                have g0 : decide (0 ≤ e4) = false := decide_eq_false z4
                clear z4
                have c3 : x.length < 5864062014805 := by
                  by_cases c : x.length < 5864062014805
                  · exact c
                  · rw [if_neg c] at H; exact absurd H (by simp)
                rw [if_pos c3] at H
                have LM := Aside0.mk c3
                clear c3
                have H' := Aside0.mk H
                clear H
                go_wp2_with fail
                rw [rounds_succ]
                go_wp2_with fail
                go_quiet ((go_at_call 21; ((with_reducible refine (token_of.calls k1 (bt a0 b2) 2 _ A2.out).mono ?_)); rintro e w' ⟨rfl, ⟨nd, rfl⟩⟩; (try first | exact ⟨rfl, _, World.drewN_drewN _ _ _⟩ | exact ⟨rfl, _, Eq.trans (World.drewN_drewN _ _ _) (congrArg (World.drewN _) (Nat.add_assoc _ _ _))⟩)))
                go_wp2_with fail
                rw [rounds_succ]
                go_wp2_with fail
                go_quiet ((go_at_call 21; ((with_reducible refine (token_of.calls k1 (bt a0 b2) 2 _ A2.out).mono ?_)); rintro e w' ⟨rfl, ⟨nd, rfl⟩⟩; (try first | exact ⟨rfl, _, World.drewN_drewN _ _ _⟩ | exact ⟨rfl, _, Eq.trans (World.drewN_drewN _ _ _) (congrArg (World.drewN _) (Nat.add_assoc _ _ _))⟩)))
                go_wp2_with fail
                rw [rounds_succ]
                (go_wp2_with (first | ((with_reducible refine gate_builtin (b := .append) (xs := #[.tmp 94, .tmp 96]) rfl ?_); at_builtin; refine Kd.R_append k35 (w0 := w) w.heap.size rfl (.tmp 94) (.tmp 96) 23 35 (.agg #[(.int .u8 0), (.int .i64 0), (.int .i64 0)]) 24 rfl Try.underlying23 info35 rfl (by decide) (by omega) u6 x (⟨e1, b2, e3⟩ : S35) [.int .u8 e1, .int .i64 b2, .int .i64 e3] (fun k_ => k_ ≠ gF ∧ k_ ≠ gC ∧ k_ ≠ gA) (fun _ => False) rfl (by first | (go_simp; done) | (go_simp; rfl)) ?aP (fun _ hk => hk.elim) ?aF ?aO ?aB ?aS ?aL ?_; (case aP => exact k35_mkM _ _ _ (⟨e1, b2, e3⟩ : S35)); (case aF => exact fun k_ hk_ => ⟨Kd.freshB (g := gF) (o := .cells #[.int .i64 0, .int .i64 0] 26 (0, 0)) (by repeat (first | (with_reducible exact BF2.out) | (with_reducible apply blk_drewN) | (with_reducible apply blk_drew) | (with_reducible apply blk_alloc) | (with_reducible apply blk_put) | (apply blk_far (hp := hFC)) | (apply blk_far (hp := hFT)) | exact rfl)) k_ hk_, Kd.freshB (g := gC) (o := .cells #[.string e2, .int .i64 e3, .int .i64 e4] 40 (0, 0)) (by repeat (first | (with_reducible exact BC2.out) | (with_reducible apply blk_drewN) | (with_reducible apply blk_drew) | (with_reducible apply blk_alloc) | (with_reducible apply blk_put) | (apply blk_far (hp := hCT)) | exact rfl)) k_ hk_, Kd.freshB (g := gA) (o := .cells #[.int .i64 2, .func (Fn.func 17) #[.pointer (some ⟨gC, 0, none⟩)] #[], .int .i64 3, .func (Fn.func 18) #[.pointer (some ⟨gC, 0, none⟩)] #[], .int .i64 4, .func (Fn.func 19) #[.pointer (some ⟨gC, 0, none⟩)] #[]] 44 (0, 0)) (by repeat (first | (with_reducible exact BA2.out) | (with_reducible apply blk_drewN) | (with_reducible apply blk_drew) | (with_reducible apply blk_alloc) | (with_reducible apply blk_put) | (apply blk_far (hp := hAC)) | (apply blk_far (hp := hAT)) | exact rfl)) k_ hk_⟩); (case aO => exact Kd.R_mono (ok := (fun k_ => (k_ ≠ gF ∧ k_ ≠ gC ∧ k_ ≠ gA) ∧ k_ ≠ w1.heap.size)) (by repeat (first | (with_reducible exact HO2.out) | (with_reducible apply Kd.R_alloc) | (with_reducible apply Kd.R_drewN) | (with_reducible apply Kd.R_drew) | (refine Kd.R_far ?_ (fun _ hk => hk.2) _))) (fun _ h_ => h_.1)); (case aB => exact (by repeat (first | (with_reducible exact HB2.out) | (with_reducible apply below_alloc) | (with_reducible apply pw_below_drewN) | (with_reducible apply below_drew1) | (with_reducible refine below_set ?_ GF.out) | (with_reducible refine below_set ?_ GC.out) | (with_reducible refine below_set ?_ GT.out)))); (case aS => exact below_size (by repeat (first | (with_reducible exact HB2.out) | (with_reducible apply below_alloc) | (with_reducible apply pw_below_drewN) | (with_reducible apply below_drew1) | (with_reducible refine below_set ?_ GF.out) | (with_reducible refine below_set ?_ GC.out) | (with_reducible refine below_set ?_ GT.out)))); (case aL => have := LM.out; omega); intro vn wn ho hb hg hat; have BFn := Aside0.mk (blk_grown (g := gF) (o := .cells #[.int .i64 0, .int .i64 0] 26 (0, 0)) (by repeat (first | (with_reducible exact BF2.out) | (with_reducible apply blk_drewN) | (with_reducible apply blk_drew) | (with_reducible apply blk_alloc) | (with_reducible apply blk_put) | (apply blk_far (hp := hFC)) | (apply blk_far (hp := hFT)) | exact rfl)) hg (Kd.R_away HO2.out (fun _ h_ => h_.1.1))); have BAn := Aside0.mk (blk_grown (g := gA) (o := .cells #[.int .i64 2, .func (Fn.func 17) #[.pointer (some ⟨gC, 0, none⟩)] #[], .int .i64 3, .func (Fn.func 18) #[.pointer (some ⟨gC, 0, none⟩)] #[], .int .i64 4, .func (Fn.func 19) #[.pointer (some ⟨gC, 0, none⟩)] #[]] 44 (0, 0)) (by repeat (first | (with_reducible exact BA2.out) | (with_reducible apply blk_drewN) | (with_reducible apply blk_drew) | (with_reducible apply blk_alloc) | (with_reducible apply blk_put) | (apply blk_far (hp := hAC)) | (apply blk_far (hp := hAT)) | exact rfl)) hg (Kd.R_away HO2.out (fun _ h_ => h_.1.2.2))); have BCn := Aside0.mk (blk_grown (g := gC) (o := .cells #[.string e2, .int .i64 e3, .int .i64 e4] 40 (0, 0)) (by repeat (first | (with_reducible exact BC2.out) | (with_reducible apply blk_drewN) | (with_reducible apply blk_drew) | (with_reducible apply blk_alloc) | (with_reducible apply blk_put) | (apply blk_far (hp := hCT)) | exact rfl)) hg (Kd.R_away HO2.out (fun _ h_ => h_.1.2.1))); have HOn := Aside0.mk ho; have HBn := Aside0.mk hb; clear ho hb hg hat)))
                go_roundg k1
                case measure => have := HK1.out; omega
                case rel => exact ⟨e2, e3, e4, _, H', ⟨by have := HK1.out; omega⟩, ⟨by repeat (first | (with_reducible exact HOn.out) | (with_reducible apply Kd.R_drewN) | (with_reducible apply Kd.R_drew))⟩, ⟨by repeat (first | (with_reducible exact BCn.out) | (with_reducible apply blk_drewN) | (with_reducible apply blk_drew)), GC.out⟩, ⟨by repeat (first | (with_reducible exact BFn.out) | (with_reducible apply blk_drewN) | (with_reducible apply blk_drew))⟩, ⟨by repeat (first | (with_reducible exact BAn.out) | (with_reducible apply blk_drewN) | (with_reducible apply blk_drew))⟩, ⟨by repeat (first | (with_reducible exact HBn.out) | (with_reducible apply pw_below_drewN) | (with_reducible apply below_drew1))⟩⟩
          rw [if_neg o2] at A3
          by_cases o3 : o = 3
          · subst o3
            rw [if_pos rfl] at A3
            replace A3 := Aside0.mk A3
            refine wp_loop_rounds 4 ?_
            rw [rounds_succ]
            go_wp2_with fail
            go_quiet ((go_at_call 21; ((with_reducible refine (token_of.calls k1 (bt a0 b2) 3 _ A2.out).mono ?_)); rintro e w' ⟨rfl, ⟨nd, rfl⟩⟩; (try first | exact ⟨rfl, _, World.drewN_drewN _ _ _⟩ | exact ⟨rfl, _, Eq.trans (World.drewN_drewN _ _ _) (congrArg (World.drewN _) (Nat.add_assoc _ _ _))⟩)))
            go_wp2_with fail
            rw [rounds_succ]
            go_wp2_with fail
            go_quiet ((go_at_call 21; ((with_reducible refine (token_of.calls k1 (bt a0 b2) 3 _ A2.out).mono ?_)); rintro e w' ⟨rfl, ⟨nd, rfl⟩⟩; (try first | exact ⟨rfl, _, World.drewN_drewN _ _ _⟩ | exact ⟨rfl, _, Eq.trans (World.drewN_drewN _ _ _) (congrArg (World.drewN _) (Nat.add_assoc _ _ _))⟩)))
            go_wp2_with fail
            ((with_reducible refine (token_cutter_literal.calls k1 gC b1 b2 b3 e1 e2 e3 e4 w _ (by repeat (first | (with_reducible exact HI1.out) | (with_reducible apply IsS40.alloc) | (with_reducible apply IsS40.drewN) | (with_reducible apply IsS40.drew))) (by repeat (first | (with_reducible exact HB1.out) | (with_reducible apply below_alloc) | (with_reducible apply pw_below_drewN) | (with_reducible apply below_drew1) | (with_reducible refine below_set ?_ GF.out) | (with_reducible refine below_set ?_ GC.out) | (with_reducible refine below_set ?_ GT.out))) A3.out).mono ?_))
            rintro e w2 ⟨rfl, hi, hb, hk⟩
            have HI2 := Aside0.mk hi
            have HB2 := Aside0.mk hb
            have BF2 := Aside0.mk (hk.blk (g' := gF) (o := .cells #[.int .i64 0, .int .i64 0] 26 (0, 0)) (by repeat (first | (with_reducible exact BF1.out) | (with_reducible apply blk_drewN) | (with_reducible apply blk_drew) | (with_reducible apply blk_alloc) | (with_reducible apply blk_put) | (apply blk_far (hp := hFC)) | (apply blk_far (hp := hFT)) | exact rfl)) hFC (by simp))
            have BA2 := Aside0.mk (hk.blk (g' := gA) (o := .cells #[.int .i64 2, .func (Fn.func 17) #[.pointer (some ⟨gC, 0, none⟩)] #[], .int .i64 3, .func (Fn.func 18) #[.pointer (some ⟨gC, 0, none⟩)] #[], .int .i64 4, .func (Fn.func 19) #[.pointer (some ⟨gC, 0, none⟩)] #[]] 44 (0, 0)) (by repeat (first | (with_reducible exact BA1.out) | (with_reducible apply blk_drewN) | (with_reducible apply blk_drew) | (with_reducible apply blk_alloc) | (with_reducible apply blk_put) | (apply blk_far (hp := hAC)) | (apply blk_far (hp := hAT)) | exact rfl)) hAC (by simp))
            have BT2 := Aside0.mk (hk.blk (g' := w1.heap.size) (o := .cells #[.int .u8 0, .int .i64 b2, .int .i64 0] 35 (0, 0)) (by repeat (first | (with_reducible apply blk_drewN) | (with_reducible exact blk_new _ _) | (with_reducible apply blk_alloc))) hTC (by simp))
            have HO2 := Aside0.mk (Kd.R_keep (Kd.R_mono (ok := (fun k_ => (k_ ≠ gF ∧ k_ ≠ gC ∧ k_ ≠ gA) ∧ k_ ≠ w1.heap.size)) (by repeat (first | (with_reducible exact HOT.out) | (with_reducible apply Kd.R_alloc) | (with_reducible apply Kd.R_drewN) | (with_reducible apply Kd.R_drew))) (fun _ h_ => h_)) hk (fun _ h_ => h_.1.2.1))
            clear hi hb hk HI1 HB1 HOT BF1 BA1 BC1 cs0 cs1 cs2 fs0 fs1 fs2 cf0 cf1 ff0 ff1 ca0 ca1 ca2 ca3 ca4 ca5
            obtain ⟨HG2, hg2⟩ := HI2.out
            have BC2 := Aside0.mk HG2
            have cs0 : w2.cell? ⟨gC, 0, none⟩ = some (.string e2) := cellS40_0 HG2
            have cs1 : w2.cell? ⟨gC, 1, none⟩ = some (.int .i64 e3) := cellS40_1 HG2
            have cs2 : w2.cell? ⟨gC, 2, none⟩ = some (.int .i64 e4) := cellS40_2 HG2
            have fs0 := blk_frozen HG2 0
            have fs1 := blk_frozen HG2 1
            have fs2 := blk_frozen HG2 2
            have cf0 : w2.cell? ⟨gF, 0, none⟩ = some (.int .i64 0) := (blk_cell BF2.out 0).trans rfl
            have cf1 : w2.cell? ⟨gF, 1, none⟩ = some (.int .i64 0) := (blk_cell BF2.out 1).trans rfl
            have ff0 := blk_frozen BF2.out 0
            have ff1 := blk_frozen BF2.out 1
            have ct0 : w2.cell? ⟨w1.heap.size, 0, none⟩ = some (.int .u8 0) := (blk_cell BT2.out 0).trans rfl
            have ct1 : w2.cell? ⟨w1.heap.size, 1, none⟩ = some (.int .i64 b2) := (blk_cell BT2.out 1).trans rfl
            have ct2 : w2.cell? ⟨w1.heap.size, 2, none⟩ = some (.int .i64 0) := (blk_cell BT2.out 2).trans rfl
            have ft0 := blk_frozen BT2.out 0
            have ft1 := blk_frozen BT2.out 1
            have ft2 := blk_frozen BT2.out 2
            have hlC2 := blk_lt HG2
            have hlF2 := blk_lt BF2.out
            have hlT2 := blk_lt BT2.out
            have hlC3 := Nat.lt_succ_of_lt hlC2
            have hlF3 := Nat.lt_succ_of_lt hlF2
            have hlT3 := Nat.lt_succ_of_lt hlT2
            clear HG2 hg2 hltC hltF hltA
            replace H := H.out
            by_cases z1 : e1 = 0
            · rw [if_pos z1] at H
              subst z1
              simp only [Option.some.injEq, Prod.mk.injEq] at H
              have h1_ := H.1
              have h2_ := H.2.1
              have h3_ := H.2.2
              clear H
              subst h1_
              subst h2_
              subst h3_
              have g0 : decide (0 ≤ b2) = true := decide_eq_true (of_eq_true d1)
              go_wp2_with fail
              rw [rounds_succ]
              go_wp2_with fail
              go_quiet ((go_at_call 21; ((with_reducible refine (token_of.calls k1 (bt a0 b2) 3 _ A2.out).mono ?_)); rintro e w' ⟨rfl, ⟨nd, rfl⟩⟩; (try first | exact ⟨rfl, _, World.drewN_drewN _ _ _⟩ | exact ⟨rfl, _, Eq.trans (World.drewN_drewN _ _ _) (congrArg (World.drewN _) (Nat.add_assoc _ _ _))⟩)))
              go_wp2_with fail
              rw [rounds_succ]
              go_wp2_with fail
              go_region
              all_goals (go_wp2_with fail)
              all_goals refine bodyPost_ret (results_tc rfl _ _ gF 26 #[.int .i64 120, .int .i64 b2] (0, 0) _ rfl (by repeat (first | (with_reducible exact BF2.out) | (with_reducible apply blk_drewN) | (with_reducible apply blk_drew) | (with_reducible apply blk_alloc) | (with_reducible apply blk_put) | (apply blk_far (hp := hFC)) | (apply blk_far (hp := hFT)) | exact rfl)) Try.underlying26 rfl (by kernel_rfl)) rfl ?_
              all_goals exact ⟨_, by first | rfl | (simp; done), Kd.R_nil _ _ _ _ _, (by repeat (first | (with_reducible exact HB2.out) | (with_reducible apply below_alloc) | (with_reducible apply pw_below_drewN) | (with_reducible apply below_drew1) | (with_reducible refine below_set ?_ GF.out) | (with_reducible refine below_set ?_ GC.out) | (with_reducible refine below_set ?_ GT.out)))⟩
            · rw [if_neg z1] at H
              have z1b : (e1 == 0) = false := beq_eq_false_iff_ne.mpr z1
              clear z1
              by_cases z4 : e4 ≥ 0
              · rw [if_pos z4] at H
                have g0 : decide (0 ≤ e4) = true := decide_eq_true z4
                clear z4
                simp only [Option.some.injEq, Prod.mk.injEq] at H
                have h1_ := H.1
                have h2_ := H.2.1
                have h3_ := H.2.2
                clear H
                subst h1_
                subst h2_
                subst h3_
                go_wp2_with fail
                rw [rounds_succ]
                go_wp2_with fail
                go_quiet ((go_at_call 21; ((with_reducible refine (token_of.calls k1 (bt a0 b2) 3 _ A2.out).mono ?_)); rintro e w' ⟨rfl, ⟨nd, rfl⟩⟩; (try first | exact ⟨rfl, _, World.drewN_drewN _ _ _⟩ | exact ⟨rfl, _, Eq.trans (World.drewN_drewN _ _ _) (congrArg (World.drewN _) (Nat.add_assoc _ _ _))⟩)))
                go_wp2_with fail
                rw [rounds_succ]
                go_wp2_with fail
                go_region
                all_goals (go_wp2_with fail)
                all_goals refine bodyPost_ret (results_tc rfl _ _ gF 26 #[.int .i64 120, .int .i64 e4] (0, 0) _ rfl (by repeat (first | (with_reducible exact BF2.out) | (with_reducible apply blk_drewN) | (with_reducible apply blk_drew) | (with_reducible apply blk_alloc) | (with_reducible apply blk_put) | (apply blk_far (hp := hFC)) | (apply blk_far (hp := hFT)) | exact rfl)) Try.underlying26 rfl (by kernel_rfl)) rfl ?_
                all_goals exact ⟨_, by first | rfl | (simp; done), Kd.R_nil _ _ _ _ _, (by repeat (first | (with_reducible exact HB2.out) | (with_reducible apply below_alloc) | (with_reducible apply pw_below_drewN) | (with_reducible apply below_drew1) | (with_reducible refine below_set ?_ GF.out) | (with_reducible refine below_set ?_ GC.out) | (with_reducible refine below_set ?_ GT.out)))⟩
              · rw [if_neg z4] at H
                have g0 : decide (0 ≤ e4) = false := decide_eq_false z4
                clear z4
                have c3 : x.length < 5864062014805 := by
                  by_cases c : x.length < 5864062014805
                  · exact c
                  · rw [if_neg c] at H; exact absurd H (by simp)
                rw [if_pos c3] at H
                have LM := Aside0.mk c3
                clear c3
                have H' := Aside0.mk H
                clear H
                go_wp2_with fail
                rw [rounds_succ]
                go_wp2_with fail
                go_quiet ((go_at_call 21; ((with_reducible refine (token_of.calls k1 (bt a0 b2) 3 _ A2.out).mono ?_)); rintro e w' ⟨rfl, ⟨nd, rfl⟩⟩; (try first | exact ⟨rfl, _, World.drewN_drewN _ _ _⟩ | exact ⟨rfl, _, Eq.trans (World.drewN_drewN _ _ _) (congrArg (World.drewN _) (Nat.add_assoc _ _ _))⟩)))
                go_wp2_with fail
                rw [rounds_succ]
                (go_wp2_with (first | ((with_reducible refine gate_builtin (b := .append) (xs := #[.tmp 94, .tmp 96]) rfl ?_); at_builtin; refine Kd.R_append k35 (w0 := w) w.heap.size rfl (.tmp 94) (.tmp 96) 23 35 (.agg #[(.int .u8 0), (.int .i64 0), (.int .i64 0)]) 24 rfl Try.underlying23 info35 rfl (by decide) (by omega) u6 x (⟨e1, b2, e3⟩ : S35) [.int .u8 e1, .int .i64 b2, .int .i64 e3] (fun k_ => k_ ≠ gF ∧ k_ ≠ gC ∧ k_ ≠ gA) (fun _ => False) rfl (by first | (go_simp; done) | (go_simp; rfl)) ?aP (fun _ hk => hk.elim) ?aF ?aO ?aB ?aS ?aL ?_; (case aP => exact k35_mkM _ _ _ (⟨e1, b2, e3⟩ : S35)); (case aF => exact fun k_ hk_ => ⟨Kd.freshB (g := gF) (o := .cells #[.int .i64 0, .int .i64 0] 26 (0, 0)) (by repeat (first | (with_reducible exact BF2.out) | (with_reducible apply blk_drewN) | (with_reducible apply blk_drew) | (with_reducible apply blk_alloc) | (with_reducible apply blk_put) | (apply blk_far (hp := hFC)) | (apply blk_far (hp := hFT)) | exact rfl)) k_ hk_, Kd.freshB (g := gC) (o := .cells #[.string e2, .int .i64 e3, .int .i64 e4] 40 (0, 0)) (by repeat (first | (with_reducible exact BC2.out) | (with_reducible apply blk_drewN) | (with_reducible apply blk_drew) | (with_reducible apply blk_alloc) | (with_reducible apply blk_put) | (apply blk_far (hp := hCT)) | exact rfl)) k_ hk_, Kd.freshB (g := gA) (o := .cells #[.int .i64 2, .func (Fn.func 17) #[.pointer (some ⟨gC, 0, none⟩)] #[], .int .i64 3, .func (Fn.func 18) #[.pointer (some ⟨gC, 0, none⟩)] #[], .int .i64 4, .func (Fn.func 19) #[.pointer (some ⟨gC, 0, none⟩)] #[]] 44 (0, 0)) (by repeat (first | (with_reducible exact BA2.out) | (with_reducible apply blk_drewN) | (with_reducible apply blk_drew) | (with_reducible apply blk_alloc) | (with_reducible apply blk_put) | (apply blk_far (hp := hAC)) | (apply blk_far (hp := hAT)) | exact rfl)) k_ hk_⟩); (case aO => exact Kd.R_mono (ok := (fun k_ => (k_ ≠ gF ∧ k_ ≠ gC ∧ k_ ≠ gA) ∧ k_ ≠ w1.heap.size)) (by repeat (first | (with_reducible exact HO2.out) | (with_reducible apply Kd.R_alloc) | (with_reducible apply Kd.R_drewN) | (with_reducible apply Kd.R_drew) | (refine Kd.R_far ?_ (fun _ hk => hk.2) _))) (fun _ h_ => h_.1)); (case aB => exact (by repeat (first | (with_reducible exact HB2.out) | (with_reducible apply below_alloc) | (with_reducible apply pw_below_drewN) | (with_reducible apply below_drew1) | (with_reducible refine below_set ?_ GF.out) | (with_reducible refine below_set ?_ GC.out) | (with_reducible refine below_set ?_ GT.out)))); (case aS => exact below_size (by repeat (first | (with_reducible exact HB2.out) | (with_reducible apply below_alloc) | (with_reducible apply pw_below_drewN) | (with_reducible apply below_drew1) | (with_reducible refine below_set ?_ GF.out) | (with_reducible refine below_set ?_ GC.out) | (with_reducible refine below_set ?_ GT.out)))); (case aL => have := LM.out; omega); intro vn wn ho hb hg hat; have BFn := Aside0.mk (blk_grown (g := gF) (o := .cells #[.int .i64 0, .int .i64 0] 26 (0, 0)) (by repeat (first | (with_reducible exact BF2.out) | (with_reducible apply blk_drewN) | (with_reducible apply blk_drew) | (with_reducible apply blk_alloc) | (with_reducible apply blk_put) | (apply blk_far (hp := hFC)) | (apply blk_far (hp := hFT)) | exact rfl)) hg (Kd.R_away HO2.out (fun _ h_ => h_.1.1))); have BAn := Aside0.mk (blk_grown (g := gA) (o := .cells #[.int .i64 2, .func (Fn.func 17) #[.pointer (some ⟨gC, 0, none⟩)] #[], .int .i64 3, .func (Fn.func 18) #[.pointer (some ⟨gC, 0, none⟩)] #[], .int .i64 4, .func (Fn.func 19) #[.pointer (some ⟨gC, 0, none⟩)] #[]] 44 (0, 0)) (by repeat (first | (with_reducible exact BA2.out) | (with_reducible apply blk_drewN) | (with_reducible apply blk_drew) | (with_reducible apply blk_alloc) | (with_reducible apply blk_put) | (apply blk_far (hp := hAC)) | (apply blk_far (hp := hAT)) | exact rfl)) hg (Kd.R_away HO2.out (fun _ h_ => h_.1.2.2))); have BCn := Aside0.mk (blk_grown (g := gC) (o := .cells #[.string e2, .int .i64 e3, .int .i64 e4] 40 (0, 0)) (by repeat (first | (with_reducible exact BC2.out) | (with_reducible apply blk_drewN) | (with_reducible apply blk_drew) | (with_reducible apply blk_alloc) | (with_reducible apply blk_put) | (apply blk_far (hp := hCT)) | exact rfl)) hg (Kd.R_away HO2.out (fun _ h_ => h_.1.2.1))); have HOn := Aside0.mk ho; have HBn := Aside0.mk hb; clear ho hb hg hat)))
                go_roundg k1
                case measure => have := HK1.out; omega
                case rel => exact ⟨e2, e3, e4, _, H', ⟨by have := HK1.out; omega⟩, ⟨by repeat (first | (with_reducible exact HOn.out) | (with_reducible apply Kd.R_drewN) | (with_reducible apply Kd.R_drew))⟩, ⟨by repeat (first | (with_reducible exact BCn.out) | (with_reducible apply blk_drewN) | (with_reducible apply blk_drew)), GC.out⟩, ⟨by repeat (first | (with_reducible exact BFn.out) | (with_reducible apply blk_drewN) | (with_reducible apply blk_drew))⟩, ⟨by repeat (first | (with_reducible exact BAn.out) | (with_reducible apply blk_drewN) | (with_reducible apply blk_drew))⟩, ⟨by repeat (first | (with_reducible exact HBn.out) | (with_reducible apply pw_below_drewN) | (with_reducible apply below_drew1))⟩⟩
          rw [if_neg o3] at A3
          by_cases o4 : o = 4
          · subst o4
            rw [if_pos rfl] at A3
            replace A3 := Aside0.mk A3
            refine wp_loop_rounds 4 ?_
            rw [rounds_succ]
            go_wp2_with fail
            go_quiet ((go_at_call 21; ((with_reducible refine (token_of.calls k1 (bt a0 b2) 4 _ A2.out).mono ?_)); rintro e w' ⟨rfl, ⟨nd, rfl⟩⟩; (try first | exact ⟨rfl, _, World.drewN_drewN _ _ _⟩ | exact ⟨rfl, _, Eq.trans (World.drewN_drewN _ _ _) (congrArg (World.drewN _) (Nat.add_assoc _ _ _))⟩)))
            go_wp2_with fail
            rw [rounds_succ]
            go_wp2_with fail
            go_quiet ((go_at_call 21; ((with_reducible refine (token_of.calls k1 (bt a0 b2) 4 _ A2.out).mono ?_)); rintro e w' ⟨rfl, ⟨nd, rfl⟩⟩; (try first | exact ⟨rfl, _, World.drewN_drewN _ _ _⟩ | exact ⟨rfl, _, Eq.trans (World.drewN_drewN _ _ _) (congrArg (World.drewN _) (Nat.add_assoc _ _ _))⟩)))
            go_wp2_with fail
            rw [rounds_succ]
            go_wp2_with fail
            go_quiet ((go_at_call 21; ((with_reducible refine (token_of.calls k1 (bt a0 b2) 4 _ A2.out).mono ?_)); rintro e w' ⟨rfl, ⟨nd, rfl⟩⟩; (try first | exact ⟨rfl, _, World.drewN_drewN _ _ _⟩ | exact ⟨rfl, _, Eq.trans (World.drewN_drewN _ _ _) (congrArg (World.drewN _) (Nat.add_assoc _ _ _))⟩)))
            go_wp2_with fail
            ((with_reducible refine (token_cutter_sign.calls k1 gC b1 b2 b3 e1 e2 e3 e4 w _ (by repeat (first | (with_reducible exact HI1.out) | (with_reducible apply IsS40.alloc) | (with_reducible apply IsS40.drewN) | (with_reducible apply IsS40.drew))) (by repeat (first | (with_reducible exact HB1.out) | (with_reducible apply below_alloc) | (with_reducible apply pw_below_drewN) | (with_reducible apply below_drew1) | (with_reducible refine below_set ?_ GF.out) | (with_reducible refine below_set ?_ GC.out) | (with_reducible refine below_set ?_ GT.out))) A3.out).mono ?_))
            rintro e w2 ⟨rfl, hi, hb, hk⟩
            have HI2 := Aside0.mk hi
            have HB2 := Aside0.mk hb
            have BF2 := Aside0.mk (hk.blk (g' := gF) (o := .cells #[.int .i64 0, .int .i64 0] 26 (0, 0)) (by repeat (first | (with_reducible exact BF1.out) | (with_reducible apply blk_drewN) | (with_reducible apply blk_drew) | (with_reducible apply blk_alloc) | (with_reducible apply blk_put) | (apply blk_far (hp := hFC)) | (apply blk_far (hp := hFT)) | exact rfl)) hFC (by simp))
            have BA2 := Aside0.mk (hk.blk (g' := gA) (o := .cells #[.int .i64 2, .func (Fn.func 17) #[.pointer (some ⟨gC, 0, none⟩)] #[], .int .i64 3, .func (Fn.func 18) #[.pointer (some ⟨gC, 0, none⟩)] #[], .int .i64 4, .func (Fn.func 19) #[.pointer (some ⟨gC, 0, none⟩)] #[]] 44 (0, 0)) (by repeat (first | (with_reducible exact BA1.out) | (with_reducible apply blk_drewN) | (with_reducible apply blk_drew) | (with_reducible apply blk_alloc) | (with_reducible apply blk_put) | (apply blk_far (hp := hAC)) | (apply blk_far (hp := hAT)) | exact rfl)) hAC (by simp))
            have BT2 := Aside0.mk (hk.blk (g' := w1.heap.size) (o := .cells #[.int .u8 0, .int .i64 b2, .int .i64 0] 35 (0, 0)) (by repeat (first | (with_reducible apply blk_drewN) | (with_reducible exact blk_new _ _) | (with_reducible apply blk_alloc))) hTC (by simp))
            have HO2 := Aside0.mk (Kd.R_keep (Kd.R_mono (ok := (fun k_ => (k_ ≠ gF ∧ k_ ≠ gC ∧ k_ ≠ gA) ∧ k_ ≠ w1.heap.size)) (by repeat (first | (with_reducible exact HOT.out) | (with_reducible apply Kd.R_alloc) | (with_reducible apply Kd.R_drewN) | (with_reducible apply Kd.R_drew))) (fun _ h_ => h_)) hk (fun _ h_ => h_.1.2.1))
            clear hi hb hk HI1 HB1 HOT BF1 BA1 BC1 cs0 cs1 cs2 fs0 fs1 fs2 cf0 cf1 ff0 ff1 ca0 ca1 ca2 ca3 ca4 ca5
            obtain ⟨HG2, hg2⟩ := HI2.out
            have BC2 := Aside0.mk HG2
            have cs0 : w2.cell? ⟨gC, 0, none⟩ = some (.string e2) := cellS40_0 HG2
            have cs1 : w2.cell? ⟨gC, 1, none⟩ = some (.int .i64 e3) := cellS40_1 HG2
            have cs2 : w2.cell? ⟨gC, 2, none⟩ = some (.int .i64 e4) := cellS40_2 HG2
            have fs0 := blk_frozen HG2 0
            have fs1 := blk_frozen HG2 1
            have fs2 := blk_frozen HG2 2
            have cf0 : w2.cell? ⟨gF, 0, none⟩ = some (.int .i64 0) := (blk_cell BF2.out 0).trans rfl
            have cf1 : w2.cell? ⟨gF, 1, none⟩ = some (.int .i64 0) := (blk_cell BF2.out 1).trans rfl
            have ff0 := blk_frozen BF2.out 0
            have ff1 := blk_frozen BF2.out 1
            have ct0 : w2.cell? ⟨w1.heap.size, 0, none⟩ = some (.int .u8 0) := (blk_cell BT2.out 0).trans rfl
            have ct1 : w2.cell? ⟨w1.heap.size, 1, none⟩ = some (.int .i64 b2) := (blk_cell BT2.out 1).trans rfl
            have ct2 : w2.cell? ⟨w1.heap.size, 2, none⟩ = some (.int .i64 0) := (blk_cell BT2.out 2).trans rfl
            have ft0 := blk_frozen BT2.out 0
            have ft1 := blk_frozen BT2.out 1
            have ft2 := blk_frozen BT2.out 2
            have hlC2 := blk_lt HG2
            have hlF2 := blk_lt BF2.out
            have hlT2 := blk_lt BT2.out
            have hlC3 := Nat.lt_succ_of_lt hlC2
            have hlF3 := Nat.lt_succ_of_lt hlF2
            have hlT3 := Nat.lt_succ_of_lt hlT2
            clear HG2 hg2 hltC hltF hltA
            replace H := H.out
            by_cases z1 : e1 = 0
            · rw [if_pos z1] at H
              subst z1
              simp only [Option.some.injEq, Prod.mk.injEq] at H
              have h1_ := H.1
              have h2_ := H.2.1
              have h3_ := H.2.2
              clear H
              subst h1_
              subst h2_
              subst h3_
              have g0 : decide (0 ≤ b2) = true := decide_eq_true (of_eq_true d1)
              go_wp2_with fail
              rw [rounds_succ]
              go_wp2_with fail
              go_region
              all_goals (go_wp2_with fail)
              all_goals refine bodyPost_ret (results_tc rfl _ _ gF 26 #[.int .i64 120, .int .i64 b2] (0, 0) _ rfl (by repeat (first | (with_reducible exact BF2.out) | (with_reducible apply blk_drewN) | (with_reducible apply blk_drew) | (with_reducible apply blk_alloc) | (with_reducible apply blk_put) | (apply blk_far (hp := hFC)) | (apply blk_far (hp := hFT)) | exact rfl)) Try.underlying26 rfl (by kernel_rfl)) rfl ?_
              all_goals exact ⟨_, by first | rfl | (simp; done), Kd.R_nil _ _ _ _ _, (by repeat (first | (with_reducible exact HB2.out) | (with_reducible apply below_alloc) | (with_reducible apply pw_below_drewN) | (with_reducible apply below_drew1) | (with_reducible refine below_set ?_ GF.out) | (with_reducible refine below_set ?_ GC.out) | (with_reducible refine below_set ?_ GT.out)))⟩
            · rw [if_neg z1] at H
              have z1b : (e1 == 0) = false := beq_eq_false_iff_ne.mpr z1
              clear z1
              by_cases z4 : e4 ≥ 0
              · rw [if_pos z4] at H
                have g0 : decide (0 ≤ e4) = true := decide_eq_true z4
                clear z4
                simp only [Option.some.injEq, Prod.mk.injEq] at H
                have h1_ := H.1
                have h2_ := H.2.1
                have h3_ := H.2.2
                clear H
                subst h1_
                subst h2_
                subst h3_
                go_wp2_with fail
                rw [rounds_succ]
                go_wp2_with fail
                go_region
                all_goals (go_wp2_with fail)
                all_goals refine bodyPost_ret (results_tc rfl _ _ gF 26 #[.int .i64 120, .int .i64 e4] (0, 0) _ rfl (by repeat (first | (with_reducible exact BF2.out) | (with_reducible apply blk_drewN) | (with_reducible apply blk_drew) | (with_reducible apply blk_alloc) | (with_reducible apply blk_put) | (apply blk_far (hp := hFC)) | (apply blk_far (hp := hFT)) | exact rfl)) Try.underlying26 rfl (by kernel_rfl)) rfl ?_
                all_goals exact ⟨_, by first | rfl | (simp; done), Kd.R_nil _ _ _ _ _, (by repeat (first | (with_reducible exact HB2.out) | (with_reducible apply below_alloc) | (with_reducible apply pw_below_drewN) | (with_reducible apply below_drew1) | (with_reducible refine below_set ?_ GF.out) | (with_reducible refine below_set ?_ GC.out) | (with_reducible refine below_set ?_ GT.out)))⟩
              · rw [if_neg z4] at H
                have g0 : decide (0 ≤ e4) = false := decide_eq_false z4
                clear z4
                have c3 : x.length < 5864062014805 := by
                  by_cases c : x.length < 5864062014805
                  · exact c
                  · rw [if_neg c] at H; exact absurd H (by simp)
                rw [if_pos c3] at H
                have LM := Aside0.mk c3
                clear c3
                have H' := Aside0.mk H
                clear H
                go_wp2_with fail
                rw [rounds_succ]
                (go_wp2_with (first | ((with_reducible refine gate_builtin (b := .append) (xs := #[.tmp 94, .tmp 96]) rfl ?_); at_builtin; refine Kd.R_append k35 (w0 := w) w.heap.size rfl (.tmp 94) (.tmp 96) 23 35 (.agg #[(.int .u8 0), (.int .i64 0), (.int .i64 0)]) 24 rfl Try.underlying23 info35 rfl (by decide) (by omega) u6 x (⟨e1, b2, e3⟩ : S35) [.int .u8 e1, .int .i64 b2, .int .i64 e3] (fun k_ => k_ ≠ gF ∧ k_ ≠ gC ∧ k_ ≠ gA) (fun _ => False) rfl (by first | (go_simp; done) | (go_simp; rfl)) ?aP (fun _ hk => hk.elim) ?aF ?aO ?aB ?aS ?aL ?_; (case aP => exact k35_mkM _ _ _ (⟨e1, b2, e3⟩ : S35)); (case aF => exact fun k_ hk_ => ⟨Kd.freshB (g := gF) (o := .cells #[.int .i64 0, .int .i64 0] 26 (0, 0)) (by repeat (first | (with_reducible exact BF2.out) | (with_reducible apply blk_drewN) | (with_reducible apply blk_drew) | (with_reducible apply blk_alloc) | (with_reducible apply blk_put) | (apply blk_far (hp := hFC)) | (apply blk_far (hp := hFT)) | exact rfl)) k_ hk_, Kd.freshB (g := gC) (o := .cells #[.string e2, .int .i64 e3, .int .i64 e4] 40 (0, 0)) (by repeat (first | (with_reducible exact BC2.out) | (with_reducible apply blk_drewN) | (with_reducible apply blk_drew) | (with_reducible apply blk_alloc) | (with_reducible apply blk_put) | (apply blk_far (hp := hCT)) | exact rfl)) k_ hk_, Kd.freshB (g := gA) (o := .cells #[.int .i64 2, .func (Fn.func 17) #[.pointer (some ⟨gC, 0, none⟩)] #[], .int .i64 3, .func (Fn.func 18) #[.pointer (some ⟨gC, 0, none⟩)] #[], .int .i64 4, .func (Fn.func 19) #[.pointer (some ⟨gC, 0, none⟩)] #[]] 44 (0, 0)) (by repeat (first | (with_reducible exact BA2.out) | (with_reducible apply blk_drewN) | (with_reducible apply blk_drew) | (with_reducible apply blk_alloc) | (with_reducible apply blk_put) | (apply blk_far (hp := hAC)) | (apply blk_far (hp := hAT)) | exact rfl)) k_ hk_⟩); (case aO => exact Kd.R_mono (ok := (fun k_ => (k_ ≠ gF ∧ k_ ≠ gC ∧ k_ ≠ gA) ∧ k_ ≠ w1.heap.size)) (by repeat (first | (with_reducible exact HO2.out) | (with_reducible apply Kd.R_alloc) | (with_reducible apply Kd.R_drewN) | (with_reducible apply Kd.R_drew) | (refine Kd.R_far ?_ (fun _ hk => hk.2) _))) (fun _ h_ => h_.1)); (case aB => exact (by repeat (first | (with_reducible exact HB2.out) | (with_reducible apply below_alloc) | (with_reducible apply pw_below_drewN) | (with_reducible apply below_drew1) | (with_reducible refine below_set ?_ GF.out) | (with_reducible refine below_set ?_ GC.out) | (with_reducible refine below_set ?_ GT.out)))); (case aS => exact below_size (by repeat (first | (with_reducible exact HB2.out) | (with_reducible apply below_alloc) | (with_reducible apply pw_below_drewN) | (with_reducible apply below_drew1) | (with_reducible refine below_set ?_ GF.out) | (with_reducible refine below_set ?_ GC.out) | (with_reducible refine below_set ?_ GT.out)))); (case aL => have := LM.out; omega); intro vn wn ho hb hg hat; have BFn := Aside0.mk (blk_grown (g := gF) (o := .cells #[.int .i64 0, .int .i64 0] 26 (0, 0)) (by repeat (first | (with_reducible exact BF2.out) | (with_reducible apply blk_drewN) | (with_reducible apply blk_drew) | (with_reducible apply blk_alloc) | (with_reducible apply blk_put) | (apply blk_far (hp := hFC)) | (apply blk_far (hp := hFT)) | exact rfl)) hg (Kd.R_away HO2.out (fun _ h_ => h_.1.1))); have BAn := Aside0.mk (blk_grown (g := gA) (o := .cells #[.int .i64 2, .func (Fn.func 17) #[.pointer (some ⟨gC, 0, none⟩)] #[], .int .i64 3, .func (Fn.func 18) #[.pointer (some ⟨gC, 0, none⟩)] #[], .int .i64 4, .func (Fn.func 19) #[.pointer (some ⟨gC, 0, none⟩)] #[]] 44 (0, 0)) (by repeat (first | (with_reducible exact BA2.out) | (with_reducible apply blk_drewN) | (with_reducible apply blk_drew) | (with_reducible apply blk_alloc) | (with_reducible apply blk_put) | (apply blk_far (hp := hAC)) | (apply blk_far (hp := hAT)) | exact rfl)) hg (Kd.R_away HO2.out (fun _ h_ => h_.1.2.2))); have BCn := Aside0.mk (blk_grown (g := gC) (o := .cells #[.string e2, .int .i64 e3, .int .i64 e4] 40 (0, 0)) (by repeat (first | (with_reducible exact BC2.out) | (with_reducible apply blk_drewN) | (with_reducible apply blk_drew) | (with_reducible apply blk_alloc) | (with_reducible apply blk_put) | (apply blk_far (hp := hCT)) | exact rfl)) hg (Kd.R_away HO2.out (fun _ h_ => h_.1.2.1))); have HOn := Aside0.mk ho; have HBn := Aside0.mk hb; clear ho hb hg hat)))
                go_roundg k1
                case measure => have := HK1.out; omega
                case rel => exact ⟨e2, e3, e4, _, H', ⟨by have := HK1.out; omega⟩, ⟨by repeat (first | (with_reducible exact HOn.out) | (with_reducible apply Kd.R_drewN) | (with_reducible apply Kd.R_drew))⟩, ⟨by repeat (first | (with_reducible exact BCn.out) | (with_reducible apply blk_drewN) | (with_reducible apply blk_drew)), GC.out⟩, ⟨by repeat (first | (with_reducible exact BFn.out) | (with_reducible apply blk_drewN) | (with_reducible apply blk_drew))⟩, ⟨by repeat (first | (with_reducible exact BAn.out) | (with_reducible apply blk_drewN) | (with_reducible apply blk_drew))⟩, ⟨by repeat (first | (with_reducible exact HBn.out) | (with_reducible apply pw_below_drewN) | (with_reducible apply below_drew1))⟩⟩
          rw [if_neg o4] at A3
          simp only [Option.some.injEq, Prod.mk.injEq] at A3
          obtain ⟨rfl, rfl, rfl, rfl⟩ := A3
          replace H := H.out
          rw [if_pos rfl] at H
          simp only [Option.some.injEq, Prod.mk.injEq] at H
          have h1_ := H.1
          have h2_ := H.2.1
          have h3_ := H.2.2
          clear H
          subst h1_
          subst h2_
          subst h3_
          have g0 : decide (0 ≤ b2) = true := decide_eq_true (of_eq_true d1)
          have o2b : (o == 2) = false := beq_eq_false_iff_ne.mpr o2
          have o3b : (o == 3) = false := beq_eq_false_iff_ne.mpr o3
          have o4b : (o == 4) = false := beq_eq_false_iff_ne.mpr o4
          clear o2 o3 o4
          have mC1 := Nat.lt_succ_of_lt hltC
          have mC2 := Nat.lt_succ_of_lt mC1
          have mC3 := Nat.lt_succ_of_lt mC2
          have mC4 := Nat.lt_succ_of_lt mC3
          have mF1 := Nat.lt_succ_of_lt hltF
          have mF2 := Nat.lt_succ_of_lt mF1
          have mF3 := Nat.lt_succ_of_lt mF2
          have mF4 := Nat.lt_succ_of_lt mF3
          have mT1 := Nat.lt_succ_self w1.heap.size
          have mT2 := Nat.lt_succ_of_lt mT1
          have mT3 := Nat.lt_succ_of_lt mT2
          have mT4 := Nat.lt_succ_of_lt mT3
          refine wp_loop_rounds 4 ?_
          rw [rounds_succ]
          go_wp2_with fail
          go_quiet ((go_at_call 21; ((with_reducible refine (token_of.calls k1 (bt a0 b2) o _ A2.out).mono ?_)); rintro e w' ⟨rfl, ⟨nd, rfl⟩⟩; (try first | exact ⟨rfl, _, World.drewN_drewN _ _ _⟩ | exact ⟨rfl, _, Eq.trans (World.drewN_drewN _ _ _) (congrArg (World.drewN _) (Nat.add_assoc _ _ _))⟩)))
          go_wp2_with fail
          rw [rounds_succ]
          go_wp2_with fail
          go_quiet ((go_at_call 21; ((with_reducible refine (token_of.calls k1 (bt a0 b2) o _ A2.out).mono ?_)); rintro e w' ⟨rfl, ⟨nd, rfl⟩⟩; (try first | exact ⟨rfl, _, World.drewN_drewN _ _ _⟩ | exact ⟨rfl, _, Eq.trans (World.drewN_drewN _ _ _) (congrArg (World.drewN _) (Nat.add_assoc _ _ _))⟩)))
          go_wp2_with fail
          rw [rounds_succ]
          go_wp2_with fail
          go_quiet ((go_at_call 21; ((with_reducible refine (token_of.calls k1 (bt a0 b2) o _ A2.out).mono ?_)); rintro e w' ⟨rfl, ⟨nd, rfl⟩⟩; (try first | exact ⟨rfl, _, World.drewN_drewN _ _ _⟩ | exact ⟨rfl, _, Eq.trans (World.drewN_drewN _ _ _) (congrArg (World.drewN _) (Nat.add_assoc _ _ _))⟩)))
          go_wp2_with fail
          rw [rounds_succ]
          go_wp2_with fail
          go_region
          all_goals (go_wp2_with fail)
          all_goals refine bodyPost_ret (results_tc rfl _ _ gF 26 #[.int .i64 120, .int .i64 b2] (0, 0) _ rfl (by repeat (first | (with_reducible exact BF1.out) | (with_reducible apply blk_drewN) | (with_reducible apply blk_drew) | (with_reducible apply blk_alloc) | (with_reducible apply blk_put) | (apply blk_far (hp := hFC)) | (apply blk_far (hp := hFT)) | exact rfl)) Try.underlying26 rfl (by kernel_rfl)) rfl ?_
          all_goals exact ⟨_, by first | rfl | (simp; done), Kd.R_nil _ _ _ _ _, (by repeat (first | (with_reducible exact HB1.out) | (with_reducible apply below_alloc) | (with_reducible apply pw_below_drewN) | (with_reducible apply below_drew1) | (with_reducible refine below_set ?_ GF.out) | (with_reducible refine below_set ?_ GC.out) | (with_reducible refine below_set ?_ GT.out)))⟩

end Go.Proofs.Ytimnlnkjogbjfaa.X
