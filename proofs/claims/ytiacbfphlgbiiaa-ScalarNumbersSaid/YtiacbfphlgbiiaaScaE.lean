/- Functions of this seat, each with a plain function that gives the same answers (lines written by a program of this session's; no condition beyond those stated). -/
import Derived.Test.YtiacbfphlgbiiaaScaA
namespace Go.Eng.Sca
open Go Go.Eng
set_option linter.unusedVariables false
set_option linter.unusedSimpArgs false
set_option maxRecDepth 20000
set_option maxHeartbeats 4000000

/- smithy/smithyref01.isNaN -/
def f37 (x0 : Int) : Bool :=
(flO (some x0.toNat) (some x0.toNat) != some .eq)
theorem w37 (x0 : Int) (H : Heap) : Fn T 37 [.int .u64 x0] H (fun r h => r = .bool (f37 x0) ∧ h = H) := by
  refine Fn.enter t37 ?_; simp only [i37, List.length_cons, List.length_nil, Nat.reduceAdd, Nat.reduceSub, List.replicate_succ, List.replicate_zero, List.cons_append, List.nil_append]
  refine Run.seq ?_
  refine Run.rgn ?_
  refine RunO.all ?_
  simp only [i37r0, SB, x_mov]
  show Run T _ _ _ _
  refine Run.seq ?_
  refine Run.rgn ?_
  refine RunO.all ?_
  simp only [i37r1, SB, x_mov, x_xc, xc_word, xc_from, xc_trunc, wordV_some]
  show Run T _ _ _ _
  refine Run.seq ?_
  refine Run.rgn ?_
  refine RunO.all ?_
  simp only [i37r2, SB, x_fbin, fbinV, x_mov]
  show Run T _ _ _ _
  refine Run.ret ⟨?_, rfl⟩
  first | (rw [f37]; rfl) | (rw [f37]; simp only [resV, ev_t, List.getD_cons_zero, List.getD_cons_succ, List.map_cons, List.map_nil]; done) | (simp only [f37, if_true, Bool.false_eq_true, if_false]; rfl)
theorem c37 (x0 : Int) (H : Heap) : PC T H 37 [.int .u64 x0] (.bool (f37 x0)) := PC.now rfl rfl (w37 x0 )

/- smithy/smithyref01.Cut -/
def f14 (x0 : Int) (x1 : Int) : Int :=
if (x0 == (1 : Int)) then
  (x1.tmod (2 : Int))
else
  if (x0 == (2 : Int)) then
    (x1.tmod (256 : Int))
  else
    if (x0 == (3 : Int)) then
      if (decide ((x1.tmod (4294967296 : Int)) ≥ (2147483648 : Int))) then
        (IntKind.u64.wrap ((x1.tmod (4294967296 : Int)) + (18446744069414584320 : Int)))
      else
        (x1.tmod (4294967296 : Int))
    else
      if (x0 == (4 : Int)) then
        x1
      else
        if (x0 == (5 : Int)) then
          if (f37 x1) then
            (9221120237041090560 : Int)
          else
            x1
        else
          (0 : Int)
theorem w14 (x0 : Int) (x1 : Int) (H : Heap) : Fn T 14 [.int .u8 x0, .int .u64 x1] H (fun r h => r = .int .u64 (f14 x0 x1) ∧ h = H) := by
  refine Fn.enter t14 ?_; simp only [i14, List.length_cons, List.length_nil, Nat.reduceAdd, Nat.reduceSub, List.replicate_succ, List.replicate_zero, List.cons_append, List.nil_append]
  refine Run.seq ?_
  refine Run.rgn ?_
  refine RunO.all ?_
  simp only [i14r0, SB, x_mov]
  show Run T _ _ _ _
  refine Run.seq ?_
  refine Run.seq ?_
  refine Run.rgn ?_
  refine RunO.all ?_
  simp only [i14r1, SB, x_mov]
  show Run T _ _ _ _
  refine Run.block ?_
  refine Run.seq ?_
  refine Run.rgn ?_
  refine RunO.all ?_
  simp only [i14r2, SB, x_bin, binV, intB, x_mov, if_true, reduceCtorEq, not_false_eq_true]
  show Run T _ _ _ _
  refine Run.ite (by rfl) (fun h0 => ?_) (fun h0 => ?_)
  ·
   refine Run.seq ?_
   refine Run.rgn ?_
   refine RunO.all ?_
   simp only [i14r3, SB, x_bin, binV, intB, x_mov, if_true, reduceCtorEq, not_false_eq_true, h0, if_neg (show ¬ ((2 : Int) = 0) by decide)]
   show Run T _ _ _ _
   refine Run.ret ⟨?_, rfl⟩
   first | (rw [f14, ite_t h0]; rfl) | (rw [f14, ite_t h0]; simp only [resV, ev_t, List.getD_cons_zero, List.getD_cons_succ, List.map_cons, List.map_nil, h0]; done) | (simp only [f14, if_true, Bool.false_eq_true, if_false, h0]; rfl)
  ·
   refine Run.seq ?_
   refine Run.rgn ?_
   refine RunO.all ?_
   simp only [i14r5, SB, x_bin, binV, intB, x_mov, if_true, reduceCtorEq, not_false_eq_true, h0]
   show Run T _ _ _ _
   refine Run.ite (by rfl) (fun h1 => ?_) (fun h1 => ?_)
   ·
    refine Run.seq ?_
    refine Run.rgn ?_
    refine RunO.all ?_
    simp only [i14r6, SB, x_bin, binV, intB, x_mov, if_true, reduceCtorEq, not_false_eq_true, h0, h1, if_neg (show ¬ ((256 : Int) = 0) by decide)]
    show Run T _ _ _ _
    refine Run.ret ⟨?_, rfl⟩
    first | (rw [f14, ite_f h0, ite_t h1]; rfl) | (rw [f14, ite_f h0, ite_t h1]; simp only [resV, ev_t, List.getD_cons_zero, List.getD_cons_succ, List.map_cons, List.map_nil, h0, h1]; done) | (simp only [f14, if_true, Bool.false_eq_true, if_false, h0, h1]; rfl)
   ·
    refine Run.seq ?_
    refine Run.rgn ?_
    refine RunO.all ?_
    simp only [i14r8, SB, x_bin, binV, intB, x_mov, if_true, reduceCtorEq, not_false_eq_true, h0, h1]
    show Run T _ _ _ _
    refine Run.ite (by rfl) (fun h2 => ?_) (fun h2 => ?_)
    ·
     refine Run.seq ?_
     refine Run.rgn ?_
     refine RunO.all ?_
     simp only [i14r9, SB, x_bin, binV, intB, x_mov, if_true, reduceCtorEq, not_false_eq_true, h0, h1, h2, if_neg (show ¬ ((4294967296 : Int) = 0) by decide)]
     show Run T _ _ _ _
     refine Run.seq ?_
     refine Run.seq ?_
     refine Run.rgn ?_
     refine RunO.all ?_
     simp only [i14r10, SB, x_bin, binV, intB, x_mov, if_true, reduceCtorEq, not_false_eq_true, h0, h1, h2]
     show Run T _ _ _ _
     refine Run.ite (by rfl) (fun h3 => ?_) (fun h3 => ?_)
     ·
      refine Run.rgn ?_
      refine RunO.all ?_
      simp only [i14r11, SB, x_bin, binV, intB, x_mov, if_true, reduceCtorEq, not_false_eq_true, h0, h1, h2, h3]
      show Run T _ _ _ _
      refine Run.seq ?_
      refine Run.rgn ?_
      refine RunO.all ?_
      simp only [i14r14, SB, x_mov, h0, h1, h2, h3]
      show Run T _ _ _ _
      refine Run.ret ⟨?_, rfl⟩
      first | (rw [f14, ite_f h0, ite_f h1, ite_t h2, ite_t h3]; rfl) | (rw [f14, ite_f h0, ite_f h1, ite_t h2, ite_t h3]; simp only [resV, ev_t, List.getD_cons_zero, List.getD_cons_succ, List.map_cons, List.map_nil, h0, h1, h2, h3]; done) | (simp only [f14, if_true, Bool.false_eq_true, if_false, h0, h1, h2, h3]; rfl)
     ·
      refine Run.skip ?_
      show Run T _ _ _ _
      refine Run.seq ?_
      refine Run.rgn ?_
      refine RunO.all ?_
      simp only [i14r14, SB, x_mov, h0, h1, h2, h3]
      show Run T _ _ _ _
      refine Run.ret ⟨?_, rfl⟩
      first | (rw [f14, ite_f h0, ite_f h1, ite_t h2, ite_f h3]; rfl) | (rw [f14, ite_f h0, ite_f h1, ite_t h2, ite_f h3]; simp only [resV, ev_t, List.getD_cons_zero, List.getD_cons_succ, List.map_cons, List.map_nil, h0, h1, h2, h3]; done) | (simp only [f14, if_true, Bool.false_eq_true, if_false, h0, h1, h2, h3]; rfl)
    ·
     refine Run.seq ?_
     refine Run.rgn ?_
     refine RunO.all ?_
     simp only [i14r18, SB, x_bin, binV, intB, x_mov, if_true, reduceCtorEq, not_false_eq_true, h0, h1, h2]
     show Run T _ _ _ _
     refine Run.ite (by rfl) (fun h4 => ?_) (fun h4 => ?_)
     ·
      refine Run.seq ?_
      refine Run.rgn ?_
      refine RunO.all ?_
      simp only [i14r19, SB, x_mov, h0, h1, h2, h4]
      show Run T _ _ _ _
      refine Run.ret ⟨?_, rfl⟩
      first | (rw [f14, ite_f h0, ite_f h1, ite_f h2, ite_t h4]; rfl) | (rw [f14, ite_f h0, ite_f h1, ite_f h2, ite_t h4]; simp only [resV, ev_t, List.getD_cons_zero, List.getD_cons_succ, List.map_cons, List.map_nil, h0, h1, h2, h4]; done) | (simp only [f14, if_true, Bool.false_eq_true, if_false, h0, h1, h2, h4]; rfl)
     ·
      refine Run.seq ?_
      refine Run.rgn ?_
      refine RunO.all ?_
      simp only [i14r21, SB, x_bin, binV, intB, x_mov, if_true, reduceCtorEq, not_false_eq_true, h0, h1, h2, h4]
      show Run T _ _ _ _
      refine Run.ite (by rfl) (fun h5 => ?_) (fun h5 => ?_)
      ·
       refine Run.seq ?_
       refine Run.seq ?_
       refine Run.rgn ?_
       refine RunO.pre 1 ?_
       simp only [i14r22, List.take_succ_cons, List.take_zero, List.drop_succ_cons, List.drop_zero, SB, x_mov, h0, h1, h2, h4, h5]
       refine RunO.c (c37 x1 _) ?_
       refine RunO.all ?_
       simp only [SB, h0, h1, h2, h4, h5]
       show Run T _ _ _ _
       refine Run.ite (by rfl) (fun h6 => ?_) (fun h6 => ?_)
       ·
        refine Run.seq ?_
        refine Run.rgn ?_
        refine RunO.all ?_
        simp only [i14r23, SB, x_mov, h0, h1, h2, h4, h5, h6]
        show Run T _ _ _ _
        refine Run.ret ⟨?_, rfl⟩
        first | (rw [f14, ite_f h0, ite_f h1, ite_f h2, ite_f h4, ite_t h5, ite_t h6]; rfl) | (rw [f14, ite_f h0, ite_f h1, ite_f h2, ite_f h4, ite_t h5, ite_t h6]; simp only [resV, ev_t, List.getD_cons_zero, List.getD_cons_succ, List.map_cons, List.map_nil, h0, h1, h2, h4, h5, h6]; done) | (simp only [f14, if_true, Bool.false_eq_true, if_false, h0, h1, h2, h4, h5, h6]; rfl)
       ·
        refine Run.skip ?_
        show Run T _ _ _ _
        refine Run.seq ?_
        refine Run.rgn ?_
        refine RunO.all ?_
        simp only [i14r27, SB, x_mov, h0, h1, h2, h4, h5, h6]
        show Run T _ _ _ _
        refine Run.ret ⟨?_, rfl⟩
        first | (rw [f14, ite_f h0, ite_f h1, ite_f h2, ite_f h4, ite_t h5, ite_f h6]; rfl) | (rw [f14, ite_f h0, ite_f h1, ite_f h2, ite_f h4, ite_t h5, ite_f h6]; simp only [resV, ev_t, List.getD_cons_zero, List.getD_cons_succ, List.map_cons, List.map_nil, h0, h1, h2, h4, h5, h6]; done) | (simp only [f14, if_true, Bool.false_eq_true, if_false, h0, h1, h2, h4, h5, h6]; rfl)
      ·
       refine Run.skip ?_
       show Run T _ _ _ _
       refine Run.seq ?_
       refine Run.rgn ?_
       refine RunO.all ?_
       simp only [i14r42, SB, x_mov, h0, h1, h2, h4, h5]
       show Run T _ _ _ _
       refine Run.ret ⟨?_, rfl⟩
       first | (rw [f14, ite_f h0, ite_f h1, ite_f h2, ite_f h4, ite_f h5]; rfl) | (rw [f14, ite_f h0, ite_f h1, ite_f h2, ite_f h4, ite_f h5]; simp only [resV, ev_t, List.getD_cons_zero, List.getD_cons_succ, List.map_cons, List.map_nil, h0, h1, h2, h4, h5]; done) | (simp only [f14, if_true, Bool.false_eq_true, if_false, h0, h1, h2, h4, h5]; rfl)
theorem c14 (x0 : Int) (x1 : Int) (H : Heap) : PC T H 14 [.int .u8 x0, .int .u64 x1] (.int .u64 (f14 x0 x1)) := PC.now rfl rfl (w14 x0 x1 )

/-- the bits of a float that may be none that is known, cut -/
def canon14 (x : Option Nat) : Int := match x with | some b => f14 5 (b : Int) | none => 9221120237041090560
theorem c14w (x : Option Nat) (H : Heap) : PC T H 14 [.int .u8 (5 : Int), wordV x] (.int .u64 (canon14 x)) := by
  cases x with
  | some b => exact c14 5 (b : Int) H
  | none => exact PC.of rfl ⟨60, .int .u64 9221120237041090560, [], by kernel_rfl, rfl⟩

/- smithy/smithyref01.Right -/
def f12 (x0 : Int) (x1 : Int) : Bool :=
if (decide (x0 ≥ (1 : Int))) then
  if (decide (x0 ≤ (5 : Int))) then
    ((f14 x0 x1) == x1)
  else
    false
else
  false
theorem w12 (x0 : Int) (x1 : Int) (H : Heap) : Fn T 12 [.int .u8 x0, .int .u64 x1] H (fun r h => r = .bool (f12 x0 x1) ∧ h = H) := by
  refine Fn.enter t12 ?_; simp only [i12, List.length_cons, List.length_nil, Nat.reduceAdd, Nat.reduceSub, List.replicate_succ, List.replicate_zero, List.cons_append, List.nil_append]
  refine Run.seq ?_
  refine Run.rgn ?_
  refine RunO.all ?_
  simp only [i12r0, SB, x_mov]
  show Run T _ _ _ _
  refine Run.seq ?_
  refine Run.rgn ?_
  refine RunO.pre 3 ?_
  simp only [i12r1, List.take_succ_cons, List.take_zero, List.drop_succ_cons, List.drop_zero, SB, x_bin, binV, intB, x_mov, if_true, reduceCtorEq, not_false_eq_true]
  rcases Bool.eq_false_or_eq_true (decide (x0 ≥ (1 : Int))) with h0 | h0
  ·
   refine RunO.pre 4 ?_
   simp only [List.drop_zero, List.take_succ_cons, List.take_zero, List.drop_succ_cons, List.drop_zero, SB, x_bin, binV, intB, x_mov, x_pick, if_true, if_false, Bool.false_eq_true, if_true, reduceCtorEq, not_false_eq_true, exOp_gt, exOp_gf, exOp_gf2, exOp_gs, h0]
   rcases Bool.eq_false_or_eq_true (decide (x0 ≤ (5 : Int))) with h1 | h1
   ·
    refine RunO.pre 2 ?_
    simp only [List.drop_zero, List.take_succ_cons, List.take_zero, List.drop_succ_cons, List.drop_zero, SB, x_mov, exOp_gt, exOp_gf, exOp_gf2, exOp_gs, h0, h1]
    refine RunO.cg (by rfl) (c14 x0 x1 _) ?_
    refine RunO.all ?_
    simp only [SB, x_bin, binV, intB, x_mov, x_pick, if_true, if_false, Bool.false_eq_true, if_true, reduceCtorEq, not_false_eq_true, exOp_gt, exOp_gf, exOp_gf2, exOp_gs, h0, h1]
    show Run T _ _ _ _
    refine Run.ret ⟨?_, rfl⟩
    first | (rw [f12, ite_t h0, ite_t h1]; rfl) | (rw [f12, ite_t h0, ite_t h1]; simp only [resV, ev_t, List.getD_cons_zero, List.getD_cons_succ, List.map_cons, List.map_nil, h0, h1]; done) | (simp only [f12, if_true, Bool.false_eq_true, if_false, h0, h1]; rfl)
   ·
    refine RunO.pre 2 ?_
    simp only [List.drop_zero, List.take_succ_cons, List.take_zero, List.drop_succ_cons, List.drop_zero, SB, x_mov, exOp_gt, exOp_gf, exOp_gf2, exOp_gs, h0, h1]
    refine RunO.cs (b := false) (by rfl) (by decide) ?_
    refine RunO.all ?_
    simp only [SB, x_bin, binV, intB, x_mov, x_pick, if_true, if_false, Bool.false_eq_true, if_true, reduceCtorEq, not_false_eq_true, exOp_gt, exOp_gf, exOp_gf2, exOp_gs, h0, h1]
    show Run T _ _ _ _
    refine Run.ret ⟨?_, rfl⟩
    first | (rw [f12, ite_t h0, ite_f h1]; rfl) | (rw [f12, ite_t h0, ite_f h1]; simp only [resV, ev_t, List.getD_cons_zero, List.getD_cons_succ, List.map_cons, List.map_nil, h0, h1]; done) | (simp only [f12, if_true, Bool.false_eq_true, if_false, h0, h1]; rfl)
  ·
   refine RunO.pre 6 ?_
   simp only [List.drop_zero, List.take_succ_cons, List.take_zero, List.drop_succ_cons, List.drop_zero, SB, x_bin, binV, intB, x_mov, x_pick, if_true, if_false, Bool.false_eq_true, if_true, reduceCtorEq, not_false_eq_true, exOp_gt, exOp_gf, exOp_gf2, exOp_gs, h0]
   refine RunO.cs (b := false) (by rfl) (by decide) ?_
   refine RunO.all ?_
   simp only [SB, x_bin, binV, intB, x_mov, x_pick, if_true, if_false, Bool.false_eq_true, if_true, reduceCtorEq, not_false_eq_true, exOp_gt, exOp_gf, exOp_gf2, exOp_gs, h0]
   show Run T _ _ _ _
   refine Run.ret ⟨?_, rfl⟩
   first | (rw [f12, ite_f h0]; rfl) | (rw [f12, ite_f h0]; simp only [resV, ev_t, List.getD_cons_zero, List.getD_cons_succ, List.map_cons, List.map_nil, h0]; done) | (simp only [f12, if_true, Bool.false_eq_true, if_false, h0]; rfl)
theorem c12 (x0 : Int) (x1 : Int) (H : Heap) : PC T H 12 [.int .u8 x0, .int .u64 x1] (.bool (f12 x0 x1)) := PC.now rfl rfl (w12 x0 x1 )

/- smithy/smithyref01.Whole -/
def f39 (x0 : Int) : Bool :=
if (x0 == (2 : Int)) then
  true
else
  if (x0 == (3 : Int)) then
    true
  else
    (x0 == (4 : Int))
theorem w39 (x0 : Int) (H : Heap) : Fn T 39 [.int .u8 x0] H (fun r h => r = .bool (f39 x0) ∧ h = H) := by
  refine Fn.enter t39 ?_; simp only [i39, List.length_cons, List.length_nil, Nat.reduceAdd, Nat.reduceSub, List.replicate_succ, List.replicate_zero, List.cons_append, List.nil_append]
  refine Run.seq ?_
  refine Run.rgn ?_
  refine RunO.all ?_
  simp only [i39r0, SB, x_mov]
  show Run T _ _ _ _
  refine Run.seq ?_
  refine Run.rgn ?_
  refine RunO.pre 3 ?_
  simp only [i39r1, List.take_succ_cons, List.take_zero, List.drop_succ_cons, List.drop_zero, SB, x_bin, binV, intB, x_mov, if_true, reduceCtorEq, not_false_eq_true]
  rcases Bool.eq_false_or_eq_true (x0 == (2 : Int)) with h0 | h0
  ·
   refine RunO.all ?_
   simp only [List.drop_zero, SB, x_bin, binV, intB, x_mov, x_pick, if_true, if_false, Bool.false_eq_true, if_true, reduceCtorEq, not_false_eq_true, exOp_gt, exOp_gf, exOp_gf2, exOp_gs, h0]
   show Run T _ _ _ _
   refine Run.ret ⟨?_, rfl⟩
   first | (rw [f39, ite_t h0]; rfl) | (rw [f39, ite_t h0]; simp only [resV, ev_t, List.getD_cons_zero, List.getD_cons_succ, List.map_cons, List.map_nil, h0]; done) | (simp only [f39, if_true, Bool.false_eq_true, if_false, h0]; rfl)
  ·
   refine RunO.pre 4 ?_
   simp only [List.drop_zero, List.take_succ_cons, List.take_zero, List.drop_succ_cons, List.drop_zero, SB, x_bin, binV, intB, x_mov, x_pick, if_true, if_false, Bool.false_eq_true, if_true, reduceCtorEq, not_false_eq_true, exOp_gt, exOp_gf, exOp_gf2, exOp_gs, h0]
   rcases Bool.eq_false_or_eq_true (x0 == (3 : Int)) with h1 | h1
   ·
    refine RunO.all ?_
    simp only [List.drop_zero, SB, x_bin, binV, intB, x_mov, x_pick, if_true, if_false, Bool.false_eq_true, if_true, reduceCtorEq, not_false_eq_true, exOp_gt, exOp_gf, exOp_gf2, exOp_gs, h0, h1]
    show Run T _ _ _ _
    refine Run.ret ⟨?_, rfl⟩
    first | (rw [f39, ite_f h0, ite_t h1]; rfl) | (rw [f39, ite_f h0, ite_t h1]; simp only [resV, ev_t, List.getD_cons_zero, List.getD_cons_succ, List.map_cons, List.map_nil, h0, h1]; done) | (simp only [f39, if_true, Bool.false_eq_true, if_false, h0, h1]; rfl)
   ·
    refine RunO.all ?_
    simp only [List.drop_zero, SB, x_bin, binV, intB, x_mov, x_pick, if_true, if_false, Bool.false_eq_true, if_true, reduceCtorEq, not_false_eq_true, exOp_gt, exOp_gf, exOp_gf2, exOp_gs, h0, h1]
    show Run T _ _ _ _
    refine Run.ret ⟨?_, rfl⟩
    first | (rw [f39, ite_f h0, ite_f h1]; rfl) | (rw [f39, ite_f h0, ite_f h1]; simp only [resV, ev_t, List.getD_cons_zero, List.getD_cons_succ, List.map_cons, List.map_nil, h0, h1]; done) | (simp only [f39, if_true, Bool.false_eq_true, if_false, h0, h1]; rfl)
theorem c39 (x0 : Int) (H : Heap) : PC T H 39 [.int .u8 x0] (.bool (f39 x0)) := PC.now rfl rfl (w39 x0 )

/- smithy/smithyref01.Of -/
def f20 (x0 : Int) (x1 : Int) : Int × Bool :=
if (decide (x1 < (1 : Int))) then
  ((0 : Int), false)
else
  if (decide (x1 > (5 : Int))) then
    ((0 : Int), false)
  else
    if (x0 == (1 : Int)) then
      if (x1 != (1 : Int)) then
        (x1, true)
      else
        ((0 : Int), false)
    else
      if (x0 == (2 : Int)) then
        if (x1 != (1 : Int)) then
          (x1, true)
        else
          ((0 : Int), false)
      else
        if (x0 == (3 : Int)) then
          if (x1 != (1 : Int)) then
            (x1, true)
          else
            ((0 : Int), false)
        else
          if (x0 == (4 : Int)) then
            if (x1 != (1 : Int)) then
              (x1, true)
            else
              ((0 : Int), false)
          else
            if (x0 == (17 : Int)) then
              if (x1 != (1 : Int)) then
                (x1, true)
              else
                ((0 : Int), false)
            else
              if (x0 == (5 : Int)) then
                if (f39 x1) then
                  (x1, true)
                else
                  ((0 : Int), false)
              else
                if (x0 == (9 : Int)) then
                  if (f39 x1) then
                    (x1, true)
                  else
                    ((0 : Int), false)
                else
                  if (x0 == (10 : Int)) then
                    if (f39 x1) then
                      (x1, true)
                    else
                      ((0 : Int), false)
                  else
                    if (x0 == (6 : Int)) then
                      if (x1 != (5 : Int)) then
                        (x1, true)
                      else
                        ((0 : Int), false)
                    else
                      if (x0 == (7 : Int)) then
                        if (x1 != (5 : Int)) then
                          (x1, true)
                        else
                          ((0 : Int), false)
                      else
                        if (x0 == (8 : Int)) then
                          if (x1 != (5 : Int)) then
                            (x1, true)
                          else
                            ((0 : Int), false)
                        else
                          if (x0 == (18 : Int)) then
                            if (x1 != (5 : Int)) then
                              (x1, true)
                            else
                              ((0 : Int), false)
                          else
                            if (x0 == (11 : Int)) then
                              ((1 : Int), true)
                            else
                              if (x0 == (12 : Int)) then
                                ((1 : Int), true)
                              else
                                if (x0 == (13 : Int)) then
                                  if (x1 != (1 : Int)) then
                                    ((1 : Int), true)
                                  else
                                    ((0 : Int), false)
                                else
                                  if (x0 == (14 : Int)) then
                                    if (x1 != (1 : Int)) then
                                      ((1 : Int), true)
                                    else
                                      ((0 : Int), false)
                                  else
                                    if (x0 == (15 : Int)) then
                                      if (x1 != (1 : Int)) then
                                        ((1 : Int), true)
                                      else
                                        ((0 : Int), false)
                                    else
                                      if (x0 == (16 : Int)) then
                                        if (x1 != (1 : Int)) then
                                          ((1 : Int), true)
                                        else
                                          ((0 : Int), false)
                                      else
                                        ((0 : Int), false)
theorem w20 (x0 : Int) (x1 : Int) (H : Heap) : Fn T 20 [.int .u8 x0, .int .u8 x1] H (fun r h => r = .tup [.int .u8 (f20 x0 x1).1, .bool (f20 x0 x1).2] ∧ h = H) := by
  refine Fn.enter t20 ?_; simp only [i20, List.length_cons, List.length_nil, Nat.reduceAdd, Nat.reduceSub, List.replicate_succ, List.replicate_zero, List.cons_append, List.nil_append]
  refine Run.seq ?_
  refine Run.rgn ?_
  refine RunO.all ?_
  simp only [i20r0, SB, x_mov]
  show Run T _ _ _ _
  refine Run.seq ?_
  refine Run.seq ?_
  refine Run.rgn ?_
  refine RunO.pre 3 ?_
  simp only [i20r1, List.take_succ_cons, List.take_zero, List.drop_succ_cons, List.drop_zero, SB, x_bin, binV, intB, x_mov, if_true, reduceCtorEq, not_false_eq_true]
  rcases Bool.eq_false_or_eq_true (decide (x1 < (1 : Int))) with h0 | h0
  ·
   refine RunO.all ?_
   simp only [List.drop_zero, SB, x_bin, binV, intB, x_mov, x_pick, if_true, if_false, Bool.false_eq_true, if_true, reduceCtorEq, not_false_eq_true, exOp_gt, exOp_gf, exOp_gf2, exOp_gs, h0]
   show Run T _ _ _ _
   refine Run.ite (by rfl) (fun _ => ?_) (fun h => by first | exact absurd h (by decide) | (simp only [h0, reduceCtorEq, Bool.not_true, Bool.not_false, Bool.false_eq_true, Bool.true_eq_false] at h))
   refine Run.seq ?_
   refine Run.rgn ?_
   refine RunO.all ?_
   simp only [i20r2, SB, x_mov, h0]
   show Run T _ _ _ _
   refine Run.ret ⟨?_, rfl⟩
   first | (rw [f20, ite_t h0]; rfl) | (rw [f20, ite_t h0]; simp only [resV, ev_t, List.getD_cons_zero, List.getD_cons_succ, List.map_cons, List.map_nil, h0]; done) | (simp only [f20, if_true, Bool.false_eq_true, if_false, h0]; rfl)
  ·
   refine RunO.all ?_
   simp only [List.drop_zero, SB, x_bin, binV, intB, x_mov, x_pick, if_true, if_false, Bool.false_eq_true, if_true, reduceCtorEq, not_false_eq_true, exOp_gt, exOp_gf, exOp_gf2, exOp_gs, h0]
   show Run T _ _ _ _
   refine Run.ite (by rfl) (fun h1 => ?_) (fun h1 => ?_)
   ·
    refine Run.seq ?_
    refine Run.rgn ?_
    refine RunO.all ?_
    simp only [i20r2, SB, x_mov, h0, h1]
    show Run T _ _ _ _
    refine Run.ret ⟨?_, rfl⟩
    first | (rw [f20, ite_f h0, ite_t h1]; rfl) | (rw [f20, ite_f h0, ite_t h1]; simp only [resV, ev_t, List.getD_cons_zero, List.getD_cons_succ, List.map_cons, List.map_nil, h0, h1]; done) | (simp only [f20, if_true, Bool.false_eq_true, if_false, h0, h1]; rfl)
   ·
    refine Run.skip ?_
    show Run T _ _ _ _
    refine Run.seq ?_
    refine Run.seq ?_
    refine Run.rgn ?_
    refine RunO.all ?_
    simp only [i20r6, SB, x_mov, h0, h1]
    show Run T _ _ _ _
    refine Run.block ?_
    refine Run.seq ?_
    refine Run.seq ?_
    refine Run.rgn ?_
    refine RunO.all ?_
    simp only [i20r7, SB, x_bin, binV, intB, x_mov, if_true, reduceCtorEq, not_false_eq_true, h0, h1]
    show Run T _ _ _ _
    refine Run.ite (by rfl) (fun h2 => ?_) (fun h2 => ?_)
    ·
     refine Run.skip ?_
     show Run T _ _ _ _
     refine Run.ite (by rfl) (fun _ => ?_) (fun h => by first | exact absurd h (by decide) | (simp only [h0, h1, h2, reduceCtorEq, Bool.not_true, Bool.not_false, Bool.false_eq_true, Bool.true_eq_false] at h))
     refine Run.seq ?_
     refine Run.rgn ?_
     refine RunO.all ?_
     simp only [i20r20, SB, x_bin, binV, intB, x_mov, if_true, reduceCtorEq, not_false_eq_true, h0, h1, h2]
     show Run T _ _ _ _
     refine Run.ite (by rfl) (fun h3 => ?_) (fun h3 => ?_)
     ·
      refine Run.seq ?_
      refine Run.rgn ?_
      refine RunO.all ?_
      simp only [i20r21, SB, x_mov, h0, h1, h2, h3]
      show Run T _ _ _ _
      refine Run.ret ⟨?_, rfl⟩
      first | (rw [f20, ite_f h0, ite_f h1, ite_t h2, ite_t h3]; rfl) | (rw [f20, ite_f h0, ite_f h1, ite_t h2, ite_t h3]; simp only [resV, ev_t, List.getD_cons_zero, List.getD_cons_succ, List.map_cons, List.map_nil, h0, h1, h2, h3]; done) | (simp only [f20, if_true, Bool.false_eq_true, if_false, h0, h1, h2, h3]; rfl)
     ·
      refine Run.skip ?_
      show Run T _ _ _ _
      refine Run.seq ?_
      refine Run.rgn ?_
      refine RunO.all ?_
      simp only [i20r85, SB, x_mov, h0, h1, h2, h3]
      show Run T _ _ _ _
      refine Run.ret ⟨?_, rfl⟩
      first | (rw [f20, ite_f h0, ite_f h1, ite_t h2, ite_f h3]; rfl) | (rw [f20, ite_f h0, ite_f h1, ite_t h2, ite_f h3]; simp only [resV, ev_t, List.getD_cons_zero, List.getD_cons_succ, List.map_cons, List.map_nil, h0, h1, h2, h3]; done) | (simp only [f20, if_true, Bool.false_eq_true, if_false, h0, h1, h2, h3]; rfl)
    ·
     refine Run.seq ?_
     refine Run.rgn ?_
     refine RunO.all ?_
     simp only [i20r8, SB, x_bin, binV, intB, x_mov, if_true, reduceCtorEq, not_false_eq_true, h0, h1, h2]
     show Run T _ _ _ _
     refine Run.ite (by rfl) (fun h4 => ?_) (fun h4 => ?_)
     ·
      refine Run.skip ?_
      show Run T _ _ _ _
      refine Run.ite (by rfl) (fun _ => ?_) (fun h => by first | exact absurd h (by decide) | (simp only [h0, h1, h2, h4, reduceCtorEq, Bool.not_true, Bool.not_false, Bool.false_eq_true, Bool.true_eq_false] at h))
      refine Run.seq ?_
      refine Run.rgn ?_
      refine RunO.all ?_
      simp only [i20r20, SB, x_bin, binV, intB, x_mov, if_true, reduceCtorEq, not_false_eq_true, h0, h1, h2, h4]
      show Run T _ _ _ _
      refine Run.ite (by rfl) (fun h5 => ?_) (fun h5 => ?_)
      ·
       refine Run.seq ?_
       refine Run.rgn ?_
       refine RunO.all ?_
       simp only [i20r21, SB, x_mov, h0, h1, h2, h4, h5]
       show Run T _ _ _ _
       refine Run.ret ⟨?_, rfl⟩
       first | (rw [f20, ite_f h0, ite_f h1, ite_f h2, ite_t h4, ite_t h5]; rfl) | (rw [f20, ite_f h0, ite_f h1, ite_f h2, ite_t h4, ite_t h5]; simp only [resV, ev_t, List.getD_cons_zero, List.getD_cons_succ, List.map_cons, List.map_nil, h0, h1, h2, h4, h5]; done) | (simp only [f20, if_true, Bool.false_eq_true, if_false, h0, h1, h2, h4, h5]; rfl)
      ·
       refine Run.skip ?_
       show Run T _ _ _ _
       refine Run.seq ?_
       refine Run.rgn ?_
       refine RunO.all ?_
       simp only [i20r85, SB, x_mov, h0, h1, h2, h4, h5]
       show Run T _ _ _ _
       refine Run.ret ⟨?_, rfl⟩
       first | (rw [f20, ite_f h0, ite_f h1, ite_f h2, ite_t h4, ite_f h5]; rfl) | (rw [f20, ite_f h0, ite_f h1, ite_f h2, ite_t h4, ite_f h5]; simp only [resV, ev_t, List.getD_cons_zero, List.getD_cons_succ, List.map_cons, List.map_nil, h0, h1, h2, h4, h5]; done) | (simp only [f20, if_true, Bool.false_eq_true, if_false, h0, h1, h2, h4, h5]; rfl)
     ·
      refine Run.seq ?_
      refine Run.rgn ?_
      refine RunO.all ?_
      simp only [i20r9, SB, x_bin, binV, intB, x_mov, if_true, reduceCtorEq, not_false_eq_true, h0, h1, h2, h4]
      show Run T _ _ _ _
      refine Run.ite (by rfl) (fun h6 => ?_) (fun h6 => ?_)
      ·
       refine Run.skip ?_
       show Run T _ _ _ _
       refine Run.ite (by rfl) (fun _ => ?_) (fun h => by first | exact absurd h (by decide) | (simp only [h0, h1, h2, h4, h6, reduceCtorEq, Bool.not_true, Bool.not_false, Bool.false_eq_true, Bool.true_eq_false] at h))
       refine Run.seq ?_
       refine Run.rgn ?_
       refine RunO.all ?_
       simp only [i20r20, SB, x_bin, binV, intB, x_mov, if_true, reduceCtorEq, not_false_eq_true, h0, h1, h2, h4, h6]
       show Run T _ _ _ _
       refine Run.ite (by rfl) (fun h7 => ?_) (fun h7 => ?_)
       ·
        refine Run.seq ?_
        refine Run.rgn ?_
        refine RunO.all ?_
        simp only [i20r21, SB, x_mov, h0, h1, h2, h4, h6, h7]
        show Run T _ _ _ _
        refine Run.ret ⟨?_, rfl⟩
        first | (rw [f20, ite_f h0, ite_f h1, ite_f h2, ite_f h4, ite_t h6, ite_t h7]; rfl) | (rw [f20, ite_f h0, ite_f h1, ite_f h2, ite_f h4, ite_t h6, ite_t h7]; simp only [resV, ev_t, List.getD_cons_zero, List.getD_cons_succ, List.map_cons, List.map_nil, h0, h1, h2, h4, h6, h7]; done) | (simp only [f20, if_true, Bool.false_eq_true, if_false, h0, h1, h2, h4, h6, h7]; rfl)
       ·
        refine Run.skip ?_
        show Run T _ _ _ _
        refine Run.seq ?_
        refine Run.rgn ?_
        refine RunO.all ?_
        simp only [i20r85, SB, x_mov, h0, h1, h2, h4, h6, h7]
        show Run T _ _ _ _
        refine Run.ret ⟨?_, rfl⟩
        first | (rw [f20, ite_f h0, ite_f h1, ite_f h2, ite_f h4, ite_t h6, ite_f h7]; rfl) | (rw [f20, ite_f h0, ite_f h1, ite_f h2, ite_f h4, ite_t h6, ite_f h7]; simp only [resV, ev_t, List.getD_cons_zero, List.getD_cons_succ, List.map_cons, List.map_nil, h0, h1, h2, h4, h6, h7]; done) | (simp only [f20, if_true, Bool.false_eq_true, if_false, h0, h1, h2, h4, h6, h7]; rfl)
      ·
       refine Run.seq ?_
       refine Run.rgn ?_
       refine RunO.all ?_
       simp only [i20r10, SB, x_bin, binV, intB, x_mov, if_true, reduceCtorEq, not_false_eq_true, h0, h1, h2, h4, h6]
       show Run T _ _ _ _
       refine Run.ite (by rfl) (fun h8 => ?_) (fun h8 => ?_)
       ·
        refine Run.skip ?_
        show Run T _ _ _ _
        refine Run.ite (by rfl) (fun _ => ?_) (fun h => by first | exact absurd h (by decide) | (simp only [h0, h1, h2, h4, h6, h8, reduceCtorEq, Bool.not_true, Bool.not_false, Bool.false_eq_true, Bool.true_eq_false] at h))
        refine Run.seq ?_
        refine Run.rgn ?_
        refine RunO.all ?_
        simp only [i20r20, SB, x_bin, binV, intB, x_mov, if_true, reduceCtorEq, not_false_eq_true, h0, h1, h2, h4, h6, h8]
        show Run T _ _ _ _
        refine Run.ite (by rfl) (fun h9 => ?_) (fun h9 => ?_)
        ·
         refine Run.seq ?_
         refine Run.rgn ?_
         refine RunO.all ?_
         simp only [i20r21, SB, x_mov, h0, h1, h2, h4, h6, h8, h9]
         show Run T _ _ _ _
         refine Run.ret ⟨?_, rfl⟩
         first | (rw [f20, ite_f h0, ite_f h1, ite_f h2, ite_f h4, ite_f h6, ite_t h8, ite_t h9]; rfl) | (rw [f20, ite_f h0, ite_f h1, ite_f h2, ite_f h4, ite_f h6, ite_t h8, ite_t h9]; simp only [resV, ev_t, List.getD_cons_zero, List.getD_cons_succ, List.map_cons, List.map_nil, h0, h1, h2, h4, h6, h8, h9]; done) | (simp only [f20, if_true, Bool.false_eq_true, if_false, h0, h1, h2, h4, h6, h8, h9]; rfl)
        ·
         refine Run.skip ?_
         show Run T _ _ _ _
         refine Run.seq ?_
         refine Run.rgn ?_
         refine RunO.all ?_
         simp only [i20r85, SB, x_mov, h0, h1, h2, h4, h6, h8, h9]
         show Run T _ _ _ _
         refine Run.ret ⟨?_, rfl⟩
         first | (rw [f20, ite_f h0, ite_f h1, ite_f h2, ite_f h4, ite_f h6, ite_t h8, ite_f h9]; rfl) | (rw [f20, ite_f h0, ite_f h1, ite_f h2, ite_f h4, ite_f h6, ite_t h8, ite_f h9]; simp only [resV, ev_t, List.getD_cons_zero, List.getD_cons_succ, List.map_cons, List.map_nil, h0, h1, h2, h4, h6, h8, h9]; done) | (simp only [f20, if_true, Bool.false_eq_true, if_false, h0, h1, h2, h4, h6, h8, h9]; rfl)
       ·
        refine Run.rgn ?_
        refine RunO.all ?_
        simp only [i20r11, SB, x_bin, binV, intB, x_mov, if_true, reduceCtorEq, not_false_eq_true, h0, h1, h2, h4, h6, h8]
        show Run T _ _ _ _
        refine Run.ite (by rfl) (fun h10 => ?_) (fun h10 => ?_)
        ·
         refine Run.seq ?_
         refine Run.rgn ?_
         refine RunO.all ?_
         simp only [i20r20, SB, x_bin, binV, intB, x_mov, if_true, reduceCtorEq, not_false_eq_true, h0, h1, h2, h4, h6, h8, h10]
         show Run T _ _ _ _
         refine Run.ite (by rfl) (fun h11 => ?_) (fun h11 => ?_)
         ·
          refine Run.seq ?_
          refine Run.rgn ?_
          refine RunO.all ?_
          simp only [i20r21, SB, x_mov, h0, h1, h2, h4, h6, h8, h10, h11]
          show Run T _ _ _ _
          refine Run.ret ⟨?_, rfl⟩
          first | (rw [f20, ite_f h0, ite_f h1, ite_f h2, ite_f h4, ite_f h6, ite_f h8, ite_t h10, ite_t h11]; rfl) | (rw [f20, ite_f h0, ite_f h1, ite_f h2, ite_f h4, ite_f h6, ite_f h8, ite_t h10, ite_t h11]; simp only [resV, ev_t, List.getD_cons_zero, List.getD_cons_succ, List.map_cons, List.map_nil, h0, h1, h2, h4, h6, h8, h10, h11]; done) | (simp only [f20, if_true, Bool.false_eq_true, if_false, h0, h1, h2, h4, h6, h8, h10, h11]; rfl)
         ·
          refine Run.skip ?_
          show Run T _ _ _ _
          refine Run.seq ?_
          refine Run.rgn ?_
          refine RunO.all ?_
          simp only [i20r85, SB, x_mov, h0, h1, h2, h4, h6, h8, h10, h11]
          show Run T _ _ _ _
          refine Run.ret ⟨?_, rfl⟩
          first | (rw [f20, ite_f h0, ite_f h1, ite_f h2, ite_f h4, ite_f h6, ite_f h8, ite_t h10, ite_f h11]; rfl) | (rw [f20, ite_f h0, ite_f h1, ite_f h2, ite_f h4, ite_f h6, ite_f h8, ite_t h10, ite_f h11]; simp only [resV, ev_t, List.getD_cons_zero, List.getD_cons_succ, List.map_cons, List.map_nil, h0, h1, h2, h4, h6, h8, h10, h11]; done) | (simp only [f20, if_true, Bool.false_eq_true, if_false, h0, h1, h2, h4, h6, h8, h10, h11]; rfl)
        ·
         refine Run.seq ?_
         refine Run.seq ?_
         refine Run.rgn ?_
         refine RunO.all ?_
         simp only [i20r25, SB, x_bin, binV, intB, x_mov, if_true, reduceCtorEq, not_false_eq_true, h0, h1, h2, h4, h6, h8, h10]
         show Run T _ _ _ _
         refine Run.ite (by rfl) (fun h12 => ?_) (fun h12 => ?_)
         ·
          refine Run.skip ?_
          show Run T _ _ _ _
          refine Run.ite (by rfl) (fun _ => ?_) (fun h => by first | exact absurd h (by decide) | (simp only [h0, h1, h2, h4, h6, h8, h10, h12, reduceCtorEq, Bool.not_true, Bool.not_false, Bool.false_eq_true, Bool.true_eq_false] at h))
          refine Run.seq ?_
          refine Run.rgn ?_
          refine RunO.pre 1 ?_
          simp only [i20r32, List.take_succ_cons, List.take_zero, List.drop_succ_cons, List.drop_zero, SB, x_mov, h0, h1, h2, h4, h6, h8, h10, h12]
          refine RunO.c (c39 x1 _) ?_
          refine RunO.all ?_
          simp only [SB, h0, h1, h2, h4, h6, h8, h10, h12]
          show Run T _ _ _ _
          refine Run.ite (by rfl) (fun h13 => ?_) (fun h13 => ?_)
          ·
           refine Run.seq ?_
           refine Run.rgn ?_
           refine RunO.all ?_
           simp only [i20r33, SB, x_mov, h0, h1, h2, h4, h6, h8, h10, h12, h13]
           show Run T _ _ _ _
           refine Run.ret ⟨?_, rfl⟩
           first | (rw [f20, ite_f h0, ite_f h1, ite_f h2, ite_f h4, ite_f h6, ite_f h8, ite_f h10, ite_t h12, ite_t h13]; rfl) | (rw [f20, ite_f h0, ite_f h1, ite_f h2, ite_f h4, ite_f h6, ite_f h8, ite_f h10, ite_t h12, ite_t h13]; simp only [resV, ev_t, List.getD_cons_zero, List.getD_cons_succ, List.map_cons, List.map_nil, h0, h1, h2, h4, h6, h8, h10, h12, h13]; done) | (simp only [f20, if_true, Bool.false_eq_true, if_false, h0, h1, h2, h4, h6, h8, h10, h12, h13]; rfl)
          ·
           refine Run.skip ?_
           show Run T _ _ _ _
           refine Run.seq ?_
           refine Run.rgn ?_
           refine RunO.all ?_
           simp only [i20r85, SB, x_mov, h0, h1, h2, h4, h6, h8, h10, h12, h13]
           show Run T _ _ _ _
           refine Run.ret ⟨?_, rfl⟩
           first | (rw [f20, ite_f h0, ite_f h1, ite_f h2, ite_f h4, ite_f h6, ite_f h8, ite_f h10, ite_t h12, ite_f h13]; rfl) | (rw [f20, ite_f h0, ite_f h1, ite_f h2, ite_f h4, ite_f h6, ite_f h8, ite_f h10, ite_t h12, ite_f h13]; simp only [resV, ev_t, List.getD_cons_zero, List.getD_cons_succ, List.map_cons, List.map_nil, h0, h1, h2, h4, h6, h8, h10, h12, h13]; done) | (simp only [f20, if_true, Bool.false_eq_true, if_false, h0, h1, h2, h4, h6, h8, h10, h12, h13]; rfl)
         ·
          refine Run.seq ?_
          refine Run.rgn ?_
          refine RunO.all ?_
          simp only [i20r26, SB, x_bin, binV, intB, x_mov, if_true, reduceCtorEq, not_false_eq_true, h0, h1, h2, h4, h6, h8, h10, h12]
          show Run T _ _ _ _
          refine Run.ite (by rfl) (fun h14 => ?_) (fun h14 => ?_)
          ·
           refine Run.skip ?_
           show Run T _ _ _ _
           refine Run.ite (by rfl) (fun _ => ?_) (fun h => by first | exact absurd h (by decide) | (simp only [h0, h1, h2, h4, h6, h8, h10, h12, h14, reduceCtorEq, Bool.not_true, Bool.not_false, Bool.false_eq_true, Bool.true_eq_false] at h))
           refine Run.seq ?_
           refine Run.rgn ?_
           refine RunO.pre 1 ?_
           simp only [i20r32, List.take_succ_cons, List.take_zero, List.drop_succ_cons, List.drop_zero, SB, x_mov, h0, h1, h2, h4, h6, h8, h10, h12, h14]
           refine RunO.c (c39 x1 _) ?_
           refine RunO.all ?_
           simp only [SB, h0, h1, h2, h4, h6, h8, h10, h12, h14]
           show Run T _ _ _ _
           refine Run.ite (by rfl) (fun h15 => ?_) (fun h15 => ?_)
           ·
            refine Run.seq ?_
            refine Run.rgn ?_
            refine RunO.all ?_
            simp only [i20r33, SB, x_mov, h0, h1, h2, h4, h6, h8, h10, h12, h14, h15]
            show Run T _ _ _ _
            refine Run.ret ⟨?_, rfl⟩
            first | (rw [f20, ite_f h0, ite_f h1, ite_f h2, ite_f h4, ite_f h6, ite_f h8, ite_f h10, ite_f h12, ite_t h14, ite_t h15]; rfl) | (rw [f20, ite_f h0, ite_f h1, ite_f h2, ite_f h4, ite_f h6, ite_f h8, ite_f h10, ite_f h12, ite_t h14, ite_t h15]; simp only [resV, ev_t, List.getD_cons_zero, List.getD_cons_succ, List.map_cons, List.map_nil, h0, h1, h2, h4, h6, h8, h10, h12, h14, h15]; done) | (simp only [f20, if_true, Bool.false_eq_true, if_false, h0, h1, h2, h4, h6, h8, h10, h12, h14, h15]; rfl)
           ·
            refine Run.skip ?_
            show Run T _ _ _ _
            refine Run.seq ?_
            refine Run.rgn ?_
            refine RunO.all ?_
            simp only [i20r85, SB, x_mov, h0, h1, h2, h4, h6, h8, h10, h12, h14, h15]
            show Run T _ _ _ _
            refine Run.ret ⟨?_, rfl⟩
            first | (rw [f20, ite_f h0, ite_f h1, ite_f h2, ite_f h4, ite_f h6, ite_f h8, ite_f h10, ite_f h12, ite_t h14, ite_f h15]; rfl) | (rw [f20, ite_f h0, ite_f h1, ite_f h2, ite_f h4, ite_f h6, ite_f h8, ite_f h10, ite_f h12, ite_t h14, ite_f h15]; simp only [resV, ev_t, List.getD_cons_zero, List.getD_cons_succ, List.map_cons, List.map_nil, h0, h1, h2, h4, h6, h8, h10, h12, h14, h15]; done) | (simp only [f20, if_true, Bool.false_eq_true, if_false, h0, h1, h2, h4, h6, h8, h10, h12, h14, h15]; rfl)
          ·
           refine Run.rgn ?_
           refine RunO.all ?_
           simp only [i20r27, SB, x_bin, binV, intB, x_mov, if_true, reduceCtorEq, not_false_eq_true, h0, h1, h2, h4, h6, h8, h10, h12, h14]
           show Run T _ _ _ _
           refine Run.ite (by rfl) (fun h16 => ?_) (fun h16 => ?_)
           ·
            refine Run.seq ?_
            refine Run.rgn ?_
            refine RunO.pre 1 ?_
            simp only [i20r32, List.take_succ_cons, List.take_zero, List.drop_succ_cons, List.drop_zero, SB, x_mov, h0, h1, h2, h4, h6, h8, h10, h12, h14, h16]
            refine RunO.c (c39 x1 _) ?_
            refine RunO.all ?_
            simp only [SB, h0, h1, h2, h4, h6, h8, h10, h12, h14, h16]
            show Run T _ _ _ _
            refine Run.ite (by rfl) (fun h17 => ?_) (fun h17 => ?_)
            ·
             refine Run.seq ?_
             refine Run.rgn ?_
             refine RunO.all ?_
             simp only [i20r33, SB, x_mov, h0, h1, h2, h4, h6, h8, h10, h12, h14, h16, h17]
             show Run T _ _ _ _
             refine Run.ret ⟨?_, rfl⟩
             first | (rw [f20, ite_f h0, ite_f h1, ite_f h2, ite_f h4, ite_f h6, ite_f h8, ite_f h10, ite_f h12, ite_f h14, ite_t h16, ite_t h17]; rfl) | (rw [f20, ite_f h0, ite_f h1, ite_f h2, ite_f h4, ite_f h6, ite_f h8, ite_f h10, ite_f h12, ite_f h14, ite_t h16, ite_t h17]; simp only [resV, ev_t, List.getD_cons_zero, List.getD_cons_succ, List.map_cons, List.map_nil, h0, h1, h2, h4, h6, h8, h10, h12, h14, h16, h17]; done) | (simp only [f20, if_true, Bool.false_eq_true, if_false, h0, h1, h2, h4, h6, h8, h10, h12, h14, h16, h17]; rfl)
            ·
             refine Run.skip ?_
             show Run T _ _ _ _
             refine Run.seq ?_
             refine Run.rgn ?_
             refine RunO.all ?_
             simp only [i20r85, SB, x_mov, h0, h1, h2, h4, h6, h8, h10, h12, h14, h16, h17]
             show Run T _ _ _ _
             refine Run.ret ⟨?_, rfl⟩
             first | (rw [f20, ite_f h0, ite_f h1, ite_f h2, ite_f h4, ite_f h6, ite_f h8, ite_f h10, ite_f h12, ite_f h14, ite_t h16, ite_f h17]; rfl) | (rw [f20, ite_f h0, ite_f h1, ite_f h2, ite_f h4, ite_f h6, ite_f h8, ite_f h10, ite_f h12, ite_f h14, ite_t h16, ite_f h17]; simp only [resV, ev_t, List.getD_cons_zero, List.getD_cons_succ, List.map_cons, List.map_nil, h0, h1, h2, h4, h6, h8, h10, h12, h14, h16, h17]; done) | (simp only [f20, if_true, Bool.false_eq_true, if_false, h0, h1, h2, h4, h6, h8, h10, h12, h14, h16, h17]; rfl)
           ·
            refine Run.seq ?_
            refine Run.seq ?_
            refine Run.rgn ?_
            refine RunO.all ?_
            simp only [i20r37, SB, x_bin, binV, intB, x_mov, if_true, reduceCtorEq, not_false_eq_true, h0, h1, h2, h4, h6, h8, h10, h12, h14, h16]
            show Run T _ _ _ _
            refine Run.ite (by rfl) (fun h18 => ?_) (fun h18 => ?_)
            ·
             refine Run.skip ?_
             show Run T _ _ _ _
             refine Run.ite (by rfl) (fun _ => ?_) (fun h => by first | exact absurd h (by decide) | (simp only [h0, h1, h2, h4, h6, h8, h10, h12, h14, h16, h18, reduceCtorEq, Bool.not_true, Bool.not_false, Bool.false_eq_true, Bool.true_eq_false] at h))
             refine Run.seq ?_
             refine Run.rgn ?_
             refine RunO.all ?_
             simp only [i20r47, SB, x_bin, binV, intB, x_mov, if_true, reduceCtorEq, not_false_eq_true, h0, h1, h2, h4, h6, h8, h10, h12, h14, h16, h18]
             show Run T _ _ _ _
             refine Run.ite (by rfl) (fun h19 => ?_) (fun h19 => ?_)
             ·
              refine Run.seq ?_
              refine Run.rgn ?_
              refine RunO.all ?_
              simp only [i20r48, SB, x_mov, h0, h1, h2, h4, h6, h8, h10, h12, h14, h16, h18, h19]
              show Run T _ _ _ _
              refine Run.ret ⟨?_, rfl⟩
              first | (rw [f20, ite_f h0, ite_f h1, ite_f h2, ite_f h4, ite_f h6, ite_f h8, ite_f h10, ite_f h12, ite_f h14, ite_f h16, ite_t h18, ite_t h19]; rfl) | (rw [f20, ite_f h0, ite_f h1, ite_f h2, ite_f h4, ite_f h6, ite_f h8, ite_f h10, ite_f h12, ite_f h14, ite_f h16, ite_t h18, ite_t h19]; simp only [resV, ev_t, List.getD_cons_zero, List.getD_cons_succ, List.map_cons, List.map_nil, h0, h1, h2, h4, h6, h8, h10, h12, h14, h16, h18, h19]; done) | (simp only [f20, if_true, Bool.false_eq_true, if_false, h0, h1, h2, h4, h6, h8, h10, h12, h14, h16, h18, h19]; rfl)
             ·
              refine Run.skip ?_
              show Run T _ _ _ _
              refine Run.seq ?_
              refine Run.rgn ?_
              refine RunO.all ?_
              simp only [i20r85, SB, x_mov, h0, h1, h2, h4, h6, h8, h10, h12, h14, h16, h18, h19]
              show Run T _ _ _ _
              refine Run.ret ⟨?_, rfl⟩
              first | (rw [f20, ite_f h0, ite_f h1, ite_f h2, ite_f h4, ite_f h6, ite_f h8, ite_f h10, ite_f h12, ite_f h14, ite_f h16, ite_t h18, ite_f h19]; rfl) | (rw [f20, ite_f h0, ite_f h1, ite_f h2, ite_f h4, ite_f h6, ite_f h8, ite_f h10, ite_f h12, ite_f h14, ite_f h16, ite_t h18, ite_f h19]; simp only [resV, ev_t, List.getD_cons_zero, List.getD_cons_succ, List.map_cons, List.map_nil, h0, h1, h2, h4, h6, h8, h10, h12, h14, h16, h18, h19]; done) | (simp only [f20, if_true, Bool.false_eq_true, if_false, h0, h1, h2, h4, h6, h8, h10, h12, h14, h16, h18, h19]; rfl)
            ·
             refine Run.seq ?_
             refine Run.rgn ?_
             refine RunO.all ?_
             simp only [i20r38, SB, x_bin, binV, intB, x_mov, if_true, reduceCtorEq, not_false_eq_true, h0, h1, h2, h4, h6, h8, h10, h12, h14, h16, h18]
             show Run T _ _ _ _
             refine Run.ite (by rfl) (fun h20 => ?_) (fun h20 => ?_)
             ·
              refine Run.skip ?_
              show Run T _ _ _ _
              refine Run.ite (by rfl) (fun _ => ?_) (fun h => by first | exact absurd h (by decide) | (simp only [h0, h1, h2, h4, h6, h8, h10, h12, h14, h16, h18, h20, reduceCtorEq, Bool.not_true, Bool.not_false, Bool.false_eq_true, Bool.true_eq_false] at h))
              refine Run.seq ?_
              refine Run.rgn ?_
              refine RunO.all ?_
              simp only [i20r47, SB, x_bin, binV, intB, x_mov, if_true, reduceCtorEq, not_false_eq_true, h0, h1, h2, h4, h6, h8, h10, h12, h14, h16, h18, h20]
              show Run T _ _ _ _
              refine Run.ite (by rfl) (fun h21 => ?_) (fun h21 => ?_)
              ·
               refine Run.seq ?_
               refine Run.rgn ?_
               refine RunO.all ?_
               simp only [i20r48, SB, x_mov, h0, h1, h2, h4, h6, h8, h10, h12, h14, h16, h18, h20, h21]
               show Run T _ _ _ _
               refine Run.ret ⟨?_, rfl⟩
               first | (rw [f20, ite_f h0, ite_f h1, ite_f h2, ite_f h4, ite_f h6, ite_f h8, ite_f h10, ite_f h12, ite_f h14, ite_f h16, ite_f h18, ite_t h20, ite_t h21]; rfl) | (rw [f20, ite_f h0, ite_f h1, ite_f h2, ite_f h4, ite_f h6, ite_f h8, ite_f h10, ite_f h12, ite_f h14, ite_f h16, ite_f h18, ite_t h20, ite_t h21]; simp only [resV, ev_t, List.getD_cons_zero, List.getD_cons_succ, List.map_cons, List.map_nil, h0, h1, h2, h4, h6, h8, h10, h12, h14, h16, h18, h20, h21]; done) | (simp only [f20, if_true, Bool.false_eq_true, if_false, h0, h1, h2, h4, h6, h8, h10, h12, h14, h16, h18, h20, h21]; rfl)
              ·
               refine Run.skip ?_
               show Run T _ _ _ _
               refine Run.seq ?_
               refine Run.rgn ?_
               refine RunO.all ?_
               simp only [i20r85, SB, x_mov, h0, h1, h2, h4, h6, h8, h10, h12, h14, h16, h18, h20, h21]
               show Run T _ _ _ _
               refine Run.ret ⟨?_, rfl⟩
               first | (rw [f20, ite_f h0, ite_f h1, ite_f h2, ite_f h4, ite_f h6, ite_f h8, ite_f h10, ite_f h12, ite_f h14, ite_f h16, ite_f h18, ite_t h20, ite_f h21]; rfl) | (rw [f20, ite_f h0, ite_f h1, ite_f h2, ite_f h4, ite_f h6, ite_f h8, ite_f h10, ite_f h12, ite_f h14, ite_f h16, ite_f h18, ite_t h20, ite_f h21]; simp only [resV, ev_t, List.getD_cons_zero, List.getD_cons_succ, List.map_cons, List.map_nil, h0, h1, h2, h4, h6, h8, h10, h12, h14, h16, h18, h20, h21]; done) | (simp only [f20, if_true, Bool.false_eq_true, if_false, h0, h1, h2, h4, h6, h8, h10, h12, h14, h16, h18, h20, h21]; rfl)
             ·
              refine Run.seq ?_
              refine Run.rgn ?_
              refine RunO.all ?_
              simp only [i20r39, SB, x_bin, binV, intB, x_mov, if_true, reduceCtorEq, not_false_eq_true, h0, h1, h2, h4, h6, h8, h10, h12, h14, h16, h18, h20]
              show Run T _ _ _ _
              refine Run.ite (by rfl) (fun h22 => ?_) (fun h22 => ?_)
              ·
               refine Run.skip ?_
               show Run T _ _ _ _
               refine Run.ite (by rfl) (fun _ => ?_) (fun h => by first | exact absurd h (by decide) | (simp only [h0, h1, h2, h4, h6, h8, h10, h12, h14, h16, h18, h20, h22, reduceCtorEq, Bool.not_true, Bool.not_false, Bool.false_eq_true, Bool.true_eq_false] at h))
               refine Run.seq ?_
               refine Run.rgn ?_
               refine RunO.all ?_
               simp only [i20r47, SB, x_bin, binV, intB, x_mov, if_true, reduceCtorEq, not_false_eq_true, h0, h1, h2, h4, h6, h8, h10, h12, h14, h16, h18, h20, h22]
               show Run T _ _ _ _
               refine Run.ite (by rfl) (fun h23 => ?_) (fun h23 => ?_)
               ·
                refine Run.seq ?_
                refine Run.rgn ?_
                refine RunO.all ?_
                simp only [i20r48, SB, x_mov, h0, h1, h2, h4, h6, h8, h10, h12, h14, h16, h18, h20, h22, h23]
                show Run T _ _ _ _
                refine Run.ret ⟨?_, rfl⟩
                first | (rw [f20, ite_f h0, ite_f h1, ite_f h2, ite_f h4, ite_f h6, ite_f h8, ite_f h10, ite_f h12, ite_f h14, ite_f h16, ite_f h18, ite_f h20, ite_t h22, ite_t h23]; rfl) | (rw [f20, ite_f h0, ite_f h1, ite_f h2, ite_f h4, ite_f h6, ite_f h8, ite_f h10, ite_f h12, ite_f h14, ite_f h16, ite_f h18, ite_f h20, ite_t h22, ite_t h23]; simp only [resV, ev_t, List.getD_cons_zero, List.getD_cons_succ, List.map_cons, List.map_nil, h0, h1, h2, h4, h6, h8, h10, h12, h14, h16, h18, h20, h22, h23]; done) | (simp only [f20, if_true, Bool.false_eq_true, if_false, h0, h1, h2, h4, h6, h8, h10, h12, h14, h16, h18, h20, h22, h23]; rfl)
               ·
                refine Run.skip ?_
                show Run T _ _ _ _
                refine Run.seq ?_
                refine Run.rgn ?_
                refine RunO.all ?_
                simp only [i20r85, SB, x_mov, h0, h1, h2, h4, h6, h8, h10, h12, h14, h16, h18, h20, h22, h23]
                show Run T _ _ _ _
                refine Run.ret ⟨?_, rfl⟩
                first | (rw [f20, ite_f h0, ite_f h1, ite_f h2, ite_f h4, ite_f h6, ite_f h8, ite_f h10, ite_f h12, ite_f h14, ite_f h16, ite_f h18, ite_f h20, ite_t h22, ite_f h23]; rfl) | (rw [f20, ite_f h0, ite_f h1, ite_f h2, ite_f h4, ite_f h6, ite_f h8, ite_f h10, ite_f h12, ite_f h14, ite_f h16, ite_f h18, ite_f h20, ite_t h22, ite_f h23]; simp only [resV, ev_t, List.getD_cons_zero, List.getD_cons_succ, List.map_cons, List.map_nil, h0, h1, h2, h4, h6, h8, h10, h12, h14, h16, h18, h20, h22, h23]; done) | (simp only [f20, if_true, Bool.false_eq_true, if_false, h0, h1, h2, h4, h6, h8, h10, h12, h14, h16, h18, h20, h22, h23]; rfl)
              ·
               refine Run.rgn ?_
               refine RunO.all ?_
               simp only [i20r40, SB, x_bin, binV, intB, x_mov, if_true, reduceCtorEq, not_false_eq_true, h0, h1, h2, h4, h6, h8, h10, h12, h14, h16, h18, h20, h22]
               show Run T _ _ _ _
               refine Run.ite (by rfl) (fun h24 => ?_) (fun h24 => ?_)
               ·
                refine Run.seq ?_
                refine Run.rgn ?_
                refine RunO.all ?_
                simp only [i20r47, SB, x_bin, binV, intB, x_mov, if_true, reduceCtorEq, not_false_eq_true, h0, h1, h2, h4, h6, h8, h10, h12, h14, h16, h18, h20, h22, h24]
                show Run T _ _ _ _
                refine Run.ite (by rfl) (fun h25 => ?_) (fun h25 => ?_)
                ·
                 refine Run.seq ?_
                 refine Run.rgn ?_
                 refine RunO.all ?_
                 simp only [i20r48, SB, x_mov, h0, h1, h2, h4, h6, h8, h10, h12, h14, h16, h18, h20, h22, h24, h25]
                 show Run T _ _ _ _
                 refine Run.ret ⟨?_, rfl⟩
                 first | (rw [f20, ite_f h0, ite_f h1, ite_f h2, ite_f h4, ite_f h6, ite_f h8, ite_f h10, ite_f h12, ite_f h14, ite_f h16, ite_f h18, ite_f h20, ite_f h22, ite_t h24, ite_t h25]; rfl) | (rw [f20, ite_f h0, ite_f h1, ite_f h2, ite_f h4, ite_f h6, ite_f h8, ite_f h10, ite_f h12, ite_f h14, ite_f h16, ite_f h18, ite_f h20, ite_f h22, ite_t h24, ite_t h25]; simp only [resV, ev_t, List.getD_cons_zero, List.getD_cons_succ, List.map_cons, List.map_nil, h0, h1, h2, h4, h6, h8, h10, h12, h14, h16, h18, h20, h22, h24, h25]; done) | (simp only [f20, if_true, Bool.false_eq_true, if_false, h0, h1, h2, h4, h6, h8, h10, h12, h14, h16, h18, h20, h22, h24, h25]; rfl)
                ·
                 refine Run.skip ?_
                 show Run T _ _ _ _
                 refine Run.seq ?_
                 refine Run.rgn ?_
                 refine RunO.all ?_
                 simp only [i20r85, SB, x_mov, h0, h1, h2, h4, h6, h8, h10, h12, h14, h16, h18, h20, h22, h24, h25]
                 show Run T _ _ _ _
                 refine Run.ret ⟨?_, rfl⟩
                 first | (rw [f20, ite_f h0, ite_f h1, ite_f h2, ite_f h4, ite_f h6, ite_f h8, ite_f h10, ite_f h12, ite_f h14, ite_f h16, ite_f h18, ite_f h20, ite_f h22, ite_t h24, ite_f h25]; rfl) | (rw [f20, ite_f h0, ite_f h1, ite_f h2, ite_f h4, ite_f h6, ite_f h8, ite_f h10, ite_f h12, ite_f h14, ite_f h16, ite_f h18, ite_f h20, ite_f h22, ite_t h24, ite_f h25]; simp only [resV, ev_t, List.getD_cons_zero, List.getD_cons_succ, List.map_cons, List.map_nil, h0, h1, h2, h4, h6, h8, h10, h12, h14, h16, h18, h20, h22, h24, h25]; done) | (simp only [f20, if_true, Bool.false_eq_true, if_false, h0, h1, h2, h4, h6, h8, h10, h12, h14, h16, h18, h20, h22, h24, h25]; rfl)
               ·
                refine Run.seq ?_
                refine Run.seq ?_
                refine Run.rgn ?_
                refine RunO.all ?_
                simp only [i20r52, SB, x_bin, binV, intB, x_mov, if_true, reduceCtorEq, not_false_eq_true, h0, h1, h2, h4, h6, h8, h10, h12, h14, h16, h18, h20, h22, h24]
                show Run T _ _ _ _
                refine Run.ite (by rfl) (fun h26 => ?_) (fun h26 => ?_)
                ·
                 refine Run.skip ?_
                 show Run T _ _ _ _
                 refine Run.ite (by rfl) (fun _ => ?_) (fun h => by first | exact absurd h (by decide) | (simp only [h0, h1, h2, h4, h6, h8, h10, h12, h14, h16, h18, h20, h22, h24, h26, reduceCtorEq, Bool.not_true, Bool.not_false, Bool.false_eq_true, Bool.true_eq_false] at h))
                 refine Run.seq ?_
                 refine Run.rgn ?_
                 refine RunO.all ?_
                 simp only [i20r56, SB, x_mov, h0, h1, h2, h4, h6, h8, h10, h12, h14, h16, h18, h20, h22, h24, h26]
                 show Run T _ _ _ _
                 refine Run.ret ⟨?_, rfl⟩
                 first | (rw [f20, ite_f h0, ite_f h1, ite_f h2, ite_f h4, ite_f h6, ite_f h8, ite_f h10, ite_f h12, ite_f h14, ite_f h16, ite_f h18, ite_f h20, ite_f h22, ite_f h24, ite_t h26]; rfl) | (rw [f20, ite_f h0, ite_f h1, ite_f h2, ite_f h4, ite_f h6, ite_f h8, ite_f h10, ite_f h12, ite_f h14, ite_f h16, ite_f h18, ite_f h20, ite_f h22, ite_f h24, ite_t h26]; simp only [resV, ev_t, List.getD_cons_zero, List.getD_cons_succ, List.map_cons, List.map_nil, h0, h1, h2, h4, h6, h8, h10, h12, h14, h16, h18, h20, h22, h24, h26]; done) | (simp only [f20, if_true, Bool.false_eq_true, if_false, h0, h1, h2, h4, h6, h8, h10, h12, h14, h16, h18, h20, h22, h24, h26]; rfl)
                ·
                 refine Run.rgn ?_
                 refine RunO.all ?_
                 simp only [i20r53, SB, x_bin, binV, intB, x_mov, if_true, reduceCtorEq, not_false_eq_true, h0, h1, h2, h4, h6, h8, h10, h12, h14, h16, h18, h20, h22, h24, h26]
                 show Run T _ _ _ _
                 refine Run.ite (by rfl) (fun h27 => ?_) (fun h27 => ?_)
                 ·
                  refine Run.seq ?_
                  refine Run.rgn ?_
                  refine RunO.all ?_
                  simp only [i20r56, SB, x_mov, h0, h1, h2, h4, h6, h8, h10, h12, h14, h16, h18, h20, h22, h24, h26, h27]
                  show Run T _ _ _ _
                  refine Run.ret ⟨?_, rfl⟩
                  first | (rw [f20, ite_f h0, ite_f h1, ite_f h2, ite_f h4, ite_f h6, ite_f h8, ite_f h10, ite_f h12, ite_f h14, ite_f h16, ite_f h18, ite_f h20, ite_f h22, ite_f h24, ite_f h26, ite_t h27]; rfl) | (rw [f20, ite_f h0, ite_f h1, ite_f h2, ite_f h4, ite_f h6, ite_f h8, ite_f h10, ite_f h12, ite_f h14, ite_f h16, ite_f h18, ite_f h20, ite_f h22, ite_f h24, ite_f h26, ite_t h27]; simp only [resV, ev_t, List.getD_cons_zero, List.getD_cons_succ, List.map_cons, List.map_nil, h0, h1, h2, h4, h6, h8, h10, h12, h14, h16, h18, h20, h22, h24, h26, h27]; done) | (simp only [f20, if_true, Bool.false_eq_true, if_false, h0, h1, h2, h4, h6, h8, h10, h12, h14, h16, h18, h20, h22, h24, h26, h27]; rfl)
                 ·
                  refine Run.seq ?_
                  refine Run.seq ?_
                  refine Run.rgn ?_
                  refine RunO.all ?_
                  simp only [i20r58, SB, x_bin, binV, intB, x_mov, if_true, reduceCtorEq, not_false_eq_true, h0, h1, h2, h4, h6, h8, h10, h12, h14, h16, h18, h20, h22, h24, h26, h27]
                  show Run T _ _ _ _
                  refine Run.ite (by rfl) (fun h28 => ?_) (fun h28 => ?_)
                  ·
                   refine Run.skip ?_
                   show Run T _ _ _ _
                   refine Run.ite (by rfl) (fun _ => ?_) (fun h => by first | exact absurd h (by decide) | (simp only [h0, h1, h2, h4, h6, h8, h10, h12, h14, h16, h18, h20, h22, h24, h26, h27, h28, reduceCtorEq, Bool.not_true, Bool.not_false, Bool.false_eq_true, Bool.true_eq_false] at h))
                   refine Run.seq ?_
                   refine Run.rgn ?_
                   refine RunO.all ?_
                   simp only [i20r68, SB, x_bin, binV, intB, x_mov, if_true, reduceCtorEq, not_false_eq_true, h0, h1, h2, h4, h6, h8, h10, h12, h14, h16, h18, h20, h22, h24, h26, h27, h28]
                   show Run T _ _ _ _
                   refine Run.ite (by rfl) (fun h29 => ?_) (fun h29 => ?_)
                   ·
                    refine Run.seq ?_
                    refine Run.rgn ?_
                    refine RunO.all ?_
                    simp only [i20r69, SB, x_mov, h0, h1, h2, h4, h6, h8, h10, h12, h14, h16, h18, h20, h22, h24, h26, h27, h28, h29]
                    show Run T _ _ _ _
                    refine Run.ret ⟨?_, rfl⟩
                    first | (rw [f20, ite_f h0, ite_f h1, ite_f h2, ite_f h4, ite_f h6, ite_f h8, ite_f h10, ite_f h12, ite_f h14, ite_f h16, ite_f h18, ite_f h20, ite_f h22, ite_f h24, ite_f h26, ite_f h27, ite_t h28, ite_t h29]; rfl) | (rw [f20, ite_f h0, ite_f h1, ite_f h2, ite_f h4, ite_f h6, ite_f h8, ite_f h10, ite_f h12, ite_f h14, ite_f h16, ite_f h18, ite_f h20, ite_f h22, ite_f h24, ite_f h26, ite_f h27, ite_t h28, ite_t h29]; simp only [resV, ev_t, List.getD_cons_zero, List.getD_cons_succ, List.map_cons, List.map_nil, h0, h1, h2, h4, h6, h8, h10, h12, h14, h16, h18, h20, h22, h24, h26, h27, h28, h29]; done) | (simp only [f20, if_true, Bool.false_eq_true, if_false, h0, h1, h2, h4, h6, h8, h10, h12, h14, h16, h18, h20, h22, h24, h26, h27, h28, h29]; rfl)
                   ·
                    refine Run.skip ?_
                    show Run T _ _ _ _
                    refine Run.seq ?_
                    refine Run.rgn ?_
                    refine RunO.all ?_
                    simp only [i20r85, SB, x_mov, h0, h1, h2, h4, h6, h8, h10, h12, h14, h16, h18, h20, h22, h24, h26, h27, h28, h29]
                    show Run T _ _ _ _
                    refine Run.ret ⟨?_, rfl⟩
                    first | (rw [f20, ite_f h0, ite_f h1, ite_f h2, ite_f h4, ite_f h6, ite_f h8, ite_f h10, ite_f h12, ite_f h14, ite_f h16, ite_f h18, ite_f h20, ite_f h22, ite_f h24, ite_f h26, ite_f h27, ite_t h28, ite_f h29]; rfl) | (rw [f20, ite_f h0, ite_f h1, ite_f h2, ite_f h4, ite_f h6, ite_f h8, ite_f h10, ite_f h12, ite_f h14, ite_f h16, ite_f h18, ite_f h20, ite_f h22, ite_f h24, ite_f h26, ite_f h27, ite_t h28, ite_f h29]; simp only [resV, ev_t, List.getD_cons_zero, List.getD_cons_succ, List.map_cons, List.map_nil, h0, h1, h2, h4, h6, h8, h10, h12, h14, h16, h18, h20, h22, h24, h26, h27, h28, h29]; done) | (simp only [f20, if_true, Bool.false_eq_true, if_false, h0, h1, h2, h4, h6, h8, h10, h12, h14, h16, h18, h20, h22, h24, h26, h27, h28, h29]; rfl)
                  ·
                   refine Run.seq ?_
                   refine Run.rgn ?_
                   refine RunO.all ?_
                   simp only [i20r59, SB, x_bin, binV, intB, x_mov, if_true, reduceCtorEq, not_false_eq_true, h0, h1, h2, h4, h6, h8, h10, h12, h14, h16, h18, h20, h22, h24, h26, h27, h28]
                   show Run T _ _ _ _
                   refine Run.ite (by rfl) (fun h30 => ?_) (fun h30 => ?_)
                   ·
                    refine Run.skip ?_
                    show Run T _ _ _ _
                    refine Run.ite (by rfl) (fun _ => ?_) (fun h => by first | exact absurd h (by decide) | (simp only [h0, h1, h2, h4, h6, h8, h10, h12, h14, h16, h18, h20, h22, h24, h26, h27, h28, h30, reduceCtorEq, Bool.not_true, Bool.not_false, Bool.false_eq_true, Bool.true_eq_false] at h))
                    refine Run.seq ?_
                    refine Run.rgn ?_
                    refine RunO.all ?_
                    simp only [i20r68, SB, x_bin, binV, intB, x_mov, if_true, reduceCtorEq, not_false_eq_true, h0, h1, h2, h4, h6, h8, h10, h12, h14, h16, h18, h20, h22, h24, h26, h27, h28, h30]
                    show Run T _ _ _ _
                    refine Run.ite (by rfl) (fun h31 => ?_) (fun h31 => ?_)
                    ·
                     refine Run.seq ?_
                     refine Run.rgn ?_
                     refine RunO.all ?_
                     simp only [i20r69, SB, x_mov, h0, h1, h2, h4, h6, h8, h10, h12, h14, h16, h18, h20, h22, h24, h26, h27, h28, h30, h31]
                     show Run T _ _ _ _
                     refine Run.ret ⟨?_, rfl⟩
                     first | (rw [f20, ite_f h0, ite_f h1, ite_f h2, ite_f h4, ite_f h6, ite_f h8, ite_f h10, ite_f h12, ite_f h14, ite_f h16, ite_f h18, ite_f h20, ite_f h22, ite_f h24, ite_f h26, ite_f h27, ite_f h28, ite_t h30, ite_t h31]; rfl) | (rw [f20, ite_f h0, ite_f h1, ite_f h2, ite_f h4, ite_f h6, ite_f h8, ite_f h10, ite_f h12, ite_f h14, ite_f h16, ite_f h18, ite_f h20, ite_f h22, ite_f h24, ite_f h26, ite_f h27, ite_f h28, ite_t h30, ite_t h31]; simp only [resV, ev_t, List.getD_cons_zero, List.getD_cons_succ, List.map_cons, List.map_nil, h0, h1, h2, h4, h6, h8, h10, h12, h14, h16, h18, h20, h22, h24, h26, h27, h28, h30, h31]; done) | (simp only [f20, if_true, Bool.false_eq_true, if_false, h0, h1, h2, h4, h6, h8, h10, h12, h14, h16, h18, h20, h22, h24, h26, h27, h28, h30, h31]; rfl)
                    ·
                     refine Run.skip ?_
                     show Run T _ _ _ _
                     refine Run.seq ?_
                     refine Run.rgn ?_
                     refine RunO.all ?_
                     simp only [i20r85, SB, x_mov, h0, h1, h2, h4, h6, h8, h10, h12, h14, h16, h18, h20, h22, h24, h26, h27, h28, h30, h31]
                     show Run T _ _ _ _
                     refine Run.ret ⟨?_, rfl⟩
                     first | (rw [f20, ite_f h0, ite_f h1, ite_f h2, ite_f h4, ite_f h6, ite_f h8, ite_f h10, ite_f h12, ite_f h14, ite_f h16, ite_f h18, ite_f h20, ite_f h22, ite_f h24, ite_f h26, ite_f h27, ite_f h28, ite_t h30, ite_f h31]; rfl) | (rw [f20, ite_f h0, ite_f h1, ite_f h2, ite_f h4, ite_f h6, ite_f h8, ite_f h10, ite_f h12, ite_f h14, ite_f h16, ite_f h18, ite_f h20, ite_f h22, ite_f h24, ite_f h26, ite_f h27, ite_f h28, ite_t h30, ite_f h31]; simp only [resV, ev_t, List.getD_cons_zero, List.getD_cons_succ, List.map_cons, List.map_nil, h0, h1, h2, h4, h6, h8, h10, h12, h14, h16, h18, h20, h22, h24, h26, h27, h28, h30, h31]; done) | (simp only [f20, if_true, Bool.false_eq_true, if_false, h0, h1, h2, h4, h6, h8, h10, h12, h14, h16, h18, h20, h22, h24, h26, h27, h28, h30, h31]; rfl)
                   ·
                    refine Run.seq ?_
                    refine Run.rgn ?_
                    refine RunO.all ?_
                    simp only [i20r60, SB, x_bin, binV, intB, x_mov, if_true, reduceCtorEq, not_false_eq_true, h0, h1, h2, h4, h6, h8, h10, h12, h14, h16, h18, h20, h22, h24, h26, h27, h28, h30]
                    show Run T _ _ _ _
                    refine Run.ite (by rfl) (fun h32 => ?_) (fun h32 => ?_)
                    ·
                     refine Run.skip ?_
                     show Run T _ _ _ _
                     refine Run.ite (by rfl) (fun _ => ?_) (fun h => by first | exact absurd h (by decide) | (simp only [h0, h1, h2, h4, h6, h8, h10, h12, h14, h16, h18, h20, h22, h24, h26, h27, h28, h30, h32, reduceCtorEq, Bool.not_true, Bool.not_false, Bool.false_eq_true, Bool.true_eq_false] at h))
                     refine Run.seq ?_
                     refine Run.rgn ?_
                     refine RunO.all ?_
                     simp only [i20r68, SB, x_bin, binV, intB, x_mov, if_true, reduceCtorEq, not_false_eq_true, h0, h1, h2, h4, h6, h8, h10, h12, h14, h16, h18, h20, h22, h24, h26, h27, h28, h30, h32]
                     show Run T _ _ _ _
                     refine Run.ite (by rfl) (fun h33 => ?_) (fun h33 => ?_)
                     ·
                      refine Run.seq ?_
                      refine Run.rgn ?_
                      refine RunO.all ?_
                      simp only [i20r69, SB, x_mov, h0, h1, h2, h4, h6, h8, h10, h12, h14, h16, h18, h20, h22, h24, h26, h27, h28, h30, h32, h33]
                      show Run T _ _ _ _
                      refine Run.ret ⟨?_, rfl⟩
                      first | (rw [f20, ite_f h0, ite_f h1, ite_f h2, ite_f h4, ite_f h6, ite_f h8, ite_f h10, ite_f h12, ite_f h14, ite_f h16, ite_f h18, ite_f h20, ite_f h22, ite_f h24, ite_f h26, ite_f h27, ite_f h28, ite_f h30, ite_t h32, ite_t h33]; rfl) | (rw [f20, ite_f h0, ite_f h1, ite_f h2, ite_f h4, ite_f h6, ite_f h8, ite_f h10, ite_f h12, ite_f h14, ite_f h16, ite_f h18, ite_f h20, ite_f h22, ite_f h24, ite_f h26, ite_f h27, ite_f h28, ite_f h30, ite_t h32, ite_t h33]; simp only [resV, ev_t, List.getD_cons_zero, List.getD_cons_succ, List.map_cons, List.map_nil, h0, h1, h2, h4, h6, h8, h10, h12, h14, h16, h18, h20, h22, h24, h26, h27, h28, h30, h32, h33]; done) | (simp only [f20, if_true, Bool.false_eq_true, if_false, h0, h1, h2, h4, h6, h8, h10, h12, h14, h16, h18, h20, h22, h24, h26, h27, h28, h30, h32, h33]; rfl)
                     ·
                      refine Run.skip ?_
                      show Run T _ _ _ _
                      refine Run.seq ?_
                      refine Run.rgn ?_
                      refine RunO.all ?_
                      simp only [i20r85, SB, x_mov, h0, h1, h2, h4, h6, h8, h10, h12, h14, h16, h18, h20, h22, h24, h26, h27, h28, h30, h32, h33]
                      show Run T _ _ _ _
                      refine Run.ret ⟨?_, rfl⟩
                      first | (rw [f20, ite_f h0, ite_f h1, ite_f h2, ite_f h4, ite_f h6, ite_f h8, ite_f h10, ite_f h12, ite_f h14, ite_f h16, ite_f h18, ite_f h20, ite_f h22, ite_f h24, ite_f h26, ite_f h27, ite_f h28, ite_f h30, ite_t h32, ite_f h33]; rfl) | (rw [f20, ite_f h0, ite_f h1, ite_f h2, ite_f h4, ite_f h6, ite_f h8, ite_f h10, ite_f h12, ite_f h14, ite_f h16, ite_f h18, ite_f h20, ite_f h22, ite_f h24, ite_f h26, ite_f h27, ite_f h28, ite_f h30, ite_t h32, ite_f h33]; simp only [resV, ev_t, List.getD_cons_zero, List.getD_cons_succ, List.map_cons, List.map_nil, h0, h1, h2, h4, h6, h8, h10, h12, h14, h16, h18, h20, h22, h24, h26, h27, h28, h30, h32, h33]; done) | (simp only [f20, if_true, Bool.false_eq_true, if_false, h0, h1, h2, h4, h6, h8, h10, h12, h14, h16, h18, h20, h22, h24, h26, h27, h28, h30, h32, h33]; rfl)
                    ·
                     refine Run.rgn ?_
                     refine RunO.all ?_
                     simp only [i20r61, SB, x_bin, binV, intB, x_mov, if_true, reduceCtorEq, not_false_eq_true, h0, h1, h2, h4, h6, h8, h10, h12, h14, h16, h18, h20, h22, h24, h26, h27, h28, h30, h32]
                     show Run T _ _ _ _
                     refine Run.ite (by rfl) (fun h34 => ?_) (fun h34 => ?_)
                     ·
                      refine Run.seq ?_
                      refine Run.rgn ?_
                      refine RunO.all ?_
                      simp only [i20r68, SB, x_bin, binV, intB, x_mov, if_true, reduceCtorEq, not_false_eq_true, h0, h1, h2, h4, h6, h8, h10, h12, h14, h16, h18, h20, h22, h24, h26, h27, h28, h30, h32, h34]
                      show Run T _ _ _ _
                      refine Run.ite (by rfl) (fun h35 => ?_) (fun h35 => ?_)
                      ·
                       refine Run.seq ?_
                       refine Run.rgn ?_
                       refine RunO.all ?_
                       simp only [i20r69, SB, x_mov, h0, h1, h2, h4, h6, h8, h10, h12, h14, h16, h18, h20, h22, h24, h26, h27, h28, h30, h32, h34, h35]
                       show Run T _ _ _ _
                       refine Run.ret ⟨?_, rfl⟩
                       first | (rw [f20, ite_f h0, ite_f h1, ite_f h2, ite_f h4, ite_f h6, ite_f h8, ite_f h10, ite_f h12, ite_f h14, ite_f h16, ite_f h18, ite_f h20, ite_f h22, ite_f h24, ite_f h26, ite_f h27, ite_f h28, ite_f h30, ite_f h32, ite_t h34, ite_t h35]; rfl) | (rw [f20, ite_f h0, ite_f h1, ite_f h2, ite_f h4, ite_f h6, ite_f h8, ite_f h10, ite_f h12, ite_f h14, ite_f h16, ite_f h18, ite_f h20, ite_f h22, ite_f h24, ite_f h26, ite_f h27, ite_f h28, ite_f h30, ite_f h32, ite_t h34, ite_t h35]; simp only [resV, ev_t, List.getD_cons_zero, List.getD_cons_succ, List.map_cons, List.map_nil, h0, h1, h2, h4, h6, h8, h10, h12, h14, h16, h18, h20, h22, h24, h26, h27, h28, h30, h32, h34, h35]; done) | (simp only [f20, if_true, Bool.false_eq_true, if_false, h0, h1, h2, h4, h6, h8, h10, h12, h14, h16, h18, h20, h22, h24, h26, h27, h28, h30, h32, h34, h35]; rfl)
                      ·
                       refine Run.skip ?_
                       show Run T _ _ _ _
                       refine Run.seq ?_
                       refine Run.rgn ?_
                       refine RunO.all ?_
                       simp only [i20r85, SB, x_mov, h0, h1, h2, h4, h6, h8, h10, h12, h14, h16, h18, h20, h22, h24, h26, h27, h28, h30, h32, h34, h35]
                       show Run T _ _ _ _
                       refine Run.ret ⟨?_, rfl⟩
                       first | (rw [f20, ite_f h0, ite_f h1, ite_f h2, ite_f h4, ite_f h6, ite_f h8, ite_f h10, ite_f h12, ite_f h14, ite_f h16, ite_f h18, ite_f h20, ite_f h22, ite_f h24, ite_f h26, ite_f h27, ite_f h28, ite_f h30, ite_f h32, ite_t h34, ite_f h35]; rfl) | (rw [f20, ite_f h0, ite_f h1, ite_f h2, ite_f h4, ite_f h6, ite_f h8, ite_f h10, ite_f h12, ite_f h14, ite_f h16, ite_f h18, ite_f h20, ite_f h22, ite_f h24, ite_f h26, ite_f h27, ite_f h28, ite_f h30, ite_f h32, ite_t h34, ite_f h35]; simp only [resV, ev_t, List.getD_cons_zero, List.getD_cons_succ, List.map_cons, List.map_nil, h0, h1, h2, h4, h6, h8, h10, h12, h14, h16, h18, h20, h22, h24, h26, h27, h28, h30, h32, h34, h35]; done) | (simp only [f20, if_true, Bool.false_eq_true, if_false, h0, h1, h2, h4, h6, h8, h10, h12, h14, h16, h18, h20, h22, h24, h26, h27, h28, h30, h32, h34, h35]; rfl)
                     ·
                      refine Run.skip ?_
                      show Run T _ _ _ _
                      refine Run.seq ?_
                      refine Run.rgn ?_
                      refine RunO.all ?_
                      simp only [i20r85, SB, x_mov, h0, h1, h2, h4, h6, h8, h10, h12, h14, h16, h18, h20, h22, h24, h26, h27, h28, h30, h32, h34]
                      show Run T _ _ _ _
                      refine Run.ret ⟨?_, rfl⟩
                      first | (rw [f20, ite_f h0, ite_f h1, ite_f h2, ite_f h4, ite_f h6, ite_f h8, ite_f h10, ite_f h12, ite_f h14, ite_f h16, ite_f h18, ite_f h20, ite_f h22, ite_f h24, ite_f h26, ite_f h27, ite_f h28, ite_f h30, ite_f h32, ite_f h34]; rfl) | (rw [f20, ite_f h0, ite_f h1, ite_f h2, ite_f h4, ite_f h6, ite_f h8, ite_f h10, ite_f h12, ite_f h14, ite_f h16, ite_f h18, ite_f h20, ite_f h22, ite_f h24, ite_f h26, ite_f h27, ite_f h28, ite_f h30, ite_f h32, ite_f h34]; simp only [resV, ev_t, List.getD_cons_zero, List.getD_cons_succ, List.map_cons, List.map_nil, h0, h1, h2, h4, h6, h8, h10, h12, h14, h16, h18, h20, h22, h24, h26, h27, h28, h30, h32, h34]; done) | (simp only [f20, if_true, Bool.false_eq_true, if_false, h0, h1, h2, h4, h6, h8, h10, h12, h14, h16, h18, h20, h22, h24, h26, h27, h28, h30, h32, h34]; rfl)
theorem c20 (x0 : Int) (x1 : Int) (H : Heap) : PC T H 20 [.int .u8 x0, .int .u8 x1] (.tup [.int .u8 (f20 x0 x1).1, .bool (f20 x0 x1).2]) := PC.now rfl rfl (w20 x0 x1 )

/- smithy/smithyref01.Stops -/
def f26 (x0 : Int) (x1 : Int) (x2 : Int) : Bool :=
if (x0 == (4 : Int)) then
  if (f39 x1) then
    (x2 == (0 : Int))
  else
    false
else
  if (x0 == (5 : Int)) then
    if (f39 x1) then
      (x2 == (0 : Int))
    else
      false
  else
    false
theorem w26 (x0 : Int) (x1 : Int) (x2 : Int) (H : Heap) : Fn T 26 [.int .u8 x0, .int .u8 x1, .int .u64 x2] H (fun r h => r = .bool (f26 x0 x1 x2) ∧ h = H) := by
  refine Fn.enter t26 ?_; simp only [i26, List.length_cons, List.length_nil, Nat.reduceAdd, Nat.reduceSub, List.replicate_succ, List.replicate_zero, List.cons_append, List.nil_append]
  refine Run.seq ?_
  refine Run.rgn ?_
  refine RunO.all ?_
  simp only [i26r0, SB, x_mov]
  show Run T _ _ _ _
  refine Run.seq ?_
  refine Run.rgn ?_
  refine RunO.pre 3 ?_
  simp only [i26r1, List.take_succ_cons, List.take_zero, List.drop_succ_cons, List.drop_zero, SB, x_bin, binV, intB, x_mov, if_true, reduceCtorEq, not_false_eq_true]
  rcases Bool.eq_false_or_eq_true (x0 == (4 : Int)) with h0 | h0
  ·
   refine RunO.pre 5 ?_
   simp only [List.drop_zero, List.take_succ_cons, List.take_zero, List.drop_succ_cons, List.drop_zero, SB, x_bin, binV, intB, x_mov, x_pick, if_true, if_false, Bool.false_eq_true, if_true, reduceCtorEq, not_false_eq_true, exOp_gt, exOp_gf, exOp_gf2, exOp_gs, h0]
   refine RunO.cg (by rfl) (c39 x1 _) ?_
   refine RunO.pre 2 ?_
   simp only [List.take_succ_cons, List.take_zero, List.drop_succ_cons, List.drop_zero, SB, x_mov, x_pick, if_true, if_false, Bool.false_eq_true, h0]
   rcases Bool.eq_false_or_eq_true (f39 x1) with h1 | h1
   ·
    refine RunO.all ?_
    simp only [List.drop_zero, SB, x_bin, binV, intB, x_mov, x_pick, if_true, if_false, Bool.false_eq_true, if_true, reduceCtorEq, not_false_eq_true, exOp_gt, exOp_gf, exOp_gf2, exOp_gs, h0, h1]
    show Run T _ _ _ _
    refine Run.ret ⟨?_, rfl⟩
    first | (rw [f26, ite_t h0, ite_t h1]; rfl) | (rw [f26, ite_t h0, ite_t h1]; simp only [resV, ev_t, List.getD_cons_zero, List.getD_cons_succ, List.map_cons, List.map_nil, h0, h1]; done) | (simp only [f26, if_true, Bool.false_eq_true, if_false, h0, h1]; rfl)
   ·
    refine RunO.all ?_
    simp only [List.drop_zero, SB, x_bin, binV, intB, x_mov, x_pick, if_true, if_false, Bool.false_eq_true, if_true, reduceCtorEq, not_false_eq_true, exOp_gt, exOp_gf, exOp_gf2, exOp_gs, h0, h1]
    show Run T _ _ _ _
    refine Run.ret ⟨?_, rfl⟩
    first | (rw [f26, ite_t h0, ite_f h1]; rfl) | (rw [f26, ite_t h0, ite_f h1]; simp only [resV, ev_t, List.getD_cons_zero, List.getD_cons_succ, List.map_cons, List.map_nil, h0, h1]; done) | (simp only [f26, if_true, Bool.false_eq_true, if_false, h0, h1]; rfl)
  ·
   refine RunO.pre 4 ?_
   simp only [List.drop_zero, List.take_succ_cons, List.take_zero, List.drop_succ_cons, List.drop_zero, SB, x_bin, binV, intB, x_mov, x_pick, if_true, if_false, Bool.false_eq_true, if_true, reduceCtorEq, not_false_eq_true, exOp_gt, exOp_gf, exOp_gf2, exOp_gs, h0]
   rcases Bool.eq_false_or_eq_true (x0 == (5 : Int)) with h2 | h2
   ·
    refine RunO.pre 1 ?_
    simp only [List.drop_zero, List.take_succ_cons, List.take_zero, List.drop_succ_cons, List.drop_zero, SB, x_mov, exOp_gt, exOp_gf, exOp_gf2, exOp_gs, h0, h2]
    refine RunO.cg (by rfl) (c39 x1 _) ?_
    refine RunO.pre 2 ?_
    simp only [List.take_succ_cons, List.take_zero, List.drop_succ_cons, List.drop_zero, SB, x_mov, x_pick, if_true, if_false, Bool.false_eq_true, h0, h2]
    rcases Bool.eq_false_or_eq_true (f39 x1) with h3 | h3
    ·
     refine RunO.all ?_
     simp only [List.drop_zero, SB, x_bin, binV, intB, x_mov, x_pick, if_true, if_false, Bool.false_eq_true, if_true, reduceCtorEq, not_false_eq_true, exOp_gt, exOp_gf, exOp_gf2, exOp_gs, h0, h2, h3]
     show Run T _ _ _ _
     refine Run.ret ⟨?_, rfl⟩
     first | (rw [f26, ite_f h0, ite_t h2, ite_t h3]; rfl) | (rw [f26, ite_f h0, ite_t h2, ite_t h3]; simp only [resV, ev_t, List.getD_cons_zero, List.getD_cons_succ, List.map_cons, List.map_nil, h0, h2, h3]; done) | (simp only [f26, if_true, Bool.false_eq_true, if_false, h0, h2, h3]; rfl)
    ·
     refine RunO.all ?_
     simp only [List.drop_zero, SB, x_bin, binV, intB, x_mov, x_pick, if_true, if_false, Bool.false_eq_true, if_true, reduceCtorEq, not_false_eq_true, exOp_gt, exOp_gf, exOp_gf2, exOp_gs, h0, h2, h3]
     show Run T _ _ _ _
     refine Run.ret ⟨?_, rfl⟩
     first | (rw [f26, ite_f h0, ite_t h2, ite_f h3]; rfl) | (rw [f26, ite_f h0, ite_t h2, ite_f h3]; simp only [resV, ev_t, List.getD_cons_zero, List.getD_cons_succ, List.map_cons, List.map_nil, h0, h2, h3]; done) | (simp only [f26, if_true, Bool.false_eq_true, if_false, h0, h2, h3]; rfl)
   ·
    refine RunO.pre 1 ?_
    simp only [List.drop_zero, List.take_succ_cons, List.take_zero, List.drop_succ_cons, List.drop_zero, SB, x_mov, exOp_gt, exOp_gf, exOp_gf2, exOp_gs, h0, h2]
    refine RunO.cs (b := false) (by rfl) (by decide) ?_
    refine RunO.all ?_
    simp only [SB, x_bin, binV, intB, x_mov, x_pick, if_true, if_false, Bool.false_eq_true, if_true, reduceCtorEq, not_false_eq_true, exOp_gt, exOp_gf, exOp_gf2, exOp_gs, h0, h2]
    show Run T _ _ _ _
    refine Run.ret ⟨?_, rfl⟩
    first | (rw [f26, ite_f h0, ite_f h2]; rfl) | (rw [f26, ite_f h0, ite_f h2]; simp only [resV, ev_t, List.getD_cons_zero, List.getD_cons_succ, List.map_cons, List.map_nil, h0, h2]; done) | (simp only [f26, if_true, Bool.false_eq_true, if_false, h0, h2]; rfl)
theorem c26 (x0 : Int) (x1 : Int) (x2 : Int) (H : Heap) : PC T H 26 [.int .u8 x0, .int .u8 x1, .int .u64 x2] (.bool (f26 x0 x1 x2)) := PC.now rfl rfl (w26 x0 x1 x2 )

/- smithy/smithyref01.Turns -/
def f35 (x0 : Int) (x1 : Int) : Bool :=
if (decide (x0 ≥ (2 : Int))) then
  if (decide (x0 ≤ (5 : Int))) then
    if (decide (x1 ≥ (2 : Int))) then
      (decide (x1 ≤ (5 : Int)))
    else
      false
  else
    false
else
  false
theorem w35 (x0 : Int) (x1 : Int) (H : Heap) : Fn T 35 [.int .u8 x0, .int .u8 x1] H (fun r h => r = .bool (f35 x0 x1) ∧ h = H) := by
  refine Fn.enter t35 ?_; simp only [i35, List.length_cons, List.length_nil, Nat.reduceAdd, Nat.reduceSub, List.replicate_succ, List.replicate_zero, List.cons_append, List.nil_append]
  refine Run.seq ?_
  refine Run.rgn ?_
  refine RunO.all ?_
  simp only [i35r0, SB, x_mov]
  show Run T _ _ _ _
  refine Run.seq ?_
  refine Run.rgn ?_
  refine RunO.pre 3 ?_
  simp only [i35r1, List.take_succ_cons, List.take_zero, List.drop_succ_cons, List.drop_zero, SB, x_bin, binV, intB, x_mov, if_true, reduceCtorEq, not_false_eq_true]
  rcases Bool.eq_false_or_eq_true (decide (x0 ≥ (2 : Int))) with h0 | h0
  ·
   refine RunO.pre 4 ?_
   simp only [List.drop_zero, List.take_succ_cons, List.take_zero, List.drop_succ_cons, List.drop_zero, SB, x_bin, binV, intB, x_mov, x_pick, if_true, if_false, Bool.false_eq_true, if_true, reduceCtorEq, not_false_eq_true, exOp_gt, exOp_gf, exOp_gf2, exOp_gs, h0]
   rcases Bool.eq_false_or_eq_true (decide (x0 ≤ (5 : Int))) with h1 | h1
   ·
    refine RunO.pre 4 ?_
    simp only [List.drop_zero, List.take_succ_cons, List.take_zero, List.drop_succ_cons, List.drop_zero, SB, x_bin, binV, intB, x_mov, x_pick, if_true, if_false, Bool.false_eq_true, if_true, reduceCtorEq, not_false_eq_true, exOp_gt, exOp_gf, exOp_gf2, exOp_gs, h0, h1]
    rcases Bool.eq_false_or_eq_true (decide (x1 ≥ (2 : Int))) with h2 | h2
    ·
     refine RunO.all ?_
     simp only [List.drop_zero, SB, x_bin, binV, intB, x_mov, x_pick, if_true, if_false, Bool.false_eq_true, if_true, reduceCtorEq, not_false_eq_true, exOp_gt, exOp_gf, exOp_gf2, exOp_gs, h0, h1, h2]
     show Run T _ _ _ _
     refine Run.ret ⟨?_, rfl⟩
     first | (rw [f35, ite_t h0, ite_t h1, ite_t h2]; rfl) | (rw [f35, ite_t h0, ite_t h1, ite_t h2]; simp only [resV, ev_t, List.getD_cons_zero, List.getD_cons_succ, List.map_cons, List.map_nil, h0, h1, h2]; done) | (simp only [f35, if_true, Bool.false_eq_true, if_false, h0, h1, h2]; rfl)
    ·
     refine RunO.all ?_
     simp only [List.drop_zero, SB, x_bin, binV, intB, x_mov, x_pick, if_true, if_false, Bool.false_eq_true, if_true, reduceCtorEq, not_false_eq_true, exOp_gt, exOp_gf, exOp_gf2, exOp_gs, h0, h1, h2]
     show Run T _ _ _ _
     refine Run.ret ⟨?_, rfl⟩
     first | (rw [f35, ite_t h0, ite_t h1, ite_f h2]; rfl) | (rw [f35, ite_t h0, ite_t h1, ite_f h2]; simp only [resV, ev_t, List.getD_cons_zero, List.getD_cons_succ, List.map_cons, List.map_nil, h0, h1, h2]; done) | (simp only [f35, if_true, Bool.false_eq_true, if_false, h0, h1, h2]; rfl)
   ·
    refine RunO.all ?_
    simp only [List.drop_zero, SB, x_bin, binV, intB, x_mov, x_pick, if_true, if_false, Bool.false_eq_true, if_true, reduceCtorEq, not_false_eq_true, exOp_gt, exOp_gf, exOp_gf2, exOp_gs, h0, h1]
    show Run T _ _ _ _
    refine Run.ret ⟨?_, rfl⟩
    first | (rw [f35, ite_t h0, ite_f h1]; rfl) | (rw [f35, ite_t h0, ite_f h1]; simp only [resV, ev_t, List.getD_cons_zero, List.getD_cons_succ, List.map_cons, List.map_nil, h0, h1]; done) | (simp only [f35, if_true, Bool.false_eq_true, if_false, h0, h1]; rfl)
  ·
   refine RunO.all ?_
   simp only [List.drop_zero, SB, x_bin, binV, intB, x_mov, x_pick, if_true, if_false, Bool.false_eq_true, if_true, reduceCtorEq, not_false_eq_true, exOp_gt, exOp_gf, exOp_gf2, exOp_gs, h0]
   show Run T _ _ _ _
   refine Run.ret ⟨?_, rfl⟩
   first | (rw [f35, ite_f h0]; rfl) | (rw [f35, ite_f h0]; simp only [resV, ev_t, List.getD_cons_zero, List.getD_cons_succ, List.map_cons, List.map_nil, h0]; done) | (simp only [f35, if_true, Bool.false_eq_true, if_false, h0]; rfl)
theorem c35 (x0 : Int) (x1 : Int) (H : Heap) : PC T H 35 [.int .u8 x0, .int .u8 x1] (.bool (f35 x0 x1)) := PC.now rfl rfl (w35 x0 x1 )

/- smithy/smithyref01.size -/
def f60 (x0 : Int) : Int × Bool :=
if (decide (x0 ≥ (9223372036854775808 : Int))) then
  ((IntKind.u64.wrap (0 - x0)), true)
else
  (x0, false)
theorem w60 (x0 : Int) (H : Heap) : Fn T 60 [.int .u64 x0] H (fun r h => r = .tup [.int .u64 (f60 x0).1, .bool (f60 x0).2] ∧ h = H) := by
  refine Fn.enter t60 ?_; simp only [i60, List.length_cons, List.length_nil, Nat.reduceAdd, Nat.reduceSub, List.replicate_succ, List.replicate_zero, List.cons_append, List.nil_append]
  refine Run.seq ?_
  refine Run.rgn ?_
  refine RunO.all ?_
  simp only [i60r0, SB, x_mov]
  show Run T _ _ _ _
  refine Run.seq ?_
  refine Run.seq ?_
  refine Run.rgn ?_
  refine RunO.all ?_
  simp only [i60r1, SB, x_bin, binV, intB, x_mov, if_true, reduceCtorEq, not_false_eq_true]
  show Run T _ _ _ _
  refine Run.ite (by rfl) (fun h0 => ?_) (fun h0 => ?_)
  ·
   refine Run.seq ?_
   refine Run.rgn ?_
   refine RunO.all ?_
   simp only [i60r2, SB, x_mov, x_un, unV, intB, h0]
   show Run T _ _ _ _
   refine Run.ret ⟨?_, rfl⟩
   first | (rw [f60, ite_t h0]; rfl) | (rw [f60, ite_t h0]; simp only [resV, ev_t, List.getD_cons_zero, List.getD_cons_succ, List.map_cons, List.map_nil, h0]; done) | (simp only [f60, if_true, Bool.false_eq_true, if_false, h0]; rfl)
  ·
   refine Run.skip ?_
   show Run T _ _ _ _
   refine Run.seq ?_
   refine Run.rgn ?_
   refine RunO.all ?_
   simp only [i60r6, SB, x_mov, h0]
   show Run T _ _ _ _
   refine Run.ret ⟨?_, rfl⟩
   first | (rw [f60, ite_f h0]; rfl) | (rw [f60, ite_f h0]; simp only [resV, ev_t, List.getD_cons_zero, List.getD_cons_succ, List.map_cons, List.map_nil, h0]; done) | (simp only [f60, if_true, Bool.false_eq_true, if_false, h0]; rfl)
theorem c60 (x0 : Int) (H : Heap) : PC T H 60 [.int .u64 x0] (.tup [.int .u64 (f60 x0).1, .bool (f60 x0).2]) := PC.now rfl rfl (w60 x0 )

theorem f60_ne {w : Int} (h0 : 0 ≤ w) (h1 : w < 18446744073709551616) (h : (w == 0) = false) : ¬ (f60 w).1 = 0 := by
  have h : ¬ w = 0 := by simpa using h
  unfold f60
  split
  · show ¬ IntKind.u64.wrap (0 - w) = 0
    rw [IntKind.wrap_u64]; omega
  · exact h

/- smithy/smithyref01.over -/
def f53 (x0 : Int) (x1 : Int) : Int × Int :=
if (x1 == (0 : Int)) then
  ((0 : Int), (0 : Int))
else
  if (!((f60 x0).2 == (f60 x1).2)) then
    if (f60 x0).2 then
      ((IntKind.u64.wrap (0 - (IntKind.u64.wrap ((f60 x0).1.tdiv (f60 x1).1)))), (IntKind.u64.wrap (0 - ((f60 x0).1.tmod (f60 x1).1))))
    else
      ((IntKind.u64.wrap (0 - (IntKind.u64.wrap ((f60 x0).1.tdiv (f60 x1).1)))), ((f60 x0).1.tmod (f60 x1).1))
  else
    if (f60 x0).2 then
      ((IntKind.u64.wrap ((f60 x0).1.tdiv (f60 x1).1)), (IntKind.u64.wrap (0 - ((f60 x0).1.tmod (f60 x1).1))))
    else
      ((IntKind.u64.wrap ((f60 x0).1.tdiv (f60 x1).1)), ((f60 x0).1.tmod (f60 x1).1))
theorem w53 (x0 : Int) (x1 : Int) (b0 : 0 ≤ x1) (b1 : x1 < 18446744073709551616) (H : Heap) : Fn T 53 [.int .u64 x0, .int .u64 x1] H (fun r h => r = .tup [.int .u64 (f53 x0 x1).1, .int .u64 (f53 x0 x1).2] ∧ h = H) := by
  refine Fn.enter t53 ?_; simp only [i53, List.length_cons, List.length_nil, Nat.reduceAdd, Nat.reduceSub, List.replicate_succ, List.replicate_zero, List.cons_append, List.nil_append]
  refine Run.seq ?_
  refine Run.rgn ?_
  refine RunO.all ?_
  simp only [i53r0, SB, x_mov]
  show Run T _ _ _ _
  refine Run.seq ?_
  refine Run.seq ?_
  refine Run.rgn ?_
  refine RunO.all ?_
  simp only [i53r1, SB, x_bin, binV, intB, x_mov, if_true, reduceCtorEq, not_false_eq_true]
  show Run T _ _ _ _
  refine Run.ite (by rfl) (fun h0 => ?_) (fun h0 => ?_)
  ·
   refine Run.seq ?_
   refine Run.rgn ?_
   refine RunO.all ?_
   simp only [i53r2, SB, x_mov, h0]
   show Run T _ _ _ _
   refine Run.ret ⟨?_, rfl⟩
   first | (rw [f53, ite_t h0]; rfl) | (rw [f53, ite_t h0]; simp only [resV, ev_t, List.getD_cons_zero, List.getD_cons_succ, List.map_cons, List.map_nil, h0]; done) | (simp only [f53, if_true, Bool.false_eq_true, if_false, h0]; rfl)
  ·
   refine Run.skip ?_
   show Run T _ _ _ _
   refine Run.seq ?_
   refine Run.rgn ?_
   refine RunO.pre 1 ?_
   simp only [i53r6, List.take_succ_cons, List.take_zero, List.drop_succ_cons, List.drop_zero, SB, x_mov, h0, if_neg (beq_no h0), if_neg (f60_ne b0 b1 h0)]
   refine RunO.c (c60 x0 _) ?_
   refine RunO.all ?_
   simp only [SB, x_ext, extV, List.getElem?_cons_zero, List.getElem?_cons_succ, x_mov, h0, if_neg (beq_no h0), if_neg (f60_ne b0 b1 h0)]
   show Run T _ _ _ _
   refine Run.seq ?_
   refine Run.rgn ?_
   refine RunO.pre 1 ?_
   simp only [i53r7, List.take_succ_cons, List.take_zero, List.drop_succ_cons, List.drop_zero, SB, x_mov, h0, if_neg (beq_no h0), if_neg (f60_ne b0 b1 h0)]
   refine RunO.c (c60 x1 _) ?_
   refine RunO.all ?_
   simp only [SB, x_ext, extV, List.getElem?_cons_zero, List.getElem?_cons_succ, x_mov, h0, if_neg (beq_no h0), if_neg (f60_ne b0 b1 h0)]
   show Run T _ _ _ _
   refine Run.seq ?_
   refine Run.rgn ?_
   refine RunO.all ?_
   simp only [i53r8, SB, x_bin, binV, intB, x_mov, if_true, reduceCtorEq, not_false_eq_true, h0, if_neg (beq_no h0), if_neg (f60_ne b0 b1 h0)]
   show Run T _ _ _ _
   refine Run.seq ?_
   refine Run.seq ?_
   refine Run.rgn ?_
   refine RunO.all ?_
   simp only [i53r9, SB, x_bin, binV, intB, x_mov, if_true, reduceCtorEq, not_false_eq_true, h0, if_neg (beq_no h0), if_neg (f60_ne b0 b1 h0)]
   show Run T _ _ _ _
   refine Run.ite (by rfl) (fun h1 => ?_) (fun h1 => ?_)
   ·
    refine Run.rgn ?_
    refine RunO.all ?_
    simp only [i53r10, SB, x_mov, x_un, unV, intB, h0, h1, if_neg (beq_no h0), if_neg (f60_ne b0 b1 h0)]
    show Run T _ _ _ _
    refine Run.seq ?_
    refine Run.seq ?_
    refine Run.rgn ?_
    refine RunO.all ?_
    simp only [i53r13, SB, x_mov, h0, h1, if_neg (beq_no h0), if_neg (f60_ne b0 b1 h0)]
    show Run T _ _ _ _
    refine Run.ite (by rfl) (fun h2 => ?_) (fun h2 => ?_)
    ·
     refine Run.rgn ?_
     refine RunO.all ?_
     simp only [i53r14, SB, x_mov, x_un, unV, intB, h0, h1, h2, if_neg (beq_no h0), if_neg (f60_ne b0 b1 h0)]
     show Run T _ _ _ _
     refine Run.seq ?_
     refine Run.rgn ?_
     refine RunO.all ?_
     simp only [i53r17, SB, x_mov, h0, h1, h2, if_neg (beq_no h0), if_neg (f60_ne b0 b1 h0)]
     show Run T _ _ _ _
     refine Run.ret ⟨?_, rfl⟩
     first | (rw [f53, ite_f h0, ite_t h1, ite_t h2]; rfl) | (rw [f53, ite_f h0, ite_t h1, ite_t h2]; simp only [resV, ev_t, List.getD_cons_zero, List.getD_cons_succ, List.map_cons, List.map_nil, h0, h1, h2]; done) | (simp only [f53, if_true, Bool.false_eq_true, if_false, h0, h1, h2]; rfl)
    ·
     refine Run.skip ?_
     show Run T _ _ _ _
     refine Run.seq ?_
     refine Run.rgn ?_
     refine RunO.all ?_
     simp only [i53r17, SB, x_mov, h0, h1, h2, if_neg (beq_no h0), if_neg (f60_ne b0 b1 h0)]
     show Run T _ _ _ _
     refine Run.ret ⟨?_, rfl⟩
     first | (rw [f53, ite_f h0, ite_t h1, ite_f h2]; rfl) | (rw [f53, ite_f h0, ite_t h1, ite_f h2]; simp only [resV, ev_t, List.getD_cons_zero, List.getD_cons_succ, List.map_cons, List.map_nil, h0, h1, h2]; done) | (simp only [f53, if_true, Bool.false_eq_true, if_false, h0, h1, h2]; rfl)
   ·
    refine Run.skip ?_
    show Run T _ _ _ _
    refine Run.seq ?_
    refine Run.seq ?_
    refine Run.rgn ?_
    refine RunO.all ?_
    simp only [i53r13, SB, x_mov, h0, h1, if_neg (beq_no h0), if_neg (f60_ne b0 b1 h0)]
    show Run T _ _ _ _
    refine Run.ite (by rfl) (fun h3 => ?_) (fun h3 => ?_)
    ·
     refine Run.rgn ?_
     refine RunO.all ?_
     simp only [i53r14, SB, x_mov, x_un, unV, intB, h0, h1, h3, if_neg (beq_no h0), if_neg (f60_ne b0 b1 h0)]
     show Run T _ _ _ _
     refine Run.seq ?_
     refine Run.rgn ?_
     refine RunO.all ?_
     simp only [i53r17, SB, x_mov, h0, h1, h3, if_neg (beq_no h0), if_neg (f60_ne b0 b1 h0)]
     show Run T _ _ _ _
     refine Run.ret ⟨?_, rfl⟩
     first | (rw [f53, ite_f h0, ite_f h1, ite_t h3]; rfl) | (rw [f53, ite_f h0, ite_f h1, ite_t h3]; simp only [resV, ev_t, List.getD_cons_zero, List.getD_cons_succ, List.map_cons, List.map_nil, h0, h1, h3]; done) | (simp only [f53, if_true, Bool.false_eq_true, if_false, h0, h1, h3]; rfl)
    ·
     refine Run.skip ?_
     show Run T _ _ _ _
     refine Run.seq ?_
     refine Run.rgn ?_
     refine RunO.all ?_
     simp only [i53r17, SB, x_mov, h0, h1, h3, if_neg (beq_no h0), if_neg (f60_ne b0 b1 h0)]
     show Run T _ _ _ _
     refine Run.ret ⟨?_, rfl⟩
     first | (rw [f53, ite_f h0, ite_f h1, ite_f h3]; rfl) | (rw [f53, ite_f h0, ite_f h1, ite_f h3]; simp only [resV, ev_t, List.getD_cons_zero, List.getD_cons_succ, List.map_cons, List.map_nil, h0, h1, h3]; done) | (simp only [f53, if_true, Bool.false_eq_true, if_false, h0, h1, h3]; rfl)
theorem c53 (x0 : Int) (x1 : Int) (b0 : 0 ≤ x1) (b1 : x1 < 18446744073709551616) (H : Heap) : PC T H 53 [.int .u64 x0, .int .u64 x1] (.tup [.int .u64 (f53 x0 x1).1, .int .u64 (f53 x0 x1).2]) := PC.now rfl rfl (w53 x0 x1 b0 b1)

/- smithy/smithyref01.places -/
def f54 (x0 : Int) (x1 : Int) : Int :=
if (x0 == (2 : Int)) then
  (x1.tmod (8 : Int))
else
  if (x0 == (3 : Int)) then
    (x1.tmod (32 : Int))
  else
    (x1.tmod (64 : Int))
theorem w54 (x0 : Int) (x1 : Int) (H : Heap) : Fn T 54 [.int .u8 x0, .int .u64 x1] H (fun r h => r = .int .u64 (f54 x0 x1) ∧ h = H) := by
  refine Fn.enter t54 ?_; simp only [i54, List.length_cons, List.length_nil, Nat.reduceAdd, Nat.reduceSub, List.replicate_succ, List.replicate_zero, List.cons_append, List.nil_append]
  refine Run.seq ?_
  refine Run.rgn ?_
  refine RunO.all ?_
  simp only [i54r0, SB, x_mov]
  show Run T _ _ _ _
  refine Run.seq ?_
  refine Run.seq ?_
  refine Run.rgn ?_
  refine RunO.all ?_
  simp only [i54r1, SB, x_mov]
  show Run T _ _ _ _
  refine Run.block ?_
  refine Run.seq ?_
  refine Run.rgn ?_
  refine RunO.all ?_
  simp only [i54r2, SB, x_bin, binV, intB, x_mov, if_true, reduceCtorEq, not_false_eq_true]
  show Run T _ _ _ _
  refine Run.ite (by rfl) (fun h0 => ?_) (fun h0 => ?_)
  ·
   refine Run.seq ?_
   refine Run.rgn ?_
   refine RunO.all ?_
   simp only [i54r3, SB, x_bin, binV, intB, x_mov, if_true, reduceCtorEq, not_false_eq_true, h0, if_neg (show ¬ ((8 : Int) = 0) by decide)]
   show Run T _ _ _ _
   refine Run.ret ⟨?_, rfl⟩
   first | (rw [f54, ite_t h0]; rfl) | (rw [f54, ite_t h0]; simp only [resV, ev_t, List.getD_cons_zero, List.getD_cons_succ, List.map_cons, List.map_nil, h0]; done) | (simp only [f54, if_true, Bool.false_eq_true, if_false, h0]; rfl)
  ·
   refine Run.seq ?_
   refine Run.rgn ?_
   refine RunO.all ?_
   simp only [i54r5, SB, x_bin, binV, intB, x_mov, if_true, reduceCtorEq, not_false_eq_true, h0]
   show Run T _ _ _ _
   refine Run.ite (by rfl) (fun h1 => ?_) (fun h1 => ?_)
   ·
    refine Run.seq ?_
    refine Run.rgn ?_
    refine RunO.all ?_
    simp only [i54r6, SB, x_bin, binV, intB, x_mov, if_true, reduceCtorEq, not_false_eq_true, h0, h1, if_neg (show ¬ ((32 : Int) = 0) by decide)]
    show Run T _ _ _ _
    refine Run.ret ⟨?_, rfl⟩
    first | (rw [f54, ite_f h0, ite_t h1]; rfl) | (rw [f54, ite_f h0, ite_t h1]; simp only [resV, ev_t, List.getD_cons_zero, List.getD_cons_succ, List.map_cons, List.map_nil, h0, h1]; done) | (simp only [f54, if_true, Bool.false_eq_true, if_false, h0, h1]; rfl)
   ·
    refine Run.skip ?_
    show Run T _ _ _ _
    refine Run.seq ?_
    refine Run.rgn ?_
    refine RunO.all ?_
    simp only [i54r14, SB, x_bin, binV, intB, x_mov, if_true, reduceCtorEq, not_false_eq_true, h0, h1, if_neg (show ¬ ((64 : Int) = 0) by decide)]
    show Run T _ _ _ _
    refine Run.ret ⟨?_, rfl⟩
    first | (rw [f54, ite_f h0, ite_f h1]; rfl) | (rw [f54, ite_f h0, ite_f h1]; simp only [resV, ev_t, List.getD_cons_zero, List.getD_cons_succ, List.map_cons, List.map_nil, h0, h1]; done) | (simp only [f54, if_true, Bool.false_eq_true, if_false, h0, h1]; rfl)
theorem c54 (x0 : Int) (x1 : Int) (H : Heap) : PC T H 54 [.int .u8 x0, .int .u64 x1] (.int .u64 (f54 x0 x1)) := PC.now rfl rfl (w54 x0 x1 )

theorem f54_lt (a b : Int) : f54 a b < 64 := by
  unfold f54
  repeat' split
  all_goals first | (have := Int.tmod_lt_of_pos b (show (0:Int) < 8 by decide); omega) | (have := Int.tmod_lt_of_pos b (show (0:Int) < 32 by decide); omega) | exact Int.tmod_lt_of_pos b (by decide)
theorem f54_nn (a : Int) {b : Int} (h : 0 ≤ b) : 0 ≤ f54 a b := by
  unfold f54
  repeat' split
  all_goals exact Int.tmod_nonneg _ h
theorem f54_ng {a b : Int} (h : 0 ≤ b) : ¬ f54 a b < 0 := by have := f54_nn a h; omega

/- smithy/smithyref01.less -/
def f56 (x0 : Int) (x1 : Int) : Bool :=
(decide ((IntKind.u64.wrap (x0 + (9223372036854775808 : Int))) < (IntKind.u64.wrap (x1 + (9223372036854775808 : Int)))))
theorem w56 (x0 : Int) (x1 : Int) (H : Heap) : Fn T 56 [.int .u64 x0, .int .u64 x1] H (fun r h => r = .bool (f56 x0 x1) ∧ h = H) := by
  refine Fn.enter t56 ?_; simp only [i56, List.length_cons, List.length_nil, Nat.reduceAdd, Nat.reduceSub, List.replicate_succ, List.replicate_zero, List.cons_append, List.nil_append]
  refine Run.seq ?_
  refine Run.rgn ?_
  refine RunO.all ?_
  simp only [i56r0, SB, x_mov]
  show Run T _ _ _ _
  refine Run.seq ?_
  refine Run.rgn ?_
  refine RunO.all ?_
  simp only [i56r1, SB, x_bin, binV, intB, x_mov, if_true, reduceCtorEq, not_false_eq_true]
  show Run T _ _ _ _
  refine Run.ret ⟨?_, rfl⟩
  first | (rw [f56]; rfl) | (rw [f56]; simp only [resV, ev_t, List.getD_cons_zero, List.getD_cons_succ, List.map_cons, List.map_nil]; done) | (simp only [f56, if_true, Bool.false_eq_true, if_false]; rfl)
theorem c56 (x0 : Int) (x1 : Int) (H : Heap) : PC T H 56 [.int .u64 x0, .int .u64 x1] (.bool (f56 x0 x1)) := PC.now rfl rfl (w56 x0 x1 )

end Go.Eng.Sca
