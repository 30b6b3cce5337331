/- Functions of this seat, each with a plain function that gives the same answers (lines written by a program of this session's; no condition beyond those stated). -/
import Derived.Test.YtiacbfphlgbiiaaScaA
namespace Go.Eng.Sca
open Go Go.Eng
set_option linter.unusedVariables false
set_option linter.unusedSimpArgs false
set_option maxRecDepth 20000
set_option maxHeartbeats 4000000

/- smithy/scalar.order[float64] -/
def f49 (x0 : Int) (x1 : Option Nat) (x2 : Option Nat) : Int :=
if (x0 == (11 : Int)) then
  (f62 (flO x1 x2 == some .eq))
else
  if (x0 == (12 : Int)) then
    (f62 (flO x1 x2 != some .eq))
  else
    if (x0 == (13 : Int)) then
      (f62 (flO x1 x2 == some .lt))
    else
      if (x0 == (14 : Int)) then
        (f62 (flO x1 x2 == some .lt || flO x1 x2 == some .eq))
      else
        if (x0 == (15 : Int)) then
          (f62 (flO x1 x2 == some .gt))
        else
          (f62 (flO x1 x2 == some .gt || flO x1 x2 == some .eq))
theorem w49 (x0 : Int) (x1 : Option Nat) (x2 : Option Nat) (H : Heap) : Fn T 49 [.int .u8 x0, .fl x1, .fl x2] H (fun r h => r = .int .u64 (f49 x0 x1 x2) ∧ h = H) := by
  refine Fn.enter t49 ?_; simp only [i49, List.length_cons, List.length_nil, Nat.reduceAdd, Nat.reduceSub, List.replicate_succ, List.replicate_zero, List.cons_append, List.nil_append]
  refine Run.seq ?_
  refine Run.rgn ?_
  refine RunO.all ?_
  simp only [i49r0, SB, x_mov]
  show Run T _ _ _ _
  refine Run.seq ?_
  refine Run.seq ?_
  refine Run.rgn ?_
  refine RunO.all ?_
  simp only [i49r1, SB, x_mov]
  show Run T _ _ _ _
  refine Run.block ?_
  refine Run.seq ?_
  refine Run.rgn ?_
  refine RunO.all ?_
  simp only [i49r2, SB, x_bin, binV, intB, x_mov, if_true, reduceCtorEq, not_false_eq_true]
  show Run T _ _ _ _
  refine Run.ite (by rfl) (fun h0 => ?_) (fun h0 => ?_)
  ·
   refine Run.seq ?_
   refine Run.rgn ?_
   refine RunO.pre 3 ?_
   simp only [i49r3, List.take_succ_cons, List.take_zero, List.drop_succ_cons, List.drop_zero, SB, x_fbin, fbinV, x_mov, h0]
   refine RunO.c (c62 (flO x1 x2 == some .eq) _) ?_
   refine RunO.all ?_
   simp only [SB, x_mov, h0]
   show Run T _ _ _ _
   refine Run.ret ⟨?_, rfl⟩
   first | (rw [f49, ite_t h0]; rfl) | (rw [f49, ite_t h0]; simp only [resV, ev_t, List.getD_cons_zero, List.getD_cons_succ, List.map_cons, List.map_nil, h0]; done) | (simp only [f49, if_true, Bool.false_eq_true, if_false, h0]; rfl)
  ·
   refine Run.seq ?_
   refine Run.rgn ?_
   refine RunO.all ?_
   simp only [i49r5, SB, x_bin, binV, intB, x_mov, if_true, reduceCtorEq, not_false_eq_true, h0]
   show Run T _ _ _ _
   refine Run.ite (by rfl) (fun h1 => ?_) (fun h1 => ?_)
   ·
    refine Run.seq ?_
    refine Run.rgn ?_
    refine RunO.pre 3 ?_
    simp only [i49r6, List.take_succ_cons, List.take_zero, List.drop_succ_cons, List.drop_zero, SB, x_fbin, fbinV, x_mov, h0, h1]
    refine RunO.c (c62 (flO x1 x2 != some .eq) _) ?_
    refine RunO.all ?_
    simp only [SB, x_mov, h0, h1]
    show Run T _ _ _ _
    refine Run.ret ⟨?_, rfl⟩
    first | (rw [f49, ite_f h0, ite_t h1]; rfl) | (rw [f49, ite_f h0, ite_t h1]; simp only [resV, ev_t, List.getD_cons_zero, List.getD_cons_succ, List.map_cons, List.map_nil, h0, h1]; done) | (simp only [f49, if_true, Bool.false_eq_true, if_false, h0, h1]; rfl)
   ·
    refine Run.seq ?_
    refine Run.rgn ?_
    refine RunO.all ?_
    simp only [i49r8, SB, x_bin, binV, intB, x_mov, if_true, reduceCtorEq, not_false_eq_true, h0, h1]
    show Run T _ _ _ _
    refine Run.ite (by rfl) (fun h2 => ?_) (fun h2 => ?_)
    ·
     refine Run.seq ?_
     refine Run.rgn ?_
     refine RunO.pre 3 ?_
     simp only [i49r9, List.take_succ_cons, List.take_zero, List.drop_succ_cons, List.drop_zero, SB, x_fbin, fbinV, x_mov, h0, h1, h2]
     refine RunO.c (c62 (flO x1 x2 == some .lt) _) ?_
     refine RunO.all ?_
     simp only [SB, x_mov, h0, h1, h2]
     show Run T _ _ _ _
     refine Run.ret ⟨?_, rfl⟩
     first | (rw [f49, ite_f h0, ite_f h1, ite_t h2]; rfl) | (rw [f49, ite_f h0, ite_f h1, ite_t h2]; simp only [resV, ev_t, List.getD_cons_zero, List.getD_cons_succ, List.map_cons, List.map_nil, h0, h1, h2]; done) | (simp only [f49, if_true, Bool.false_eq_true, if_false, h0, h1, h2]; rfl)
    ·
     refine Run.seq ?_
     refine Run.rgn ?_
     refine RunO.all ?_
     simp only [i49r11, SB, x_bin, binV, intB, x_mov, if_true, reduceCtorEq, not_false_eq_true, h0, h1, h2]
     show Run T _ _ _ _
     refine Run.ite (by rfl) (fun h3 => ?_) (fun h3 => ?_)
     ·
      refine Run.seq ?_
      refine Run.rgn ?_
      refine RunO.pre 3 ?_
      simp only [i49r12, List.take_succ_cons, List.take_zero, List.drop_succ_cons, List.drop_zero, SB, x_fbin, fbinV, x_mov, h0, h1, h2, h3]
      refine RunO.c (c62 (flO x1 x2 == some .lt || flO x1 x2 == some .eq) _) ?_
      refine RunO.all ?_
      simp only [SB, x_mov, h0, h1, h2, h3]
      show Run T _ _ _ _
      refine Run.ret ⟨?_, rfl⟩
      first | (rw [f49, ite_f h0, ite_f h1, ite_f h2, ite_t h3]; rfl) | (rw [f49, ite_f h0, ite_f h1, ite_f h2, ite_t h3]; simp only [resV, ev_t, List.getD_cons_zero, List.getD_cons_succ, List.map_cons, List.map_nil, h0, h1, h2, h3]; done) | (simp only [f49, if_true, Bool.false_eq_true, if_false, h0, h1, h2, h3]; rfl)
     ·
      refine Run.seq ?_
      refine Run.rgn ?_
      refine RunO.all ?_
      simp only [i49r14, SB, x_bin, binV, intB, x_mov, if_true, reduceCtorEq, not_false_eq_true, h0, h1, h2, h3]
      show Run T _ _ _ _
      refine Run.ite (by rfl) (fun h4 => ?_) (fun h4 => ?_)
      ·
       refine Run.seq ?_
       refine Run.rgn ?_
       refine RunO.pre 3 ?_
       simp only [i49r15, List.take_succ_cons, List.take_zero, List.drop_succ_cons, List.drop_zero, SB, x_fbin, fbinV, x_mov, h0, h1, h2, h3, h4]
       refine RunO.c (c62 (flO x1 x2 == some .gt) _) ?_
       refine RunO.all ?_
       simp only [SB, x_mov, h0, h1, h2, h3, h4]
       show Run T _ _ _ _
       refine Run.ret ⟨?_, rfl⟩
       first | (rw [f49, ite_f h0, ite_f h1, ite_f h2, ite_f h3, ite_t h4]; rfl) | (rw [f49, ite_f h0, ite_f h1, ite_f h2, ite_f h3, ite_t h4]; simp only [resV, ev_t, List.getD_cons_zero, List.getD_cons_succ, List.map_cons, List.map_nil, h0, h1, h2, h3, h4]; done) | (simp only [f49, if_true, Bool.false_eq_true, if_false, h0, h1, h2, h3, h4]; rfl)
      ·
       refine Run.skip ?_
       show Run T _ _ _ _
       refine Run.seq ?_
       refine Run.rgn ?_
       refine RunO.pre 3 ?_
       simp only [i49r29, List.take_succ_cons, List.take_zero, List.drop_succ_cons, List.drop_zero, SB, x_fbin, fbinV, x_mov, h0, h1, h2, h3, h4]
       refine RunO.c (c62 (flO x1 x2 == some .gt || flO x1 x2 == some .eq) _) ?_
       refine RunO.all ?_
       simp only [SB, x_mov, h0, h1, h2, h3, h4]
       show Run T _ _ _ _
       refine Run.ret ⟨?_, rfl⟩
       first | (rw [f49, ite_f h0, ite_f h1, ite_f h2, ite_f h3, ite_f h4]; rfl) | (rw [f49, ite_f h0, ite_f h1, ite_f h2, ite_f h3, ite_f h4]; simp only [resV, ev_t, List.getD_cons_zero, List.getD_cons_succ, List.map_cons, List.map_nil, h0, h1, h2, h3, h4]; done) | (simp only [f49, if_true, Bool.false_eq_true, if_false, h0, h1, h2, h3, h4]; rfl)
theorem c49 (x0 : Int) (x1 : Option Nat) (x2 : Option Nat) (H : Heap) : PC T H 49 [.int .u8 x0, .fl x1, .fl x2] (.int .u64 (f49 x0 x1 x2)) := PC.now rfl rfl (w49 x0 x1 x2 )

/- smithy/scalar.order[int64] -/
def f51 (x0 : Int) (x1 : Int) (x2 : Int) : Int :=
if (x0 == (11 : Int)) then
  (f62 (x1 == x2))
else
  if (x0 == (12 : Int)) then
    (f62 (x1 != x2))
  else
    if (x0 == (13 : Int)) then
      (f62 (decide (x1 < x2)))
    else
      if (x0 == (14 : Int)) then
        (f62 (decide (x1 ≤ x2)))
      else
        if (x0 == (15 : Int)) then
          (f62 (decide (x1 > x2)))
        else
          (f62 (decide (x1 ≥ x2)))
theorem w51 (x0 : Int) (x1 : Int) (x2 : Int) (H : Heap) : Fn T 51 [.int .u8 x0, .int .i64 x1, .int .i64 x2] H (fun r h => r = .int .u64 (f51 x0 x1 x2) ∧ h = H) := by
  refine Fn.enter t51 ?_; simp only [i51, List.length_cons, List.length_nil, Nat.reduceAdd, Nat.reduceSub, List.replicate_succ, List.replicate_zero, List.cons_append, List.nil_append]
  refine Run.seq ?_
  refine Run.rgn ?_
  refine RunO.all ?_
  simp only [i51r0, SB, x_mov]
  show Run T _ _ _ _
  refine Run.seq ?_
  refine Run.seq ?_
  refine Run.rgn ?_
  refine RunO.all ?_
  simp only [i51r1, SB, x_mov]
  show Run T _ _ _ _
  refine Run.block ?_
  refine Run.seq ?_
  refine Run.rgn ?_
  refine RunO.all ?_
  simp only [i51r2, SB, x_bin, binV, intB, x_mov, if_true, reduceCtorEq, not_false_eq_true]
  show Run T _ _ _ _
  refine Run.ite (by rfl) (fun h0 => ?_) (fun h0 => ?_)
  ·
   refine Run.seq ?_
   refine Run.rgn ?_
   refine RunO.pre 3 ?_
   simp only [i51r3, List.take_succ_cons, List.take_zero, List.drop_succ_cons, List.drop_zero, SB, x_bin, binV, intB, x_mov, if_true, reduceCtorEq, not_false_eq_true, h0]
   refine RunO.c (c62 (x1 == x2) _) ?_
   refine RunO.all ?_
   simp only [SB, x_mov, h0]
   show Run T _ _ _ _
   refine Run.ret ⟨?_, rfl⟩
   first | (rw [f51, ite_t h0]; rfl) | (rw [f51, ite_t h0]; simp only [resV, ev_t, List.getD_cons_zero, List.getD_cons_succ, List.map_cons, List.map_nil, h0]; done) | (simp only [f51, if_true, Bool.false_eq_true, if_false, h0]; rfl)
  ·
   refine Run.seq ?_
   refine Run.rgn ?_
   refine RunO.all ?_
   simp only [i51r5, SB, x_bin, binV, intB, x_mov, if_true, reduceCtorEq, not_false_eq_true, h0]
   show Run T _ _ _ _
   refine Run.ite (by rfl) (fun h1 => ?_) (fun h1 => ?_)
   ·
    refine Run.seq ?_
    refine Run.rgn ?_
    refine RunO.pre 3 ?_
    simp only [i51r6, List.take_succ_cons, List.take_zero, List.drop_succ_cons, List.drop_zero, SB, x_bin, binV, intB, x_mov, if_true, reduceCtorEq, not_false_eq_true, h0, h1]
    refine RunO.c (c62 (x1 != x2) _) ?_
    refine RunO.all ?_
    simp only [SB, x_mov, h0, h1]
    show Run T _ _ _ _
    refine Run.ret ⟨?_, rfl⟩
    first | (rw [f51, ite_f h0, ite_t h1]; rfl) | (rw [f51, ite_f h0, ite_t h1]; simp only [resV, ev_t, List.getD_cons_zero, List.getD_cons_succ, List.map_cons, List.map_nil, h0, h1]; done) | (simp only [f51, if_true, Bool.false_eq_true, if_false, h0, h1]; rfl)
   ·
    refine Run.seq ?_
    refine Run.rgn ?_
    refine RunO.all ?_
    simp only [i51r8, SB, x_bin, binV, intB, x_mov, if_true, reduceCtorEq, not_false_eq_true, h0, h1]
    show Run T _ _ _ _
    refine Run.ite (by rfl) (fun h2 => ?_) (fun h2 => ?_)
    ·
     refine Run.seq ?_
     refine Run.rgn ?_
     refine RunO.pre 3 ?_
     simp only [i51r9, List.take_succ_cons, List.take_zero, List.drop_succ_cons, List.drop_zero, SB, x_bin, binV, intB, x_mov, if_true, reduceCtorEq, not_false_eq_true, h0, h1, h2]
     refine RunO.c (c62 (decide (x1 < x2)) _) ?_
     refine RunO.all ?_
     simp only [SB, x_mov, h0, h1, h2]
     show Run T _ _ _ _
     refine Run.ret ⟨?_, rfl⟩
     first | (rw [f51, ite_f h0, ite_f h1, ite_t h2]; rfl) | (rw [f51, ite_f h0, ite_f h1, ite_t h2]; simp only [resV, ev_t, List.getD_cons_zero, List.getD_cons_succ, List.map_cons, List.map_nil, h0, h1, h2]; done) | (simp only [f51, if_true, Bool.false_eq_true, if_false, h0, h1, h2]; rfl)
    ·
     refine Run.seq ?_
     refine Run.rgn ?_
     refine RunO.all ?_
     simp only [i51r11, SB, x_bin, binV, intB, x_mov, if_true, reduceCtorEq, not_false_eq_true, h0, h1, h2]
     show Run T _ _ _ _
     refine Run.ite (by rfl) (fun h3 => ?_) (fun h3 => ?_)
     ·
      refine Run.seq ?_
      refine Run.rgn ?_
      refine RunO.pre 3 ?_
      simp only [i51r12, List.take_succ_cons, List.take_zero, List.drop_succ_cons, List.drop_zero, SB, x_bin, binV, intB, x_mov, if_true, reduceCtorEq, not_false_eq_true, h0, h1, h2, h3]
      refine RunO.c (c62 (decide (x1 ≤ x2)) _) ?_
      refine RunO.all ?_
      simp only [SB, x_mov, h0, h1, h2, h3]
      show Run T _ _ _ _
      refine Run.ret ⟨?_, rfl⟩
      first | (rw [f51, ite_f h0, ite_f h1, ite_f h2, ite_t h3]; rfl) | (rw [f51, ite_f h0, ite_f h1, ite_f h2, ite_t h3]; simp only [resV, ev_t, List.getD_cons_zero, List.getD_cons_succ, List.map_cons, List.map_nil, h0, h1, h2, h3]; done) | (simp only [f51, if_true, Bool.false_eq_true, if_false, h0, h1, h2, h3]; rfl)
     ·
      refine Run.seq ?_
      refine Run.rgn ?_
      refine RunO.all ?_
      simp only [i51r14, SB, x_bin, binV, intB, x_mov, if_true, reduceCtorEq, not_false_eq_true, h0, h1, h2, h3]
      show Run T _ _ _ _
      refine Run.ite (by rfl) (fun h4 => ?_) (fun h4 => ?_)
      ·
       refine Run.seq ?_
       refine Run.rgn ?_
       refine RunO.pre 3 ?_
       simp only [i51r15, List.take_succ_cons, List.take_zero, List.drop_succ_cons, List.drop_zero, SB, x_bin, binV, intB, x_mov, if_true, reduceCtorEq, not_false_eq_true, h0, h1, h2, h3, h4]
       refine RunO.c (c62 (decide (x1 > x2)) _) ?_
       refine RunO.all ?_
       simp only [SB, x_mov, h0, h1, h2, h3, h4]
       show Run T _ _ _ _
       refine Run.ret ⟨?_, rfl⟩
       first | (rw [f51, ite_f h0, ite_f h1, ite_f h2, ite_f h3, ite_t h4]; rfl) | (rw [f51, ite_f h0, ite_f h1, ite_f h2, ite_f h3, ite_t h4]; simp only [resV, ev_t, List.getD_cons_zero, List.getD_cons_succ, List.map_cons, List.map_nil, h0, h1, h2, h3, h4]; done) | (simp only [f51, if_true, Bool.false_eq_true, if_false, h0, h1, h2, h3, h4]; rfl)
      ·
       refine Run.skip ?_
       show Run T _ _ _ _
       refine Run.seq ?_
       refine Run.rgn ?_
       refine RunO.pre 3 ?_
       simp only [i51r29, List.take_succ_cons, List.take_zero, List.drop_succ_cons, List.drop_zero, SB, x_bin, binV, intB, x_mov, if_true, reduceCtorEq, not_false_eq_true, h0, h1, h2, h3, h4]
       refine RunO.c (c62 (decide (x1 ≥ x2)) _) ?_
       refine RunO.all ?_
       simp only [SB, x_mov, h0, h1, h2, h3, h4]
       show Run T _ _ _ _
       refine Run.ret ⟨?_, rfl⟩
       first | (rw [f51, ite_f h0, ite_f h1, ite_f h2, ite_f h3, ite_f h4]; rfl) | (rw [f51, ite_f h0, ite_f h1, ite_f h2, ite_f h3, ite_f h4]; simp only [resV, ev_t, List.getD_cons_zero, List.getD_cons_succ, List.map_cons, List.map_nil, h0, h1, h2, h3, h4]; done) | (simp only [f51, if_true, Bool.false_eq_true, if_false, h0, h1, h2, h3, h4]; rfl)
theorem c51 (x0 : Int) (x1 : Int) (x2 : Int) (H : Heap) : PC T H 51 [.int .u8 x0, .int .i64 x1, .int .i64 x2] (.int .u64 (f51 x0 x1 x2)) := PC.now rfl rfl (w51 x0 x1 x2 )

/- smithy/scalar.shift -/
def f50 (x0 : Int) (x1 : Int) : Int :=
if (x0 == (2 : Int)) then
  (IntKind.u64.wrap ((BitVec.ofInt IntKind.u64.bits x1 &&& BitVec.ofInt IntKind.u64.bits (7 : Int)).toNat : Int))
else
  if (x0 == (3 : Int)) then
    (IntKind.u64.wrap ((BitVec.ofInt IntKind.u64.bits x1 &&& BitVec.ofInt IntKind.u64.bits (31 : Int)).toNat : Int))
  else
    (IntKind.u64.wrap ((BitVec.ofInt IntKind.u64.bits x1 &&& BitVec.ofInt IntKind.u64.bits (63 : Int)).toNat : Int))
theorem w50 (x0 : Int) (x1 : Int) (H : Heap) : Fn T 50 [.int .u8 x0, .int .u64 x1] H (fun r h => r = .int .u64 (f50 x0 x1) ∧ h = H) := by
  refine Fn.enter t50 ?_; simp only [i50, List.length_cons, List.length_nil, Nat.reduceAdd, Nat.reduceSub, List.replicate_succ, List.replicate_zero, List.cons_append, List.nil_append]
  refine Run.seq ?_
  refine Run.rgn ?_
  refine RunO.all ?_
  simp only [i50r0, SB, x_mov]
  show Run T _ _ _ _
  refine Run.seq ?_
  refine Run.seq ?_
  refine Run.rgn ?_
  refine RunO.all ?_
  simp only [i50r1, SB, x_mov]
  show Run T _ _ _ _
  refine Run.block ?_
  refine Run.seq ?_
  refine Run.rgn ?_
  refine RunO.all ?_
  simp only [i50r2, SB, x_bin, binV, intB, x_mov, if_true, reduceCtorEq, not_false_eq_true]
  show Run T _ _ _ _
  refine Run.ite (by rfl) (fun h0 => ?_) (fun h0 => ?_)
  ·
   refine Run.seq ?_
   refine Run.rgn ?_
   refine RunO.all ?_
   simp only [i50r3, SB, x_bin, binV, intB, x_mov, if_true, reduceCtorEq, not_false_eq_true, h0]
   show Run T _ _ _ _
   refine Run.ret ⟨?_, rfl⟩
   first | (rw [f50, ite_t h0]; rfl) | (rw [f50, ite_t h0]; simp only [resV, ev_t, List.getD_cons_zero, List.getD_cons_succ, List.map_cons, List.map_nil, h0]; done) | (simp only [f50, if_true, Bool.false_eq_true, if_false, h0]; rfl)
  ·
   refine Run.seq ?_
   refine Run.rgn ?_
   refine RunO.all ?_
   simp only [i50r5, SB, x_bin, binV, intB, x_mov, if_true, reduceCtorEq, not_false_eq_true, h0]
   show Run T _ _ _ _
   refine Run.ite (by rfl) (fun h1 => ?_) (fun h1 => ?_)
   ·
    refine Run.seq ?_
    refine Run.rgn ?_
    refine RunO.all ?_
    simp only [i50r6, SB, x_bin, binV, intB, x_mov, if_true, reduceCtorEq, not_false_eq_true, h0, h1]
    show Run T _ _ _ _
    refine Run.ret ⟨?_, rfl⟩
    first | (rw [f50, ite_f h0, ite_t h1]; rfl) | (rw [f50, ite_f h0, ite_t h1]; simp only [resV, ev_t, List.getD_cons_zero, List.getD_cons_succ, List.map_cons, List.map_nil, h0, h1]; done) | (simp only [f50, if_true, Bool.false_eq_true, if_false, h0, h1]; rfl)
   ·
    refine Run.skip ?_
    show Run T _ _ _ _
    refine Run.seq ?_
    refine Run.rgn ?_
    refine RunO.all ?_
    simp only [i50r14, SB, x_bin, binV, intB, x_mov, if_true, reduceCtorEq, not_false_eq_true, h0, h1]
    show Run T _ _ _ _
    refine Run.ret ⟨?_, rfl⟩
    first | (rw [f50, ite_f h0, ite_f h1]; rfl) | (rw [f50, ite_f h0, ite_f h1]; simp only [resV, ev_t, List.getD_cons_zero, List.getD_cons_succ, List.map_cons, List.map_nil, h0, h1]; done) | (simp only [f50, if_true, Bool.false_eq_true, if_false, h0, h1]; rfl)
theorem c50 (x0 : Int) (x1 : Int) (H : Heap) : PC T H 50 [.int .u8 x0, .int .u64 x1] (.int .u64 (f50 x0 x1)) := PC.now rfl rfl (w50 x0 x1 )

theorem f50_nn (a b : Int) : 0 ≤ f50 a b := by
  unfold f50
  repeat' split
  all_goals exact u64_nn _
theorem if_neg50 {α : Type} (x y : Int) (a b : α) : (if f50 x y < 0 then a else b) = b := if_neg (by have := f50_nn x y; omega)

end Go.Eng.Sca
