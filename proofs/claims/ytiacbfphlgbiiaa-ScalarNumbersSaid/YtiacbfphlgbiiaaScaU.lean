/- Functions of this seat, each with a plain function that gives the same answers (lines written by a program of this session's; no condition beyond those stated). -/
import Derived.Test.YtiacbfphlgbiiaaScaS
import Derived.Test.YtiacbfphlgbiiaaScaR1
namespace Go.Eng.Sca
open Go Go.Eng
set_option linter.unusedVariables false
set_option linter.unusedSimpArgs false
set_option maxRecDepth 20000
set_option maxHeartbeats 4000000

/- smithy/smithyref01.Turn -/
def f33 (x0 : Int) (x1 : Int) (x2 : Int) : Int × Bool :=
if (!(f35 x0 x1)) then
  ((0 : Int), false)
else
  if (!(f12 x1 x2)) then
    ((0 : Int), false)
  else
    if (x1 == x0) then
      (x2, true)
    else
      if (x1 == (5 : Int)) then
        ((f47 x0 x2).1, true)
      else
        if (x0 == (5 : Int)) then
          ((((flt' (IntKind.i64.wrap x2)) : Nat) : Int), true)
        else
          ((f14 x0 x2), true)
theorem w33 (x0 : Int) (x1 : Int) (x2 : Int) (b0 : Wd x2) (H : Heap) : Fn T 33 [.int .u8 x0, .int .u8 x1, .int .u64 x2] H (fun r h => r = .tup [.int .u64 (f33 x0 x1 x2).1, .bool (f33 x0 x1 x2).2] ∧ h = H) := by
  refine Fn.enter t33 ?_; simp only [i33, List.length_cons, List.length_nil, Nat.reduceAdd, Nat.reduceSub, List.replicate_succ, List.replicate_zero, List.cons_append, List.nil_append]
  refine Run.seq ?_
  refine Run.rgn ?_
  refine RunO.all ?_
  simp only [i33r0, SB, x_mov]
  show Run T _ _ _ _
  refine Run.seq ?_
  refine Run.block ?_
  refine Run.seq ?_
  refine Run.rgn ?_
  refine RunO.pre 2 ?_
  simp only [i33r1, List.take_succ_cons, List.take_zero, List.drop_succ_cons, List.drop_zero, SB, x_mov]
  refine RunO.c (c35 x0 x1 _) ?_
  refine RunO.pre 2 ?_
  simp only [List.take_succ_cons, List.take_zero, List.drop_succ_cons, List.drop_zero, SB, x_mov, x_un, unV, intB]
  rcases Bool.eq_false_or_eq_true (!(f35 x0 x1)) with h0 | h0
  ·
   refine RunO.pre 2 ?_
   simp only [List.drop_zero, List.take_succ_cons, List.take_zero, List.drop_succ_cons, List.drop_zero, SB, x_mov, exOp_gt, exOp_gf, exOp_gf2, exOp_gs, h0]
   refine RunO.cs (b := true) (by rfl) (by decide) ?_
   refine RunO.all ?_
   simp only [SB, x_mov, x_pick, if_true, if_false, Bool.false_eq_true, x_un, unV, intB, exOp_gt, exOp_gf, exOp_gf2, exOp_gs, h0]
   show Run T _ _ _ _
   refine Run.ite (by rfl) (fun _ => ?_) (fun h => by first | exact absurd h (by decide) | (simp only [h0, reduceCtorEq, Bool.not_true, Bool.not_false, Bool.false_eq_true, Bool.true_eq_false] at h))
   refine Run.seq ?_
   refine Run.rgn ?_
   refine RunO.all ?_
   simp only [i33r2, SB, x_mov, h0]
   show Run T _ _ _ _
   refine Run.ret ⟨?_, rfl⟩
   first | (rw [f33, ite_t h0]; rfl) | (rw [f33, ite_t h0]; simp only [resV, ev_t, List.getD_cons_zero, List.getD_cons_succ, List.map_cons, List.map_nil, h0]; done) | (simp only [f33, if_true, Bool.false_eq_true, if_false, h0]; rfl)
  ·
   refine RunO.pre 2 ?_
   simp only [List.drop_zero, List.take_succ_cons, List.take_zero, List.drop_succ_cons, List.drop_zero, SB, x_mov, exOp_gt, exOp_gf, exOp_gf2, exOp_gs, h0]
   refine RunO.cg (by rfl) (c12 x1 x2 _) ?_
   refine RunO.all ?_
   simp only [SB, x_mov, x_pick, if_true, if_false, Bool.false_eq_true, x_un, unV, intB, exOp_gt, exOp_gf, exOp_gf2, exOp_gs, h0]
   show Run T _ _ _ _
   refine Run.ite (by rfl) (fun h1 => ?_) (fun h1 => ?_)
   ·
    refine Run.seq ?_
    refine Run.rgn ?_
    refine RunO.all ?_
    simp only [i33r2, SB, x_mov, h0, h1]
    show Run T _ _ _ _
    refine Run.ret ⟨?_, rfl⟩
    first | (rw [f33, ite_f h0, ite_t h1]; rfl) | (rw [f33, ite_f h0, ite_t h1]; simp only [resV, ev_t, List.getD_cons_zero, List.getD_cons_succ, List.map_cons, List.map_nil, h0, h1]; done) | (simp only [f33, if_true, Bool.false_eq_true, if_false, h0, h1]; rfl)
   ·
    refine Run.seq ?_
    refine Run.rgn ?_
    refine RunO.all ?_
    simp only [i33r4, SB, x_bin, binV, intB, x_mov, if_true, reduceCtorEq, not_false_eq_true, h0, h1]
    show Run T _ _ _ _
    refine Run.ite (by rfl) (fun h2 => ?_) (fun h2 => ?_)
    ·
     refine Run.seq ?_
     refine Run.rgn ?_
     refine RunO.all ?_
     simp only [i33r5, SB, x_mov, h0, h1, h2]
     show Run T _ _ _ _
     refine Run.ret ⟨?_, rfl⟩
     first | (rw [f33, ite_f h0, ite_f h1, ite_t h2]; rfl) | (rw [f33, ite_f h0, ite_f h1, ite_t h2]; simp only [resV, ev_t, List.getD_cons_zero, List.getD_cons_succ, List.map_cons, List.map_nil, h0, h1, h2]; done) | (simp only [f33, if_true, Bool.false_eq_true, if_false, h0, h1, h2]; rfl)
    ·
     refine Run.seq ?_
     refine Run.rgn ?_
     refine RunO.all ?_
     simp only [i33r7, SB, x_bin, binV, intB, x_mov, if_true, reduceCtorEq, not_false_eq_true, h0, h1, h2]
     show Run T _ _ _ _
     refine Run.ite (by rfl) (fun h3 => ?_) (fun h3 => ?_)
     ·
      refine Run.seq ?_
      refine Run.rgn ?_
      refine RunO.pre 2 ?_
      simp only [i33r8, List.take_succ_cons, List.take_zero, List.drop_succ_cons, List.drop_zero, SB, x_mov, h0, h1, h2, h3]
      refine RunO.c (c47 x0 x2 _) ?_
      refine RunO.all ?_
      simp only [SB, x_ext, extV, List.getElem?_cons_zero, List.getElem?_cons_succ, x_mov, h0, h1, h2, h3]
      show Run T _ _ _ _
      refine Run.seq ?_
      refine Run.rgn ?_
      refine RunO.all ?_
      simp only [i33r9, SB, x_mov, h0, h1, h2, h3]
      show Run T _ _ _ _
      refine Run.ret ⟨?_, rfl⟩
      first | (rw [f33, ite_f h0, ite_f h1, ite_f h2, ite_t h3]; rfl) | (rw [f33, ite_f h0, ite_f h1, ite_f h2, ite_t h3]; simp only [resV, ev_t, List.getD_cons_zero, List.getD_cons_succ, List.map_cons, List.map_nil, h0, h1, h2, h3]; done) | (simp only [f33, if_true, Bool.false_eq_true, if_false, h0, h1, h2, h3]; rfl)
     ·
      refine Run.seq ?_
      refine Run.rgn ?_
      refine RunO.all ?_
      simp only [i33r12, SB, x_bin, binV, intB, x_mov, if_true, reduceCtorEq, not_false_eq_true, h0, h1, h2, h3]
      show Run T _ _ _ _
      refine Run.ite (by rfl) (fun h4 => ?_) (fun h4 => ?_)
      ·
       refine Run.seq ?_
       refine Run.rgn ?_
       refine RunO.pre 1 ?_
       simp only [i33r13, List.take_succ_cons, List.take_zero, List.drop_succ_cons, List.drop_zero, SB, x_mov, h0, h1, h2, h3, h4]
       refine RunO.c (near_ok b0 _) ?_
       refine RunO.all ?_
       simp only [SB, x_mov, h0, h1, h2, h3, h4]
       show Run T _ _ _ _
       refine Run.ret ⟨?_, rfl⟩
       first | (rw [f33, ite_f h0, ite_f h1, ite_f h2, ite_f h3, ite_t h4]; rfl) | (rw [f33, ite_f h0, ite_f h1, ite_f h2, ite_f h3, ite_t h4]; simp only [resV, ev_t, List.getD_cons_zero, List.getD_cons_succ, List.map_cons, List.map_nil, h0, h1, h2, h3, h4]; done) | (simp only [f33, if_true, Bool.false_eq_true, if_false, h0, h1, h2, h3, h4]; rfl)
      ·
       refine Run.skip ?_
       show Run T _ _ _ _
       refine Run.seq ?_
       refine Run.rgn ?_
       refine RunO.pre 2 ?_
       simp only [i33r24, List.take_succ_cons, List.take_zero, List.drop_succ_cons, List.drop_zero, SB, x_mov, h0, h1, h2, h3, h4]
       refine RunO.c (c14 x0 x2 _) ?_
       refine RunO.all ?_
       simp only [SB, x_mov, h0, h1, h2, h3, h4]
       show Run T _ _ _ _
       refine Run.ret ⟨?_, rfl⟩
       first | (rw [f33, ite_f h0, ite_f h1, ite_f h2, ite_f h3, ite_f h4]; rfl) | (rw [f33, ite_f h0, ite_f h1, ite_f h2, ite_f h3, ite_f h4]; simp only [resV, ev_t, List.getD_cons_zero, List.getD_cons_succ, List.map_cons, List.map_nil, h0, h1, h2, h3, h4]; done) | (simp only [f33, if_true, Bool.false_eq_true, if_false, h0, h1, h2, h3, h4]; rfl)
theorem c33 (x0 : Int) (x1 : Int) (x2 : Int) (b0 : Wd x2) (H : Heap) : PC T H 33 [.int .u8 x0, .int .u8 x1, .int .u64 x2] (.tup [.int .u64 (f33 x0 x1 x2).1, .bool (f33 x0 x1 x2).2]) := PC.now rfl rfl (w33 x0 x1 x2 b0)

end Go.Eng.Sca
