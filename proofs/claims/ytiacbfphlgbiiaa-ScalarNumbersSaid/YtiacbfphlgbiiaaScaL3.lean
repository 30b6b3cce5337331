/- Functions of this seat, each with a plain function that gives the same answers (lines written by a program of this session's; no condition beyond those stated). -/
import Derived.Test.YtiacbfphlgbiiaaScaI
namespace Go.Eng.Sca
open Go Go.Eng
set_option linter.unusedVariables false
set_option linter.unusedSimpArgs false
set_option maxRecDepth 20000
set_option maxHeartbeats 4000000

/- smithy/smithylaw01.ScalarWords -/
theorem w3 (x0 : Int) (x1 : Int)
    (o0 : ((f11 x0 x1) == (f12 x0 x1)) = true)
    (o1 : ((f13 x0 x1) == (f14 x0 x1)) = true) (H : Heap) :
    Fn T 3 [.int .u8 x0, .int .u64 x1] H (fun r h => r = .bool true ∧ h = H) := by
  refine Fn.enter t3 ?_; simp only [i3, List.length_cons, List.length_nil, Nat.reduceAdd, Nat.reduceSub, List.replicate_succ, List.replicate_zero, List.cons_append, List.nil_append]
  refine Run.seq ?_
  refine Run.rgn ?_
  refine RunO.all ?_
  simp only [i3r0, SB, x_mov]
  show Run T _ _ _ _
  refine Run.seq ?_
  refine Run.rgn ?_
  refine RunO.pre 2 ?_
  simp only [i3r1, List.take_succ_cons, List.take_zero, List.drop_succ_cons, List.drop_zero, SB, x_mov]
  refine RunO.c (c11 x0 x1 _) ?_
  refine RunO.pre 2 ?_
  simp only [List.take_succ_cons, List.take_zero, List.drop_succ_cons, List.drop_zero, SB, x_mov]
  refine RunO.c (c12 x0 x1 _) ?_
  refine RunO.pre 2 ?_
  simp only [List.take_succ_cons, List.take_zero, List.drop_succ_cons, List.drop_zero, SB, x_bin, binV, intB, x_mov, if_true, reduceCtorEq, not_false_eq_true]
  have h0 : ((f11 x0 x1) == (f12 x0 x1)) = true := o0
  refine RunO.pre 2 ?_
  simp only [List.drop_zero, List.take_succ_cons, List.take_zero, List.drop_succ_cons, List.drop_zero, SB, x_mov, exOp_gt, exOp_gf, exOp_gf2, exOp_gs, h0]
  refine RunO.cg (by rfl) (c13 x0 x1 _) ?_
  refine RunO.pre 2 ?_
  simp only [List.take_succ_cons, List.take_zero, List.drop_succ_cons, List.drop_zero, SB, x_mov, exOp_gt, exOp_gf, exOp_gf2, exOp_gs, h0]
  refine RunO.cg (by rfl) (c14 x0 x1 _) ?_
  refine RunO.pre 3 ?_
  simp only [List.take_succ_cons, List.take_zero, List.drop_succ_cons, List.drop_zero, SB, x_bin, binV, intB, x_mov, x_pick, if_true, if_false, Bool.false_eq_true, if_true, reduceCtorEq, not_false_eq_true, exOp_gt, exOp_gf, exOp_gf2, exOp_gs, h0]
  have h1 : ((f13 x0 x1) == (f14 x0 x1)) = true := o1
  refine RunO.pre 0 ?_
  simp only [List.drop_zero, List.take_succ_cons, List.take_zero, List.drop_succ_cons, List.drop_zero, SB, h0, h1]
  refine RunO.cg (by rfl) (awakeY _) ?_
  refine RunO.all ?_
  simp only [SB, x_mov, x_pick, if_true, if_false, Bool.false_eq_true, h0, h1]
  show Run T _ _ _ _
  refine Run.ret ⟨?_, rfl⟩
  rfl

end Go.Eng.Sca
