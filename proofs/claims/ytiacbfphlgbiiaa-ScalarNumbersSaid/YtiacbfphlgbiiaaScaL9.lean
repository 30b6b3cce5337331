/- Functions of this seat, each with a plain function that gives the same answers (lines written by a program of this session's; no condition beyond those stated). -/
import Derived.Test.YtiacbfphlgbiiaaScaU
import Derived.Test.YtiacbfphlgbiiaaScaP2
namespace Go.Eng.Sca
open Go Go.Eng
set_option linter.unusedVariables false
set_option linter.unusedSimpArgs false
set_option maxRecDepth 20000
set_option maxHeartbeats 4000000

/- smithy/smithylaw01.ScalarTurns -/
theorem w9 (x0 : Int) (x1 : Int) (x2 : Int) (b0 : Wd x2)
    (o0 : ((f28 x0 x1 x2).1 != (f33 x0 x1 x2).1) = false)
    (o1 : (!((f28 x0 x1 x2).2 == (f33 x0 x1 x2).2)) = false)
    (o2 : (!((f34 x0 x1) == (f35 x0 x1))) = false)
    (o3 : (!((f30 x0 x1 x2) == (f36 x0 x1 x2))) = false)
    (o4 : ((f28 x0 x1 (f14 x1 x2)).1 != (f33 x0 x1 (f14 x1 x2)).1) = false)
    (o5 : (!((f28 x0 x1 (f14 x1 x2)).2 == (f33 x0 x1 (f14 x1 x2)).2)) = false)
    (o6 : (!((f30 x0 x1 (f14 x1 x2)) == (f36 x0 x1 (f14 x1 x2)))) = false) (H : Heap) :
    Fn T 9 [.int .u8 x0, .int .u8 x1, .int .u64 x2] H (fun r h => r = .bool true ∧ h = H) := by
  refine Fn.enter t9 ?_; simp only [i9, List.length_cons, List.length_nil, Nat.reduceAdd, Nat.reduceSub, List.replicate_succ, List.replicate_zero, List.cons_append, List.nil_append]
  refine Run.seq ?_
  refine Run.rgn ?_
  refine RunO.all ?_
  simp only [i9r0, SB, x_mov]
  show Run T _ _ _ _
  refine Run.seq ?_
  refine Run.seq ?_
  refine Run.rgn ?_
  refine RunO.all ?_
  simp only [i9r1, SB, x_mov]
  show Run T _ _ _ _
  refine Run.block ?_
  refine Run.loop1 ?_
  refine Run.clr ?_
  simp only [clrEnv, List.set_cons_zero, List.set_cons_succ]
  refine Run.seq ?_
  refine Run.seq ?_
  refine Run.rgn ?_
  refine RunO.all ?_
  simp only [i9r2, SB, x_bin, binV, intB, x_mov, if_true, reduceCtorEq, not_false_eq_true, if_false, Bool.false_eq_true, Int.reduceBEq, Int.reduceBNe, Int.reduceLT, Int.reduceLE, Int.reduceGT, Int.reduceGE, decide_true, decide_false, beq_self_eq_true, bne_self_eq_false]
  show Run T _ _ _ _
  refine Run.ite (by rfl) (fun _ => ?_) (fun h => by first | exact absurd h (by decide) | (simp only [reduceCtorEq, Bool.not_true, Bool.not_false, Bool.false_eq_true, Bool.true_eq_false] at h))
  refine Run.skip ?_
  show Run T _ _ _ _
  refine Run.seq ?_
  refine Run.block ?_
  refine Run.seq ?_
  refine Run.rgn ?_
  refine RunO.pre 3 ?_
  simp only [i9r5, List.take_succ_cons, List.take_zero, List.drop_succ_cons, List.drop_zero, SB, x_mov]
  refine RunO.c (c28 x0 x1 x2 _) ?_
  refine RunO.all ?_
  simp only [SB, x_ext, extV, List.getElem?_cons_zero, List.getElem?_cons_succ, x_mov]
  show Run T _ _ _ _
  refine Run.seq ?_
  refine Run.rgn ?_
  refine RunO.pre 3 ?_
  simp only [i9r6, List.take_succ_cons, List.take_zero, List.drop_succ_cons, List.drop_zero, SB, x_mov]
  refine RunO.c (c33 x0 x1 x2 (by first | exact b0 | exact f14_nn b0) _) ?_
  refine RunO.all ?_
  simp only [SB, x_ext, extV, List.getElem?_cons_zero, List.getElem?_cons_succ, x_mov]
  show Run T _ _ _ _
  refine Run.seq ?_
  refine Run.seq ?_
  refine Run.rgn ?_
  refine RunO.pre 4 ?_
  simp only [i9r7, List.take_succ_cons, List.take_zero, List.drop_succ_cons, List.drop_zero, SB, x_bin, binV, intB, x_mov, if_true, reduceCtorEq, not_false_eq_true]
  have h0 : ((f28 x0 x1 x2).1 != (f33 x0 x1 x2).1) = false := o0
  refine RunO.pre 5 ?_
  simp only [List.drop_zero, List.take_succ_cons, List.take_zero, List.drop_succ_cons, List.drop_zero, SB, x_bin, binV, intB, x_mov, x_pick, if_true, if_false, Bool.false_eq_true, if_true, reduceCtorEq, not_false_eq_true, exOp_gt, exOp_gf, exOp_gf2, exOp_gs, h0]
  have h1 : (!((f28 x0 x1 x2).2 == (f33 x0 x1 x2).2)) = false := o1
  refine RunO.pre 2 ?_
  simp only [List.drop_zero, List.take_succ_cons, List.take_zero, List.drop_succ_cons, List.drop_zero, SB, x_mov, exOp_gt, exOp_gf, exOp_gf2, exOp_gs, h0, h1]
  refine RunO.cg (by rfl) (c34 x0 x1 _) ?_
  refine RunO.pre 2 ?_
  simp only [List.take_succ_cons, List.take_zero, List.drop_succ_cons, List.drop_zero, SB, x_mov, exOp_gt, exOp_gf, exOp_gf2, exOp_gs, h0, h1]
  refine RunO.cg (by rfl) (c35 x0 x1 _) ?_
  refine RunO.pre 3 ?_
  simp only [List.take_succ_cons, List.take_zero, List.drop_succ_cons, List.drop_zero, SB, x_bin, binV, intB, x_mov, x_pick, if_true, if_false, Bool.false_eq_true, if_true, reduceCtorEq, not_false_eq_true, exOp_gt, exOp_gf, exOp_gf2, exOp_gs, h0, h1]
  have h2 : (!((f34 x0 x1) == (f35 x0 x1))) = false := o2
  refine RunO.pre 3 ?_
  simp only [List.drop_zero, List.take_succ_cons, List.take_zero, List.drop_succ_cons, List.drop_zero, SB, x_mov, exOp_gt, exOp_gf, exOp_gf2, exOp_gs, h0, h1, h2]
  refine RunO.cg (by rfl) (c30 x0 x1 x2 _) ?_
  refine RunO.pre 3 ?_
  simp only [List.take_succ_cons, List.take_zero, List.drop_succ_cons, List.drop_zero, SB, x_mov, exOp_gt, exOp_gf, exOp_gf2, exOp_gs, h0, h1, h2]
  refine RunO.cg (by rfl) (c36 x0 x1 x2 _) ?_
  refine RunO.all ?_
  simp only [SB, x_bin, binV, intB, x_pick, if_true, if_false, Bool.false_eq_true, if_true, reduceCtorEq, not_false_eq_true, exOp_gt, exOp_gf, exOp_gf2, exOp_gs, h0, h1, h2]
  show Run T _ _ _ _
  have h3 : (!((f30 x0 x1 x2) == (f36 x0 x1 x2))) = false := o3
  refine Run.ite (by rfl) (fun h => by rw [h3] at h; cases h) (fun _ => ?_)
  refine Run.skip ?_
  show Run T _ _ _ _
  refine Run.rgn ?_
  refine RunO.pre 2 ?_
  simp only [i9r12, List.take_succ_cons, List.take_zero, List.drop_succ_cons, List.drop_zero, SB, x_mov, h0, h1, h2, h3]
  refine RunO.c (c14 x1 x2 _) ?_
  refine RunO.all ?_
  simp only [SB, x_mov, h0, h1, h2, h3]
  show Run T _ _ _ _
  refine Run.rgn ?_
  refine RunO.all ?_
  simp only [i9r17, SB, x_bin, binV, intB, x_mov, if_true, reduceCtorEq, not_false_eq_true, if_false, Bool.false_eq_true, Int.reduceBEq, Int.reduceBNe, Int.reduceLT, Int.reduceLE, Int.reduceGT, Int.reduceGE, decide_true, decide_false, beq_self_eq_true, bne_self_eq_false, h0, h1, h2, h3]
  show Run T _ _ _ _
  refine Run.loop1 ?_
  refine Run.clr ?_
  simp only [clrEnv, List.set_cons_zero, List.set_cons_succ]
  refine Run.seq ?_
  refine Run.seq ?_
  refine Run.rgn ?_
  refine RunO.all ?_
  simp only [i9r2, SB, x_bin, binV, intB, x_mov, if_true, reduceCtorEq, not_false_eq_true, if_false, Bool.false_eq_true, Int.reduceBEq, Int.reduceBNe, Int.reduceLT, Int.reduceLE, Int.reduceGT, Int.reduceGE, decide_true, decide_false, beq_self_eq_true, bne_self_eq_false, h0, h1, h2, h3]
  show Run T _ _ _ _
  refine Run.ite (by rfl) (fun _ => ?_) (fun h => by first | exact absurd h (by decide) | (simp only [h0, h1, h2, h3, reduceCtorEq, Bool.not_true, Bool.not_false, Bool.false_eq_true, Bool.true_eq_false] at h))
  refine Run.skip ?_
  show Run T _ _ _ _
  refine Run.seq ?_
  refine Run.block ?_
  refine Run.seq ?_
  refine Run.rgn ?_
  refine RunO.pre 3 ?_
  simp only [i9r5, List.take_succ_cons, List.take_zero, List.drop_succ_cons, List.drop_zero, SB, x_mov, h0, h1, h2, h3]
  refine RunO.c (c28 x0 x1 (f14 x1 x2) _) ?_
  refine RunO.all ?_
  simp only [SB, x_ext, extV, List.getElem?_cons_zero, List.getElem?_cons_succ, x_mov, h0, h1, h2, h3]
  show Run T _ _ _ _
  refine Run.seq ?_
  refine Run.rgn ?_
  refine RunO.pre 3 ?_
  simp only [i9r6, List.take_succ_cons, List.take_zero, List.drop_succ_cons, List.drop_zero, SB, x_mov, h0, h1, h2, h3]
  refine RunO.c (c33 x0 x1 (f14 x1 x2) (by first | exact b0 | exact f14_nn b0) _) ?_
  refine RunO.all ?_
  simp only [SB, x_ext, extV, List.getElem?_cons_zero, List.getElem?_cons_succ, x_mov, h0, h1, h2, h3]
  show Run T _ _ _ _
  refine Run.seq ?_
  refine Run.seq ?_
  refine Run.rgn ?_
  refine RunO.pre 4 ?_
  simp only [i9r7, List.take_succ_cons, List.take_zero, List.drop_succ_cons, List.drop_zero, SB, x_bin, binV, intB, x_mov, if_true, reduceCtorEq, not_false_eq_true, h0, h1, h2, h3]
  have h4 : ((f28 x0 x1 (f14 x1 x2)).1 != (f33 x0 x1 (f14 x1 x2)).1) = false := o4
  refine RunO.pre 5 ?_
  simp only [List.drop_zero, List.take_succ_cons, List.take_zero, List.drop_succ_cons, List.drop_zero, SB, x_bin, binV, intB, x_mov, x_pick, if_true, if_false, Bool.false_eq_true, if_true, reduceCtorEq, not_false_eq_true, exOp_gt, exOp_gf, exOp_gf2, exOp_gs, h0, h1, h2, h3, h4]
  have h5 : (!((f28 x0 x1 (f14 x1 x2)).2 == (f33 x0 x1 (f14 x1 x2)).2)) = false := o5
  refine RunO.pre 2 ?_
  simp only [List.drop_zero, List.take_succ_cons, List.take_zero, List.drop_succ_cons, List.drop_zero, SB, x_mov, exOp_gt, exOp_gf, exOp_gf2, exOp_gs, h0, h1, h2, h3, h4, h5]
  refine RunO.cg (by rfl) (c34 x0 x1 _) ?_
  refine RunO.pre 2 ?_
  simp only [List.take_succ_cons, List.take_zero, List.drop_succ_cons, List.drop_zero, SB, x_mov, exOp_gt, exOp_gf, exOp_gf2, exOp_gs, h0, h1, h2, h3, h4, h5]
  refine RunO.cg (by rfl) (c35 x0 x1 _) ?_
  refine RunO.pre 6 ?_
  simp only [List.take_succ_cons, List.take_zero, List.drop_succ_cons, List.drop_zero, SB, x_bin, binV, intB, x_mov, x_pick, if_true, if_false, Bool.false_eq_true, if_true, reduceCtorEq, not_false_eq_true, exOp_gt, exOp_gf, exOp_gf2, exOp_gs, h0, h1, h2, h3, h4, h5]
  refine RunO.cg (by rfl) (c30 x0 x1 (f14 x1 x2) _) ?_
  refine RunO.pre 3 ?_
  simp only [List.take_succ_cons, List.take_zero, List.drop_succ_cons, List.drop_zero, SB, x_mov, exOp_gt, exOp_gf, exOp_gf2, exOp_gs, h0, h1, h2, h3, h4, h5]
  refine RunO.cg (by rfl) (c36 x0 x1 (f14 x1 x2) _) ?_
  refine RunO.all ?_
  simp only [SB, x_bin, binV, intB, x_pick, if_true, if_false, Bool.false_eq_true, if_true, reduceCtorEq, not_false_eq_true, exOp_gt, exOp_gf, exOp_gf2, exOp_gs, h0, h1, h2, h3, h4, h5]
  show Run T _ _ _ _
  have h6 : (!((f30 x0 x1 (f14 x1 x2)) == (f36 x0 x1 (f14 x1 x2)))) = false := o6
  refine Run.ite (by rfl) (fun h => by rw [h6] at h; cases h) (fun _ => ?_)
  refine Run.skip ?_
  show Run T _ _ _ _
  refine Run.rgn ?_
  refine RunO.pre 2 ?_
  simp only [i9r12, List.take_succ_cons, List.take_zero, List.drop_succ_cons, List.drop_zero, SB, x_mov, h0, h1, h2, h3, h4, h5, h6]
  refine RunO.c (c14 x1 (f14 x1 x2) _) ?_
  refine RunO.all ?_
  simp only [SB, x_mov, h0, h1, h2, h3, h4, h5, h6]
  show Run T _ _ _ _
  refine Run.rgn ?_
  refine RunO.all ?_
  simp only [i9r17, SB, x_bin, binV, intB, x_mov, if_true, reduceCtorEq, not_false_eq_true, if_false, Bool.false_eq_true, Int.reduceBEq, Int.reduceBNe, Int.reduceLT, Int.reduceLE, Int.reduceGT, Int.reduceGE, decide_true, decide_false, beq_self_eq_true, bne_self_eq_false, h0, h1, h2, h3, h4, h5, h6]
  show Run T _ _ _ _
  refine Run.loop1 ?_
  refine Run.clr ?_
  simp only [clrEnv, List.set_cons_zero, List.set_cons_succ]
  refine Run.seq ?_
  refine Run.seq ?_
  refine Run.rgn ?_
  refine RunO.all ?_
  simp only [i9r2, SB, x_bin, binV, intB, x_mov, if_true, reduceCtorEq, not_false_eq_true, if_false, Bool.false_eq_true, Int.reduceBEq, Int.reduceBNe, Int.reduceLT, Int.reduceLE, Int.reduceGT, Int.reduceGE, decide_true, decide_false, beq_self_eq_true, bne_self_eq_false, h0, h1, h2, h3, h4, h5, h6]
  show Run T _ _ _ _
  refine Run.ite (by rfl) (fun h => by first | exact absurd h (by decide) | (simp only [h0, h1, h2, h3, h4, h5, h6, reduceCtorEq, Bool.not_true, Bool.not_false, Bool.false_eq_true, Bool.true_eq_false] at h)) (fun _ => ?_)
  refine Run.exit ?_
  show Run T _ _ _ _
  refine Run.seq ?_
  refine Run.rgn ?_
  refine RunO.pre 0 ?_
  simp only [i9r23, List.take_succ_cons, List.take_zero, List.drop_succ_cons, List.drop_zero, SB, h0, h1, h2, h3, h4, h5, h6]
  refine RunO.c (awakeY _) ?_
  refine RunO.all ?_
  simp only [SB, x_mov, h0, h1, h2, h3, h4, h5, h6]
  show Run T _ _ _ _
  refine Run.ret ⟨?_, rfl⟩
  rfl

end Go.Eng.Sca
