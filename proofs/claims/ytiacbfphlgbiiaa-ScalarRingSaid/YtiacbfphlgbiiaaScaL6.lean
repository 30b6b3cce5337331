/- Functions of this seat, each with a plain function that gives the same answers (lines written by a program of this session's; no condition beyond those stated). -/
import Derived.Test.YtiacbfphlgbiiaaScaI
namespace Go.Eng.Sca
open Go Go.Eng
set_option linter.unusedVariables false
set_option linter.unusedSimpArgs false
set_option maxRecDepth 20000
set_option maxHeartbeats 4000000

/- smithy/smithylaw01.ScalarRing -/
theorem w6 (x0 : Int) (x1 : Int) (x2 : Int) (x3 : Int)
    (o0 : ((f17 (1 : Int) (f16 x0) (f13 (f16 x0) x1) (f13 (f16 x0) x2)) != (f17 (1 : Int) (f16 x0) (f13 (f16 x0) x2) (f13 (f16 x0) x1))) = false)
    (o1 : ((f17 (3 : Int) (f16 x0) (f13 (f16 x0) x1) (f13 (f16 x0) x2)) != (f17 (3 : Int) (f16 x0) (f13 (f16 x0) x2) (f13 (f16 x0) x1))) = false)
    (o2 : (!(f11 (f16 x0) (f17 (1 : Int) (f16 x0) (f13 (f16 x0) x1) (f13 (f16 x0) x2)))) = false)
    (o3 : (!(f11 (f16 x0) (f17 (3 : Int) (f16 x0) (f13 (f16 x0) x1) (f13 (f16 x0) x2)))) = false)
    (o4 : ((f17 (1 : Int) (f16 x0) (f13 (f16 x0) x1) (f13 (f16 x0) x2)) != (f13 (f16 x0) (IntKind.u64.wrap ((f13 (f16 x0) x1) + (f13 (f16 x0) x2))))) = false)
    (o5 : ((f17 (3 : Int) (f16 x0) (f13 (f16 x0) x1) (f13 (f16 x0) x2)) != (f13 (f16 x0) (IntKind.u64.wrap ((f13 (f16 x0) x1) * (f13 (f16 x0) x2))))) = false)
    (o6 : ((f17 (1 : Int) (f16 x0) (f17 (1 : Int) (f16 x0) (f13 (f16 x0) x1) (f13 (f16 x0) x2)) (f13 (f16 x0) x3)) != (f17 (1 : Int) (f16 x0) (f13 (f16 x0) x1) (f17 (1 : Int) (f16 x0) (f13 (f16 x0) x2) (f13 (f16 x0) x3)))) = false)
    (o7 : ((f17 (3 : Int) (f16 x0) (f17 (3 : Int) (f16 x0) (f13 (f16 x0) x1) (f13 (f16 x0) x2)) (f13 (f16 x0) x3)) != (f17 (3 : Int) (f16 x0) (f13 (f16 x0) x1) (f17 (3 : Int) (f16 x0) (f13 (f16 x0) x2) (f13 (f16 x0) x3)))) = false)
    (o8 : ((f17 (2 : Int) (f16 x0) (f17 (1 : Int) (f16 x0) (f13 (f16 x0) x1) (f13 (f16 x0) x2)) (f13 (f16 x0) x2)) != (f13 (f16 x0) x1)) = false)
    (o9 : ((f17 (3 : Int) (f16 x0) (f13 (f16 x0) x1) (f17 (1 : Int) (f16 x0) (f13 (f16 x0) x2) (f13 (f16 x0) x3))) != (f17 (1 : Int) (f16 x0) (f17 (3 : Int) (f16 x0) (f13 (f16 x0) x1) (f13 (f16 x0) x2)) (f17 (3 : Int) (f16 x0) (f13 (f16 x0) x1) (f13 (f16 x0) x3)))) = false)
    (o10 : (!(f23 (17 : Int) (f16 x0) (f13 (f16 x0) x2)).2) = false)
    (o11 : (!(f23 (18 : Int) (f16 x0) (f13 (f16 x0) x2)).2) = false)
    (o12 : ((f17 (1 : Int) (f16 x0) (f13 (f16 x0) x1) (f23 (17 : Int) (f16 x0) (f13 (f16 x0) x2)).1) != (f17 (2 : Int) (f16 x0) (f13 (f16 x0) x1) (f13 (f16 x0) x2))) = false)
    (o13 : ((f17 (1 : Int) (f16 x0) (f23 (18 : Int) (f16 x0) (f13 (f16 x0) x2)).1 (1 : Int)) != (f23 (17 : Int) (f16 x0) (f13 (f16 x0) x2)).1) = false)
    (o14 : ((f13 (f16 x0) x2) == (0 : Int)) = true → ((f17 (4 : Int) (f16 x0) (f13 (f16 x0) x1) (f13 (f16 x0) x2)) == (0 : Int)) = true)
    (o15 : ((f13 (f16 x0) x2) == (0 : Int)) = true → ((f17 (5 : Int) (f16 x0) (f13 (f16 x0) x1) (f13 (f16 x0) x2)) == (0 : Int)) = true)
    (o16 : ((f13 (f16 x0) x2) == (0 : Int)) = true → (f25 (4 : Int) (f16 x0) (f13 (f16 x0) x2)) = true)
    (o17 : ((f13 (f16 x0) x2) == (0 : Int)) = true → (f25 (5 : Int) (f16 x0) (f13 (f16 x0) x2)) = true)
    (o18 : ((f13 (f16 x0) x2) == (0 : Int)) = false → (decide ((f27 (f17 (5 : Int) (f16 x0) (f13 (f16 x0) x1) (f13 (f16 x0) x2))) < (f27 (f13 (f16 x0) x2)))) = true)
    (o19 : ((f13 (f16 x0) x2) == (0 : Int)) = false → ((f17 (5 : Int) (f16 x0) (f13 (f16 x0) x1) (f13 (f16 x0) x2)) == (0 : Int)) = true → ((f17 (1 : Int) (f16 x0) (f17 (3 : Int) (f16 x0) (f17 (4 : Int) (f16 x0) (f13 (f16 x0) x1) (f13 (f16 x0) x2)) (f13 (f16 x0) x2)) (f17 (5 : Int) (f16 x0) (f13 (f16 x0) x1) (f13 (f16 x0) x2))) == (f13 (f16 x0) x1)) = true)
    (o20 : ((f13 (f16 x0) x2) == (0 : Int)) = false → ((f17 (5 : Int) (f16 x0) (f13 (f16 x0) x1) (f13 (f16 x0) x2)) == (0 : Int)) = true → (!(f25 (4 : Int) (f16 x0) (f13 (f16 x0) x2))) = true)
    (o21 : ((f13 (f16 x0) x2) == (0 : Int)) = false → ((f17 (5 : Int) (f16 x0) (f13 (f16 x0) x1) (f13 (f16 x0) x2)) == (0 : Int)) = true → (f11 (f16 x0) (f17 (4 : Int) (f16 x0) (f13 (f16 x0) x1) (f13 (f16 x0) x2))) = true)
    (o22 : ((f13 (f16 x0) x2) == (0 : Int)) = false → ((f17 (5 : Int) (f16 x0) (f13 (f16 x0) x1) (f13 (f16 x0) x2)) == (0 : Int)) = true → (f11 (f16 x0) (f17 (5 : Int) (f16 x0) (f13 (f16 x0) x1) (f13 (f16 x0) x2))) = true)
    (o23 : ((f13 (f16 x0) x2) == (0 : Int)) = false → ((f17 (5 : Int) (f16 x0) (f13 (f16 x0) x1) (f13 (f16 x0) x2)) == (0 : Int)) = false → ((f17 (1 : Int) (f16 x0) (f17 (3 : Int) (f16 x0) (f17 (4 : Int) (f16 x0) (f13 (f16 x0) x1) (f13 (f16 x0) x2)) (f13 (f16 x0) x2)) (f17 (5 : Int) (f16 x0) (f13 (f16 x0) x1) (f13 (f16 x0) x2))) == (f13 (f16 x0) x1)) = true)
    (o24 : ((f13 (f16 x0) x2) == (0 : Int)) = false → ((f17 (5 : Int) (f16 x0) (f13 (f16 x0) x1) (f13 (f16 x0) x2)) == (0 : Int)) = false → ((decide ((IntKind.i64.wrap (f17 (5 : Int) (f16 x0) (f13 (f16 x0) x1) (f13 (f16 x0) x2))) < (0 : Int))) == (decide ((IntKind.i64.wrap (f13 (f16 x0) x1)) < (0 : Int)))) = true)
    (o25 : ((f13 (f16 x0) x2) == (0 : Int)) = false → ((f17 (5 : Int) (f16 x0) (f13 (f16 x0) x1) (f13 (f16 x0) x2)) == (0 : Int)) = false → (!(f25 (4 : Int) (f16 x0) (f13 (f16 x0) x2))) = true)
    (o26 : ((f13 (f16 x0) x2) == (0 : Int)) = false → ((f17 (5 : Int) (f16 x0) (f13 (f16 x0) x1) (f13 (f16 x0) x2)) == (0 : Int)) = false → (f11 (f16 x0) (f17 (4 : Int) (f16 x0) (f13 (f16 x0) x1) (f13 (f16 x0) x2))) = true)
    (o27 : ((f13 (f16 x0) x2) == (0 : Int)) = false → ((f17 (5 : Int) (f16 x0) (f13 (f16 x0) x1) (f13 (f16 x0) x2)) == (0 : Int)) = false → (f11 (f16 x0) (f17 (5 : Int) (f16 x0) (f13 (f16 x0) x1) (f13 (f16 x0) x2))) = true) (H : Heap) :
    Fn T 6 [.int .u8 x0, .int .u64 x1, .int .u64 x2, .int .u64 x3] H (fun r h => r = .bool true ∧ h = H) := by
  refine Fn.enter t6 ?_; simp only [i6, List.length_cons, List.length_nil, Nat.reduceAdd, Nat.reduceSub, List.replicate_succ, List.replicate_zero, List.cons_append, List.nil_append]
  refine Run.seq ?_
  refine Run.rgn ?_
  refine RunO.all ?_
  simp only [i6r0, exOps_nil, exOps_cons, bindO_some, put_some, ev_t, ev_c, List.getD_cons_zero, List.getD_cons_succ, List.set_cons_zero, List.set_cons_succ, optB_some, mapQ_some, x_mov]
  show Run T _ _ _ _
  refine Run.seq ?_
  refine Run.seq ?_
  refine Run.rgn ?_
  refine RunO.pre 0 ?_
  simp only [i6r1, List.take_succ_cons, List.take_zero, List.drop_succ_cons, List.drop_zero, exOps_nil, exOps_cons, bindO_some, put_some, ev_t, ev_c, List.getD_cons_zero, List.getD_cons_succ, List.set_cons_zero, List.set_cons_succ, optB_some, mapQ_some]
  refine RunO.c (awakeY _) ?_
  refine RunO.all ?_
  simp only [exOps_nil, exOps_cons, bindO_some, put_some, ev_t, ev_c, List.getD_cons_zero, List.getD_cons_succ, List.set_cons_zero, List.set_cons_succ, optB_some, mapQ_some, x_un, unV, intB]
  show Run T _ _ _ _
  refine Run.ite (by rfl) (fun h => by first | exact absurd h (by decide) | (simp only [reduceCtorEq, Bool.not_true, Bool.not_false, Bool.false_eq_true, Bool.true_eq_false] at h)) (fun _ => ?_)
  refine Run.skip ?_
  show Run T _ _ _ _
  refine Run.seq ?_
  refine Run.rgn ?_
  refine RunO.pre 1 ?_
  simp only [i6r6, List.take_succ_cons, List.take_zero, List.drop_succ_cons, List.drop_zero, exOps_nil, exOps_cons, bindO_some, put_some, ev_t, ev_c, List.getD_cons_zero, List.getD_cons_succ, List.set_cons_zero, List.set_cons_succ, optB_some, mapQ_some, x_mov]
  refine RunO.c (c16 x0 _) ?_
  refine RunO.all ?_
  simp only [exOps_nil, exOps_cons, bindO_some, put_some, ev_t, ev_c, List.getD_cons_zero, List.getD_cons_succ, List.set_cons_zero, List.set_cons_succ, optB_some, mapQ_some, x_mov]
  show Run T _ _ _ _
  refine Run.seq ?_
  refine Run.rgn ?_
  refine RunO.pre 2 ?_
  simp only [i6r7, List.take_succ_cons, List.take_zero, List.drop_succ_cons, List.drop_zero, exOps_nil, exOps_cons, bindO_some, put_some, ev_t, ev_c, List.getD_cons_zero, List.getD_cons_succ, List.set_cons_zero, List.set_cons_succ, optB_some, mapQ_some, x_mov]
  refine RunO.c (c13 (f16 x0) x1 _) ?_
  refine RunO.pre 2 ?_
  simp only [List.take_succ_cons, List.take_zero, List.drop_succ_cons, List.drop_zero, exOps_nil, exOps_cons, bindO_some, put_some, ev_t, ev_c, List.getD_cons_zero, List.getD_cons_succ, List.set_cons_zero, List.set_cons_succ, optB_some, mapQ_some, x_mov]
  refine RunO.c (c13 (f16 x0) x2 _) ?_
  refine RunO.pre 2 ?_
  simp only [List.take_succ_cons, List.take_zero, List.drop_succ_cons, List.drop_zero, exOps_nil, exOps_cons, bindO_some, put_some, ev_t, ev_c, List.getD_cons_zero, List.getD_cons_succ, List.set_cons_zero, List.set_cons_succ, optB_some, mapQ_some, x_mov]
  refine RunO.c (c13 (f16 x0) x3 _) ?_
  refine RunO.all ?_
  simp only [exOps_nil, exOps_cons, bindO_some, put_some, ev_t, ev_c, List.getD_cons_zero, List.getD_cons_succ, List.set_cons_zero, List.set_cons_succ, optB_some, mapQ_some, x_mov]
  show Run T _ _ _ _
  refine Run.seq ?_
  refine Run.rgn ?_
  refine RunO.pre 3 ?_
  simp only [i6r8, List.take_succ_cons, List.take_zero, List.drop_succ_cons, List.drop_zero, exOps_nil, exOps_cons, bindO_some, put_some, ev_t, ev_c, List.getD_cons_zero, List.getD_cons_succ, List.set_cons_zero, List.set_cons_succ, optB_some, mapQ_some, x_mov]
  refine RunO.c (c17 (1 : Int) (f16 x0) (f13 (f16 x0) x1) (f13 (f16 x0) x2) _) ?_
  refine RunO.pre 3 ?_
  simp only [List.take_succ_cons, List.take_zero, List.drop_succ_cons, List.drop_zero, exOps_nil, exOps_cons, bindO_some, put_some, ev_t, ev_c, List.getD_cons_zero, List.getD_cons_succ, List.set_cons_zero, List.set_cons_succ, optB_some, mapQ_some, x_mov]
  refine RunO.c (c17 (1 : Int) (f16 x0) (f13 (f16 x0) x2) (f13 (f16 x0) x1) _) ?_
  refine RunO.all ?_
  simp only [exOps_nil, exOps_cons, bindO_some, put_some, ev_t, ev_c, List.getD_cons_zero, List.getD_cons_succ, List.set_cons_zero, List.set_cons_succ, optB_some, mapQ_some, x_mov]
  show Run T _ _ _ _
  refine Run.seq ?_
  refine Run.rgn ?_
  refine RunO.pre 3 ?_
  simp only [i6r9, List.take_succ_cons, List.take_zero, List.drop_succ_cons, List.drop_zero, exOps_nil, exOps_cons, bindO_some, put_some, ev_t, ev_c, List.getD_cons_zero, List.getD_cons_succ, List.set_cons_zero, List.set_cons_succ, optB_some, mapQ_some, x_mov]
  refine RunO.c (c17 (3 : Int) (f16 x0) (f13 (f16 x0) x1) (f13 (f16 x0) x2) _) ?_
  refine RunO.pre 3 ?_
  simp only [List.take_succ_cons, List.take_zero, List.drop_succ_cons, List.drop_zero, exOps_nil, exOps_cons, bindO_some, put_some, ev_t, ev_c, List.getD_cons_zero, List.getD_cons_succ, List.set_cons_zero, List.set_cons_succ, optB_some, mapQ_some, x_mov]
  refine RunO.c (c17 (3 : Int) (f16 x0) (f13 (f16 x0) x2) (f13 (f16 x0) x1) _) ?_
  refine RunO.all ?_
  simp only [exOps_nil, exOps_cons, bindO_some, put_some, ev_t, ev_c, List.getD_cons_zero, List.getD_cons_succ, List.set_cons_zero, List.set_cons_succ, optB_some, mapQ_some, x_mov]
  show Run T _ _ _ _
  refine Run.seq ?_
  refine Run.seq ?_
  refine Run.rgn ?_
  refine RunO.pre 4 ?_
  simp only [i6r10, List.take_succ_cons, List.take_zero, List.drop_succ_cons, List.drop_zero, exOps_nil, exOps_cons, bindO_some, put_some, ev_t, ev_c, List.getD_cons_zero, List.getD_cons_succ, List.set_cons_zero, List.set_cons_succ, optB_some, mapQ_some, x_bin, binV, intB, x_mov, if_true, if_false, reduceCtorEq, Bool.false_eq_true, Int.reduceBEq, Int.reduceBNe, Int.reduceLT, Int.reduceLE, Int.reduceGT, Int.reduceGE, decide_true, decide_false, beq_self_eq_true, bne_self_eq_false, not_false_eq_true]
  have h0 : ((f17 (1 : Int) (f16 x0) (f13 (f16 x0) x1) (f13 (f16 x0) x2)) != (f17 (1 : Int) (f16 x0) (f13 (f16 x0) x2) (f13 (f16 x0) x1))) = false := o0
  refine RunO.pre 5 ?_
  simp only [List.drop_zero, List.take_succ_cons, List.take_zero, List.drop_succ_cons, List.drop_zero, exOps_nil, exOps_cons, bindO_some, put_some, ev_t, ev_c, List.getD_cons_zero, List.getD_cons_succ, List.set_cons_zero, List.set_cons_succ, optB_some, mapQ_some, x_bin, binV, intB, x_mov, x_pick, if_true, if_false, Bool.false_eq_true, if_true, if_false, reduceCtorEq, Bool.false_eq_true, Int.reduceBEq, Int.reduceBNe, Int.reduceLT, Int.reduceLE, Int.reduceGT, Int.reduceGE, decide_true, decide_false, beq_self_eq_true, bne_self_eq_false, not_false_eq_true, exOp_gt, exOp_gf, exOp_gf2, exOp_gs, h0]
  have h1 : ((f17 (3 : Int) (f16 x0) (f13 (f16 x0) x1) (f13 (f16 x0) x2)) != (f17 (3 : Int) (f16 x0) (f13 (f16 x0) x2) (f13 (f16 x0) x1))) = false := o1
  refine RunO.pre 2 ?_
  simp only [List.drop_zero, List.take_succ_cons, List.take_zero, List.drop_succ_cons, List.drop_zero, exOps_nil, exOps_cons, bindO_some, put_some, ev_t, ev_c, List.getD_cons_zero, List.getD_cons_succ, List.set_cons_zero, List.set_cons_succ, optB_some, mapQ_some, x_mov, exOp_gt, exOp_gf, exOp_gf2, exOp_gs, h0, h1]
  refine RunO.cg (by rfl) (c11 (f16 x0) (f17 (1 : Int) (f16 x0) (f13 (f16 x0) x1) (f13 (f16 x0) x2)) _) ?_
  refine RunO.pre 3 ?_
  simp only [List.take_succ_cons, List.take_zero, List.drop_succ_cons, List.drop_zero, exOps_nil, exOps_cons, bindO_some, put_some, ev_t, ev_c, List.getD_cons_zero, List.getD_cons_succ, List.set_cons_zero, List.set_cons_succ, optB_some, mapQ_some, x_mov, x_pick, if_true, if_false, Bool.false_eq_true, x_un, unV, intB, exOp_gt, exOp_gf, exOp_gf2, exOp_gs, h0, h1]
  have h2 : (!(f11 (f16 x0) (f17 (1 : Int) (f16 x0) (f13 (f16 x0) x1) (f13 (f16 x0) x2)))) = false := o2
  refine RunO.pre 2 ?_
  simp only [List.drop_zero, List.take_succ_cons, List.take_zero, List.drop_succ_cons, List.drop_zero, exOps_nil, exOps_cons, bindO_some, put_some, ev_t, ev_c, List.getD_cons_zero, List.getD_cons_succ, List.set_cons_zero, List.set_cons_succ, optB_some, mapQ_some, x_mov, exOp_gt, exOp_gf, exOp_gf2, exOp_gs, h0, h1, h2]
  refine RunO.cg (by rfl) (c11 (f16 x0) (f17 (3 : Int) (f16 x0) (f13 (f16 x0) x1) (f13 (f16 x0) x2)) _) ?_
  refine RunO.pre 3 ?_
  simp only [List.take_succ_cons, List.take_zero, List.drop_succ_cons, List.drop_zero, exOps_nil, exOps_cons, bindO_some, put_some, ev_t, ev_c, List.getD_cons_zero, List.getD_cons_succ, List.set_cons_zero, List.set_cons_succ, optB_some, mapQ_some, x_mov, x_pick, if_true, if_false, Bool.false_eq_true, x_un, unV, intB, exOp_gt, exOp_gf, exOp_gf2, exOp_gs, h0, h1, h2]
  have h3 : (!(f11 (f16 x0) (f17 (3 : Int) (f16 x0) (f13 (f16 x0) x1) (f13 (f16 x0) x2)))) = false := o3
  refine RunO.pre 5 ?_
  simp only [List.drop_zero, List.take_succ_cons, List.take_zero, List.drop_succ_cons, List.drop_zero, exOps_nil, exOps_cons, bindO_some, put_some, ev_t, ev_c, List.getD_cons_zero, List.getD_cons_succ, List.set_cons_zero, List.set_cons_succ, optB_some, mapQ_some, x_bin, binV, intB, x_mov, if_true, if_false, reduceCtorEq, Bool.false_eq_true, Int.reduceBEq, Int.reduceBNe, Int.reduceLT, Int.reduceLE, Int.reduceGT, Int.reduceGE, decide_true, decide_false, beq_self_eq_true, bne_self_eq_false, not_false_eq_true, exOp_gt, exOp_gf, exOp_gf2, exOp_gs, h0, h1, h2, h3]
  refine RunO.cg (by rfl) (c13 (f16 x0) (IntKind.u64.wrap ((f13 (f16 x0) x1) + (f13 (f16 x0) x2))) _) ?_
  refine RunO.pre 3 ?_
  simp only [List.take_succ_cons, List.take_zero, List.drop_succ_cons, List.drop_zero, exOps_nil, exOps_cons, bindO_some, put_some, ev_t, ev_c, List.getD_cons_zero, List.getD_cons_succ, List.set_cons_zero, List.set_cons_succ, optB_some, mapQ_some, x_bin, binV, intB, x_mov, x_pick, if_true, if_false, Bool.false_eq_true, if_true, if_false, reduceCtorEq, Bool.false_eq_true, Int.reduceBEq, Int.reduceBNe, Int.reduceLT, Int.reduceLE, Int.reduceGT, Int.reduceGE, decide_true, decide_false, beq_self_eq_true, bne_self_eq_false, not_false_eq_true, exOp_gt, exOp_gf, exOp_gf2, exOp_gs, h0, h1, h2, h3]
  have h4 : ((f17 (1 : Int) (f16 x0) (f13 (f16 x0) x1) (f13 (f16 x0) x2)) != (f13 (f16 x0) (IntKind.u64.wrap ((f13 (f16 x0) x1) + (f13 (f16 x0) x2))))) = false := o4
  refine RunO.pre 5 ?_
  simp only [List.drop_zero, List.take_succ_cons, List.take_zero, List.drop_succ_cons, List.drop_zero, exOps_nil, exOps_cons, bindO_some, put_some, ev_t, ev_c, List.getD_cons_zero, List.getD_cons_succ, List.set_cons_zero, List.set_cons_succ, optB_some, mapQ_some, x_bin, binV, intB, x_mov, if_true, if_false, reduceCtorEq, Bool.false_eq_true, Int.reduceBEq, Int.reduceBNe, Int.reduceLT, Int.reduceLE, Int.reduceGT, Int.reduceGE, decide_true, decide_false, beq_self_eq_true, bne_self_eq_false, not_false_eq_true, exOp_gt, exOp_gf, exOp_gf2, exOp_gs, h0, h1, h2, h3, h4]
  refine RunO.cg (by rfl) (c13 (f16 x0) (IntKind.u64.wrap ((f13 (f16 x0) x1) * (f13 (f16 x0) x2))) _) ?_
  refine RunO.all ?_
  simp only [exOps_nil, exOps_cons, bindO_some, put_some, ev_t, ev_c, List.getD_cons_zero, List.getD_cons_succ, List.set_cons_zero, List.set_cons_succ, optB_some, mapQ_some, x_bin, binV, intB, x_pick, if_true, if_false, Bool.false_eq_true, if_true, if_false, reduceCtorEq, Bool.false_eq_true, Int.reduceBEq, Int.reduceBNe, Int.reduceLT, Int.reduceLE, Int.reduceGT, Int.reduceGE, decide_true, decide_false, beq_self_eq_true, bne_self_eq_false, not_false_eq_true, exOp_gt, exOp_gf, exOp_gf2, exOp_gs, h0, h1, h2, h3, h4]
  show Run T _ _ _ _
  have h5 : ((f17 (3 : Int) (f16 x0) (f13 (f16 x0) x1) (f13 (f16 x0) x2)) != (f13 (f16 x0) (IntKind.u64.wrap ((f13 (f16 x0) x1) * (f13 (f16 x0) x2))))) = false := o5
  refine Run.ite (by rfl) (fun h => by rw [h5] at h; cases h) (fun _ => ?_)
  refine Run.skip ?_
  show Run T _ _ _ _
  refine Run.seq ?_
  refine Run.seq ?_
  refine Run.rgn ?_
  refine RunO.pre 3 ?_
  simp only [i6r15, List.take_succ_cons, List.take_zero, List.drop_succ_cons, List.drop_zero, exOps_nil, exOps_cons, bindO_some, put_some, ev_t, ev_c, List.getD_cons_zero, List.getD_cons_succ, List.set_cons_zero, List.set_cons_succ, optB_some, mapQ_some, x_mov, h0, h1, h2, h3, h4, h5]
  refine RunO.c (c17 (1 : Int) (f16 x0) (f17 (1 : Int) (f16 x0) (f13 (f16 x0) x1) (f13 (f16 x0) x2)) (f13 (f16 x0) x3) _) ?_
  refine RunO.pre 5 ?_
  simp only [List.take_succ_cons, List.take_zero, List.drop_succ_cons, List.drop_zero, exOps_nil, exOps_cons, bindO_some, put_some, ev_t, ev_c, List.getD_cons_zero, List.getD_cons_succ, List.set_cons_zero, List.set_cons_succ, optB_some, mapQ_some, x_mov, h0, h1, h2, h3, h4, h5]
  refine RunO.c (c17 (1 : Int) (f16 x0) (f13 (f16 x0) x2) (f13 (f16 x0) x3) _) ?_
  refine RunO.c (c17 (1 : Int) (f16 x0) (f13 (f16 x0) x1) (f17 (1 : Int) (f16 x0) (f13 (f16 x0) x2) (f13 (f16 x0) x3)) _) ?_
  refine RunO.pre 2 ?_
  simp only [List.take_succ_cons, List.take_zero, List.drop_succ_cons, List.drop_zero, exOps_nil, exOps_cons, bindO_some, put_some, ev_t, ev_c, List.getD_cons_zero, List.getD_cons_succ, List.set_cons_zero, List.set_cons_succ, optB_some, mapQ_some, x_bin, binV, intB, x_mov, if_true, if_false, reduceCtorEq, Bool.false_eq_true, Int.reduceBEq, Int.reduceBNe, Int.reduceLT, Int.reduceLE, Int.reduceGT, Int.reduceGE, decide_true, decide_false, beq_self_eq_true, bne_self_eq_false, not_false_eq_true, h0, h1, h2, h3, h4, h5]
  have h6 : ((f17 (1 : Int) (f16 x0) (f17 (1 : Int) (f16 x0) (f13 (f16 x0) x1) (f13 (f16 x0) x2)) (f13 (f16 x0) x3)) != (f17 (1 : Int) (f16 x0) (f13 (f16 x0) x1) (f17 (1 : Int) (f16 x0) (f13 (f16 x0) x2) (f13 (f16 x0) x3)))) = false := o6
  refine RunO.pre 3 ?_
  simp only [List.drop_zero, List.take_succ_cons, List.take_zero, List.drop_succ_cons, List.drop_zero, exOps_nil, exOps_cons, bindO_some, put_some, ev_t, ev_c, List.getD_cons_zero, List.getD_cons_succ, List.set_cons_zero, List.set_cons_succ, optB_some, mapQ_some, x_mov, exOp_gt, exOp_gf, exOp_gf2, exOp_gs, h0, h1, h2, h3, h4, h5, h6]
  refine RunO.cg (by rfl) (c17 (3 : Int) (f16 x0) (f17 (3 : Int) (f16 x0) (f13 (f16 x0) x1) (f13 (f16 x0) x2)) (f13 (f16 x0) x3) _) ?_
  refine RunO.pre 5 ?_
  simp only [List.take_succ_cons, List.take_zero, List.drop_succ_cons, List.drop_zero, exOps_nil, exOps_cons, bindO_some, put_some, ev_t, ev_c, List.getD_cons_zero, List.getD_cons_succ, List.set_cons_zero, List.set_cons_succ, optB_some, mapQ_some, x_mov, exOp_gt, exOp_gf, exOp_gf2, exOp_gs, h0, h1, h2, h3, h4, h5, h6]
  refine RunO.cg (by rfl) (c17 (3 : Int) (f16 x0) (f13 (f16 x0) x2) (f13 (f16 x0) x3) _) ?_
  refine RunO.cg (by rfl) (c17 (3 : Int) (f16 x0) (f13 (f16 x0) x1) (f17 (3 : Int) (f16 x0) (f13 (f16 x0) x2) (f13 (f16 x0) x3)) _) ?_
  refine RunO.pre 3 ?_
  simp only [List.take_succ_cons, List.take_zero, List.drop_succ_cons, List.drop_zero, exOps_nil, exOps_cons, bindO_some, put_some, ev_t, ev_c, List.getD_cons_zero, List.getD_cons_succ, List.set_cons_zero, List.set_cons_succ, optB_some, mapQ_some, x_bin, binV, intB, x_mov, x_pick, if_true, if_false, Bool.false_eq_true, if_true, if_false, reduceCtorEq, Bool.false_eq_true, Int.reduceBEq, Int.reduceBNe, Int.reduceLT, Int.reduceLE, Int.reduceGT, Int.reduceGE, decide_true, decide_false, beq_self_eq_true, bne_self_eq_false, not_false_eq_true, exOp_gt, exOp_gf, exOp_gf2, exOp_gs, h0, h1, h2, h3, h4, h5, h6]
  have h7 : ((f17 (3 : Int) (f16 x0) (f17 (3 : Int) (f16 x0) (f13 (f16 x0) x1) (f13 (f16 x0) x2)) (f13 (f16 x0) x3)) != (f17 (3 : Int) (f16 x0) (f13 (f16 x0) x1) (f17 (3 : Int) (f16 x0) (f13 (f16 x0) x2) (f13 (f16 x0) x3)))) = false := o7
  refine RunO.pre 3 ?_
  simp only [List.drop_zero, List.take_succ_cons, List.take_zero, List.drop_succ_cons, List.drop_zero, exOps_nil, exOps_cons, bindO_some, put_some, ev_t, ev_c, List.getD_cons_zero, List.getD_cons_succ, List.set_cons_zero, List.set_cons_succ, optB_some, mapQ_some, x_mov, exOp_gt, exOp_gf, exOp_gf2, exOp_gs, h0, h1, h2, h3, h4, h5, h6, h7]
  refine RunO.cg (by rfl) (c17 (2 : Int) (f16 x0) (f17 (1 : Int) (f16 x0) (f13 (f16 x0) x1) (f13 (f16 x0) x2)) (f13 (f16 x0) x2) _) ?_
  refine RunO.pre 4 ?_
  simp only [List.take_succ_cons, List.take_zero, List.drop_succ_cons, List.drop_zero, exOps_nil, exOps_cons, bindO_some, put_some, ev_t, ev_c, List.getD_cons_zero, List.getD_cons_succ, List.set_cons_zero, List.set_cons_succ, optB_some, mapQ_some, x_bin, binV, intB, x_mov, x_pick, if_true, if_false, Bool.false_eq_true, if_true, if_false, reduceCtorEq, Bool.false_eq_true, Int.reduceBEq, Int.reduceBNe, Int.reduceLT, Int.reduceLE, Int.reduceGT, Int.reduceGE, decide_true, decide_false, beq_self_eq_true, bne_self_eq_false, not_false_eq_true, exOp_gt, exOp_gf, exOp_gf2, exOp_gs, h0, h1, h2, h3, h4, h5, h6, h7]
  have h8 : ((f17 (2 : Int) (f16 x0) (f17 (1 : Int) (f16 x0) (f13 (f16 x0) x1) (f13 (f16 x0) x2)) (f13 (f16 x0) x2)) != (f13 (f16 x0) x1)) = false := o8
  refine RunO.pre 5 ?_
  simp only [List.drop_zero, List.take_succ_cons, List.take_zero, List.drop_succ_cons, List.drop_zero, exOps_nil, exOps_cons, bindO_some, put_some, ev_t, ev_c, List.getD_cons_zero, List.getD_cons_succ, List.set_cons_zero, List.set_cons_succ, optB_some, mapQ_some, x_mov, exOp_gt, exOp_gf, exOp_gf2, exOp_gs, h0, h1, h2, h3, h4, h5, h6, h7, h8]
  refine RunO.cg (by rfl) (c17 (1 : Int) (f16 x0) (f13 (f16 x0) x2) (f13 (f16 x0) x3) _) ?_
  refine RunO.cg (by rfl) (c17 (3 : Int) (f16 x0) (f13 (f16 x0) x1) (f17 (1 : Int) (f16 x0) (f13 (f16 x0) x2) (f13 (f16 x0) x3)) _) ?_
  refine RunO.pre 5 ?_
  simp only [List.take_succ_cons, List.take_zero, List.drop_succ_cons, List.drop_zero, exOps_nil, exOps_cons, bindO_some, put_some, ev_t, ev_c, List.getD_cons_zero, List.getD_cons_succ, List.set_cons_zero, List.set_cons_succ, optB_some, mapQ_some, x_mov, exOp_gt, exOp_gf, exOp_gf2, exOp_gs, h0, h1, h2, h3, h4, h5, h6, h7, h8]
  refine RunO.cg (by rfl) (c17 (3 : Int) (f16 x0) (f13 (f16 x0) x1) (f13 (f16 x0) x3) _) ?_
  refine RunO.cg (by rfl) (c17 (1 : Int) (f16 x0) (f17 (3 : Int) (f16 x0) (f13 (f16 x0) x1) (f13 (f16 x0) x2)) (f17 (3 : Int) (f16 x0) (f13 (f16 x0) x1) (f13 (f16 x0) x3)) _) ?_
  refine RunO.all ?_
  simp only [exOps_nil, exOps_cons, bindO_some, put_some, ev_t, ev_c, List.getD_cons_zero, List.getD_cons_succ, List.set_cons_zero, List.set_cons_succ, optB_some, mapQ_some, x_bin, binV, intB, x_pick, if_true, if_false, Bool.false_eq_true, if_true, if_false, reduceCtorEq, Bool.false_eq_true, Int.reduceBEq, Int.reduceBNe, Int.reduceLT, Int.reduceLE, Int.reduceGT, Int.reduceGE, decide_true, decide_false, beq_self_eq_true, bne_self_eq_false, not_false_eq_true, exOp_gt, exOp_gf, exOp_gf2, exOp_gs, h0, h1, h2, h3, h4, h5, h6, h7, h8]
  show Run T _ _ _ _
  have h9 : ((f17 (3 : Int) (f16 x0) (f13 (f16 x0) x1) (f17 (1 : Int) (f16 x0) (f13 (f16 x0) x2) (f13 (f16 x0) x3))) != (f17 (1 : Int) (f16 x0) (f17 (3 : Int) (f16 x0) (f13 (f16 x0) x1) (f13 (f16 x0) x2)) (f17 (3 : Int) (f16 x0) (f13 (f16 x0) x1) (f13 (f16 x0) x3)))) = false := o9
  refine Run.ite (by rfl) (fun h => by rw [h9] at h; cases h) (fun _ => ?_)
  refine Run.skip ?_
  show Run T _ _ _ _
  refine Run.seq ?_
  refine Run.rgn ?_
  refine RunO.pre 2 ?_
  simp only [i6r20, List.take_succ_cons, List.take_zero, List.drop_succ_cons, List.drop_zero, exOps_nil, exOps_cons, bindO_some, put_some, ev_t, ev_c, List.getD_cons_zero, List.getD_cons_succ, List.set_cons_zero, List.set_cons_succ, optB_some, mapQ_some, x_mov, h0, h1, h2, h3, h4, h5, h6, h7, h8, h9]
  refine RunO.c (c23 (17 : Int) (f16 x0) (f13 (f16 x0) x2) _) ?_
  refine RunO.all ?_
  simp only [exOps_nil, exOps_cons, bindO_some, put_some, ev_t, ev_c, List.getD_cons_zero, List.getD_cons_succ, List.set_cons_zero, List.set_cons_succ, optB_some, mapQ_some, x_ext, extV, List.getElem?_cons_zero, List.getElem?_cons_succ, x_mov, h0, h1, h2, h3, h4, h5, h6, h7, h8, h9]
  show Run T _ _ _ _
  refine Run.seq ?_
  refine Run.rgn ?_
  refine RunO.pre 2 ?_
  simp only [i6r21, List.take_succ_cons, List.take_zero, List.drop_succ_cons, List.drop_zero, exOps_nil, exOps_cons, bindO_some, put_some, ev_t, ev_c, List.getD_cons_zero, List.getD_cons_succ, List.set_cons_zero, List.set_cons_succ, optB_some, mapQ_some, x_mov, h0, h1, h2, h3, h4, h5, h6, h7, h8, h9]
  refine RunO.c (c23 (18 : Int) (f16 x0) (f13 (f16 x0) x2) _) ?_
  refine RunO.all ?_
  simp only [exOps_nil, exOps_cons, bindO_some, put_some, ev_t, ev_c, List.getD_cons_zero, List.getD_cons_succ, List.set_cons_zero, List.set_cons_succ, optB_some, mapQ_some, x_ext, extV, List.getElem?_cons_zero, List.getElem?_cons_succ, x_mov, h0, h1, h2, h3, h4, h5, h6, h7, h8, h9]
  show Run T _ _ _ _
  refine Run.seq ?_
  refine Run.seq ?_
  refine Run.rgn ?_
  refine RunO.pre 3 ?_
  simp only [i6r22, List.take_succ_cons, List.take_zero, List.drop_succ_cons, List.drop_zero, exOps_nil, exOps_cons, bindO_some, put_some, ev_t, ev_c, List.getD_cons_zero, List.getD_cons_succ, List.set_cons_zero, List.set_cons_succ, optB_some, mapQ_some, x_mov, x_un, unV, intB, h0, h1, h2, h3, h4, h5, h6, h7, h8, h9]
  have h10 : (!(f23 (17 : Int) (f16 x0) (f13 (f16 x0) x2)).2) = false := o10
  refine RunO.pre 4 ?_
  simp only [List.drop_zero, List.take_succ_cons, List.take_zero, List.drop_succ_cons, List.drop_zero, exOps_nil, exOps_cons, bindO_some, put_some, ev_t, ev_c, List.getD_cons_zero, List.getD_cons_succ, List.set_cons_zero, List.set_cons_succ, optB_some, mapQ_some, x_mov, x_pick, if_true, if_false, Bool.false_eq_true, x_un, unV, intB, exOp_gt, exOp_gf, exOp_gf2, exOp_gs, h0, h1, h2, h3, h4, h5, h6, h7, h8, h9, h10]
  have h11 : (!(f23 (18 : Int) (f16 x0) (f13 (f16 x0) x2)).2) = false := o11
  refine RunO.pre 3 ?_
  simp only [List.drop_zero, List.take_succ_cons, List.take_zero, List.drop_succ_cons, List.drop_zero, exOps_nil, exOps_cons, bindO_some, put_some, ev_t, ev_c, List.getD_cons_zero, List.getD_cons_succ, List.set_cons_zero, List.set_cons_succ, optB_some, mapQ_some, x_mov, exOp_gt, exOp_gf, exOp_gf2, exOp_gs, h0, h1, h2, h3, h4, h5, h6, h7, h8, h9, h10, h11]
  refine RunO.cg (by rfl) (c17 (1 : Int) (f16 x0) (f13 (f16 x0) x1) (f23 (17 : Int) (f16 x0) (f13 (f16 x0) x2)).1 _) ?_
  refine RunO.pre 3 ?_
  simp only [List.take_succ_cons, List.take_zero, List.drop_succ_cons, List.drop_zero, exOps_nil, exOps_cons, bindO_some, put_some, ev_t, ev_c, List.getD_cons_zero, List.getD_cons_succ, List.set_cons_zero, List.set_cons_succ, optB_some, mapQ_some, x_mov, exOp_gt, exOp_gf, exOp_gf2, exOp_gs, h0, h1, h2, h3, h4, h5, h6, h7, h8, h9, h10, h11]
  refine RunO.cg (by rfl) (c17 (2 : Int) (f16 x0) (f13 (f16 x0) x1) (f13 (f16 x0) x2) _) ?_
  refine RunO.pre 3 ?_
  simp only [List.take_succ_cons, List.take_zero, List.drop_succ_cons, List.drop_zero, exOps_nil, exOps_cons, bindO_some, put_some, ev_t, ev_c, List.getD_cons_zero, List.getD_cons_succ, List.set_cons_zero, List.set_cons_succ, optB_some, mapQ_some, x_bin, binV, intB, x_mov, x_pick, if_true, if_false, Bool.false_eq_true, if_true, if_false, reduceCtorEq, Bool.false_eq_true, Int.reduceBEq, Int.reduceBNe, Int.reduceLT, Int.reduceLE, Int.reduceGT, Int.reduceGE, decide_true, decide_false, beq_self_eq_true, bne_self_eq_false, not_false_eq_true, exOp_gt, exOp_gf, exOp_gf2, exOp_gs, h0, h1, h2, h3, h4, h5, h6, h7, h8, h9, h10, h11]
  have h12 : ((f17 (1 : Int) (f16 x0) (f13 (f16 x0) x1) (f23 (17 : Int) (f16 x0) (f13 (f16 x0) x2)).1) != (f17 (2 : Int) (f16 x0) (f13 (f16 x0) x1) (f13 (f16 x0) x2))) = false := o12
  refine RunO.pre 2 ?_
  simp only [List.drop_zero, List.take_succ_cons, List.take_zero, List.drop_succ_cons, List.drop_zero, exOps_nil, exOps_cons, bindO_some, put_some, ev_t, ev_c, List.getD_cons_zero, List.getD_cons_succ, List.set_cons_zero, List.set_cons_succ, optB_some, mapQ_some, x_mov, exOp_gt, exOp_gf, exOp_gf2, exOp_gs, h0, h1, h2, h3, h4, h5, h6, h7, h8, h9, h10, h11, h12]
  refine RunO.cg (by rfl) (c17 (1 : Int) (f16 x0) (f23 (18 : Int) (f16 x0) (f13 (f16 x0) x2)).1 (1 : Int) _) ?_
  refine RunO.all ?_
  simp only [exOps_nil, exOps_cons, bindO_some, put_some, ev_t, ev_c, List.getD_cons_zero, List.getD_cons_succ, List.set_cons_zero, List.set_cons_succ, optB_some, mapQ_some, x_bin, binV, intB, x_mov, x_pick, if_true, if_false, Bool.false_eq_true, if_true, if_false, reduceCtorEq, Bool.false_eq_true, Int.reduceBEq, Int.reduceBNe, Int.reduceLT, Int.reduceLE, Int.reduceGT, Int.reduceGE, decide_true, decide_false, beq_self_eq_true, bne_self_eq_false, not_false_eq_true, exOp_gt, exOp_gf, exOp_gf2, exOp_gs, h0, h1, h2, h3, h4, h5, h6, h7, h8, h9, h10, h11, h12]
  show Run T _ _ _ _
  have h13 : ((f17 (1 : Int) (f16 x0) (f23 (18 : Int) (f16 x0) (f13 (f16 x0) x2)).1 (1 : Int)) != (f23 (17 : Int) (f16 x0) (f13 (f16 x0) x2)).1) = false := o13
  refine Run.ite (by rfl) (fun h => by rw [h13] at h; cases h) (fun _ => ?_)
  refine Run.skip ?_
  show Run T _ _ _ _
  refine Run.seq ?_
  refine Run.rgn ?_
  refine RunO.pre 3 ?_
  simp only [i6r27, List.take_succ_cons, List.take_zero, List.drop_succ_cons, List.drop_zero, exOps_nil, exOps_cons, bindO_some, put_some, ev_t, ev_c, List.getD_cons_zero, List.getD_cons_succ, List.set_cons_zero, List.set_cons_succ, optB_some, mapQ_some, x_mov, h0, h1, h2, h3, h4, h5, h6, h7, h8, h9, h10, h11, h12, h13]
  refine RunO.c (c17 (4 : Int) (f16 x0) (f13 (f16 x0) x1) (f13 (f16 x0) x2) _) ?_
  refine RunO.pre 3 ?_
  simp only [List.take_succ_cons, List.take_zero, List.drop_succ_cons, List.drop_zero, exOps_nil, exOps_cons, bindO_some, put_some, ev_t, ev_c, List.getD_cons_zero, List.getD_cons_succ, List.set_cons_zero, List.set_cons_succ, optB_some, mapQ_some, x_mov, h0, h1, h2, h3, h4, h5, h6, h7, h8, h9, h10, h11, h12, h13]
  refine RunO.c (c17 (5 : Int) (f16 x0) (f13 (f16 x0) x1) (f13 (f16 x0) x2) _) ?_
  refine RunO.all ?_
  simp only [exOps_nil, exOps_cons, bindO_some, put_some, ev_t, ev_c, List.getD_cons_zero, List.getD_cons_succ, List.set_cons_zero, List.set_cons_succ, optB_some, mapQ_some, x_mov, h0, h1, h2, h3, h4, h5, h6, h7, h8, h9, h10, h11, h12, h13]
  show Run T _ _ _ _
  refine Run.seq ?_
  refine Run.seq ?_
  refine Run.rgn ?_
  refine RunO.all ?_
  simp only [i6r28, exOps_nil, exOps_cons, bindO_some, put_some, ev_t, ev_c, List.getD_cons_zero, List.getD_cons_succ, List.set_cons_zero, List.set_cons_succ, optB_some, mapQ_some, x_bin, binV, intB, x_mov, if_true, if_false, reduceCtorEq, Bool.false_eq_true, Int.reduceBEq, Int.reduceBNe, Int.reduceLT, Int.reduceLE, Int.reduceGT, Int.reduceGE, decide_true, decide_false, beq_self_eq_true, bne_self_eq_false, not_false_eq_true, h0, h1, h2, h3, h4, h5, h6, h7, h8, h9, h10, h11, h12, h13]
  show Run T _ _ _ _
  refine Run.ite (by rfl) (fun h14 => ?_) (fun h14 => ?_)
  · skip
    refine Run.seq ?_
    refine Run.rgn ?_
    refine RunO.pre 3 ?_
    simp only [i6r29, List.take_succ_cons, List.take_zero, List.drop_succ_cons, List.drop_zero, exOps_nil, exOps_cons, bindO_some, put_some, ev_t, ev_c, List.getD_cons_zero, List.getD_cons_succ, List.set_cons_zero, List.set_cons_succ, optB_some, mapQ_some, x_bin, binV, intB, x_mov, if_true, if_false, reduceCtorEq, Bool.false_eq_true, Int.reduceBEq, Int.reduceBNe, Int.reduceLT, Int.reduceLE, Int.reduceGT, Int.reduceGE, decide_true, decide_false, beq_self_eq_true, bne_self_eq_false, not_false_eq_true, h0, h1, h2, h3, h4, h5, h6, h7, h8, h9, h10, h11, h12, h13, h14]
    have h15 : ((f17 (4 : Int) (f16 x0) (f13 (f16 x0) x1) (f13 (f16 x0) x2)) == (0 : Int)) = true := o14 h14
    refine RunO.pre 4 ?_
    simp only [List.drop_zero, List.take_succ_cons, List.take_zero, List.drop_succ_cons, List.drop_zero, exOps_nil, exOps_cons, bindO_some, put_some, ev_t, ev_c, List.getD_cons_zero, List.getD_cons_succ, List.set_cons_zero, List.set_cons_succ, optB_some, mapQ_some, x_bin, binV, intB, x_mov, x_pick, if_true, if_false, Bool.false_eq_true, if_true, if_false, reduceCtorEq, Bool.false_eq_true, Int.reduceBEq, Int.reduceBNe, Int.reduceLT, Int.reduceLE, Int.reduceGT, Int.reduceGE, decide_true, decide_false, beq_self_eq_true, bne_self_eq_false, not_false_eq_true, exOp_gt, exOp_gf, exOp_gf2, exOp_gs, h0, h1, h2, h3, h4, h5, h6, h7, h8, h9, h10, h11, h12, h13, h14, h15]
    have h16 : ((f17 (5 : Int) (f16 x0) (f13 (f16 x0) x1) (f13 (f16 x0) x2)) == (0 : Int)) = true := o15 h14
    refine RunO.pre 2 ?_
    simp only [List.drop_zero, List.take_succ_cons, List.take_zero, List.drop_succ_cons, List.drop_zero, exOps_nil, exOps_cons, bindO_some, put_some, ev_t, ev_c, List.getD_cons_zero, List.getD_cons_succ, List.set_cons_zero, List.set_cons_succ, optB_some, mapQ_some, x_mov, exOp_gt, exOp_gf, exOp_gf2, exOp_gs, h0, h1, h2, h3, h4, h5, h6, h7, h8, h9, h10, h11, h12, h13, h14, h15, h16]
    refine RunO.cg (by rfl) (c25 (4 : Int) (f16 x0) (f13 (f16 x0) x2) _) ?_
    refine RunO.pre 2 ?_
    simp only [List.take_succ_cons, List.take_zero, List.drop_succ_cons, List.drop_zero, exOps_nil, exOps_cons, bindO_some, put_some, ev_t, ev_c, List.getD_cons_zero, List.getD_cons_succ, List.set_cons_zero, List.set_cons_succ, optB_some, mapQ_some, x_mov, x_pick, if_true, if_false, Bool.false_eq_true, h0, h1, h2, h3, h4, h5, h6, h7, h8, h9, h10, h11, h12, h13, h14, h15, h16]
    have h17 : (f25 (4 : Int) (f16 x0) (f13 (f16 x0) x2)) = true := o16 h14
    refine RunO.pre 2 ?_
    simp only [List.drop_zero, List.take_succ_cons, List.take_zero, List.drop_succ_cons, List.drop_zero, exOps_nil, exOps_cons, bindO_some, put_some, ev_t, ev_c, List.getD_cons_zero, List.getD_cons_succ, List.set_cons_zero, List.set_cons_succ, optB_some, mapQ_some, x_mov, exOp_gt, exOp_gf, exOp_gf2, exOp_gs, h0, h1, h2, h3, h4, h5, h6, h7, h8, h9, h10, h11, h12, h13, h14, h15, h16, h17]
    refine RunO.cg (by rfl) (c25 (5 : Int) (f16 x0) (f13 (f16 x0) x2) _) ?_
    refine RunO.all ?_
    simp only [exOps_nil, exOps_cons, bindO_some, put_some, ev_t, ev_c, List.getD_cons_zero, List.getD_cons_succ, List.set_cons_zero, List.set_cons_succ, optB_some, mapQ_some, x_mov, x_pick, if_true, if_false, Bool.false_eq_true, h0, h1, h2, h3, h4, h5, h6, h7, h8, h9, h10, h11, h12, h13, h14, h15, h16, h17]
    show Run T _ _ _ _
    refine Run.ret ⟨?_, rfl⟩
    exact congrArg V.bool (o17 h14)
  · skip
    refine Run.skip ?_
    show Run T _ _ _ _
    refine Run.seq ?_
    refine Run.rgn ?_
    refine RunO.pre 4 ?_
    simp only [i6r33, List.take_succ_cons, List.take_zero, List.drop_succ_cons, List.drop_zero, exOps_nil, exOps_cons, bindO_some, put_some, ev_t, ev_c, List.getD_cons_zero, List.getD_cons_succ, List.set_cons_zero, List.set_cons_succ, optB_some, mapQ_some, x_mov, h0, h1, h2, h3, h4, h5, h6, h7, h8, h9, h10, h11, h12, h13, h14, if_neg (beq_no h14)]
    refine RunO.c (c17 (3 : Int) (f16 x0) (f17 (4 : Int) (f16 x0) (f13 (f16 x0) x1) (f13 (f16 x0) x2)) (f13 (f16 x0) x2) _) ?_
    refine RunO.pre 1 ?_
    simp only [List.take_succ_cons, List.take_zero, List.drop_succ_cons, List.drop_zero, exOps_nil, exOps_cons, bindO_some, put_some, ev_t, ev_c, List.getD_cons_zero, List.getD_cons_succ, List.set_cons_zero, List.set_cons_succ, optB_some, mapQ_some, x_mov, h0, h1, h2, h3, h4, h5, h6, h7, h8, h9, h10, h11, h12, h13, h14, if_neg (beq_no h14)]
    refine RunO.c (c17 (1 : Int) (f16 x0) (f17 (3 : Int) (f16 x0) (f17 (4 : Int) (f16 x0) (f13 (f16 x0) x1) (f13 (f16 x0) x2)) (f13 (f16 x0) x2)) (f17 (5 : Int) (f16 x0) (f13 (f16 x0) x1) (f13 (f16 x0) x2)) _) ?_
    refine RunO.all ?_
    simp only [exOps_nil, exOps_cons, bindO_some, put_some, ev_t, ev_c, List.getD_cons_zero, List.getD_cons_succ, List.set_cons_zero, List.set_cons_succ, optB_some, mapQ_some, x_mov, h0, h1, h2, h3, h4, h5, h6, h7, h8, h9, h10, h11, h12, h13, h14, if_neg (beq_no h14)]
    show Run T _ _ _ _
    refine Run.seq ?_
    refine Run.rgn ?_
    refine RunO.pre 1 ?_
    simp only [i6r34, List.take_succ_cons, List.take_zero, List.drop_succ_cons, List.drop_zero, exOps_nil, exOps_cons, bindO_some, put_some, ev_t, ev_c, List.getD_cons_zero, List.getD_cons_succ, List.set_cons_zero, List.set_cons_succ, optB_some, mapQ_some, x_mov, h0, h1, h2, h3, h4, h5, h6, h7, h8, h9, h10, h11, h12, h13, h14, if_neg (beq_no h14)]
    refine RunO.c (c27 (f17 (5 : Int) (f16 x0) (f13 (f16 x0) x1) (f13 (f16 x0) x2)) _) ?_
    refine RunO.pre 1 ?_
    simp only [List.take_succ_cons, List.take_zero, List.drop_succ_cons, List.drop_zero, exOps_nil, exOps_cons, bindO_some, put_some, ev_t, ev_c, List.getD_cons_zero, List.getD_cons_succ, List.set_cons_zero, List.set_cons_succ, optB_some, mapQ_some, x_mov, h0, h1, h2, h3, h4, h5, h6, h7, h8, h9, h10, h11, h12, h13, h14, if_neg (beq_no h14)]
    refine RunO.c (c27 (f13 (f16 x0) x2) _) ?_
    refine RunO.pre 2 ?_
    simp only [List.take_succ_cons, List.take_zero, List.drop_succ_cons, List.drop_zero, exOps_nil, exOps_cons, bindO_some, put_some, ev_t, ev_c, List.getD_cons_zero, List.getD_cons_succ, List.set_cons_zero, List.set_cons_succ, optB_some, mapQ_some, x_bin, binV, intB, x_mov, if_true, if_false, reduceCtorEq, Bool.false_eq_true, Int.reduceBEq, Int.reduceBNe, Int.reduceLT, Int.reduceLE, Int.reduceGT, Int.reduceGE, decide_true, decide_false, beq_self_eq_true, bne_self_eq_false, not_false_eq_true, h0, h1, h2, h3, h4, h5, h6, h7, h8, h9, h10, h11, h12, h13, h14, if_neg (beq_no h14)]
    have h18 : (decide ((f27 (f17 (5 : Int) (f16 x0) (f13 (f16 x0) x1) (f13 (f16 x0) x2))) < (f27 (f13 (f16 x0) x2)))) = true := o18 h14
    refine RunO.pre 3 ?_
    simp only [List.drop_zero, List.take_succ_cons, List.take_zero, List.drop_succ_cons, List.drop_zero, exOps_nil, exOps_cons, bindO_some, put_some, ev_t, ev_c, List.getD_cons_zero, List.getD_cons_succ, List.set_cons_zero, List.set_cons_succ, optB_some, mapQ_some, x_bin, binV, intB, x_mov, if_true, if_false, reduceCtorEq, Bool.false_eq_true, Int.reduceBEq, Int.reduceBNe, Int.reduceLT, Int.reduceLE, Int.reduceGT, Int.reduceGE, decide_true, decide_false, beq_self_eq_true, bne_self_eq_false, not_false_eq_true, exOp_gt, exOp_gf, exOp_gf2, exOp_gs, h0, h1, h2, h3, h4, h5, h6, h7, h8, h9, h10, h11, h12, h13, h14, h18, if_neg (beq_no h14)]
    rcases Bool.eq_false_or_eq_true ((f17 (5 : Int) (f16 x0) (f13 (f16 x0) x1) (f13 (f16 x0) x2)) == (0 : Int)) with h19 | h19
    · skip
      refine RunO.all ?_
      simp only [List.drop_zero, exOps_nil, exOps_cons, bindO_some, put_some, ev_t, ev_c, List.getD_cons_zero, List.getD_cons_succ, List.set_cons_zero, List.set_cons_succ, optB_some, mapQ_some, x_bin, binV, intB, x_cvt, x_mov, x_pick, if_true, if_false, Bool.false_eq_true, if_true, if_false, reduceCtorEq, Bool.false_eq_true, Int.reduceBEq, Int.reduceBNe, Int.reduceLT, Int.reduceLE, Int.reduceGT, Int.reduceGE, decide_true, decide_false, beq_self_eq_true, bne_self_eq_false, not_false_eq_true, exOp_gt, exOp_gf, exOp_gf2, exOp_gs, h0, h1, h2, h3, h4, h5, h6, h7, h8, h9, h10, h11, h12, h13, h14, h18, h19, if_neg (beq_no h14)]
      show Run T _ _ _ _
      refine Run.seq ?_
      refine Run.rgn ?_
      refine RunO.pre 4 ?_
      simp only [i6r35, List.take_succ_cons, List.take_zero, List.drop_succ_cons, List.drop_zero, exOps_nil, exOps_cons, bindO_some, put_some, ev_t, ev_c, List.getD_cons_zero, List.getD_cons_succ, List.set_cons_zero, List.set_cons_succ, optB_some, mapQ_some, x_bin, binV, intB, x_mov, if_true, if_false, reduceCtorEq, Bool.false_eq_true, Int.reduceBEq, Int.reduceBNe, Int.reduceLT, Int.reduceLE, Int.reduceGT, Int.reduceGE, decide_true, decide_false, beq_self_eq_true, bne_self_eq_false, not_false_eq_true, h0, h1, h2, h3, h4, h5, h6, h7, h8, h9, h10, h11, h12, h13, h14, h18, h19, if_neg (beq_no h14)]
      have h20 : ((f17 (1 : Int) (f16 x0) (f17 (3 : Int) (f16 x0) (f17 (4 : Int) (f16 x0) (f13 (f16 x0) x1) (f13 (f16 x0) x2)) (f13 (f16 x0) x2)) (f17 (5 : Int) (f16 x0) (f13 (f16 x0) x1) (f13 (f16 x0) x2))) == (f13 (f16 x0) x1)) = true := o19 h14 h19
      refine RunO.pre 5 ?_
      simp only [List.drop_zero, List.take_succ_cons, List.take_zero, List.drop_succ_cons, List.drop_zero, exOps_nil, exOps_cons, bindO_some, put_some, ev_t, ev_c, List.getD_cons_zero, List.getD_cons_succ, List.set_cons_zero, List.set_cons_succ, optB_some, mapQ_some, x_mov, x_pick, if_true, if_false, Bool.false_eq_true, exOp_gt, exOp_gf, exOp_gf2, exOp_gs, h0, h1, h2, h3, h4, h5, h6, h7, h8, h9, h10, h11, h12, h13, h14, h18, h19, h20, if_neg (beq_no h14)]
      refine RunO.cg (by rfl) (c25 (4 : Int) (f16 x0) (f13 (f16 x0) x2) _) ?_
      refine RunO.pre 3 ?_
      simp only [List.take_succ_cons, List.take_zero, List.drop_succ_cons, List.drop_zero, exOps_nil, exOps_cons, bindO_some, put_some, ev_t, ev_c, List.getD_cons_zero, List.getD_cons_succ, List.set_cons_zero, List.set_cons_succ, optB_some, mapQ_some, x_mov, x_pick, if_true, if_false, Bool.false_eq_true, x_un, unV, intB, exOp_gt, exOp_gf, exOp_gf2, exOp_gs, h0, h1, h2, h3, h4, h5, h6, h7, h8, h9, h10, h11, h12, h13, h14, h18, h19, h20, if_neg (beq_no h14)]
      have h21 : (!(f25 (4 : Int) (f16 x0) (f13 (f16 x0) x2))) = true := o20 h14 h19
      refine RunO.pre 2 ?_
      simp only [List.drop_zero, List.take_succ_cons, List.take_zero, List.drop_succ_cons, List.drop_zero, exOps_nil, exOps_cons, bindO_some, put_some, ev_t, ev_c, List.getD_cons_zero, List.getD_cons_succ, List.set_cons_zero, List.set_cons_succ, optB_some, mapQ_some, x_mov, exOp_gt, exOp_gf, exOp_gf2, exOp_gs, h0, h1, h2, h3, h4, h5, h6, h7, h8, h9, h10, h11, h12, h13, h14, h18, h19, h20, h21, if_neg (beq_no h14)]
      refine RunO.cg (by rfl) (c11 (f16 x0) (f17 (4 : Int) (f16 x0) (f13 (f16 x0) x1) (f13 (f16 x0) x2)) _) ?_
      refine RunO.pre 2 ?_
      simp only [List.take_succ_cons, List.take_zero, List.drop_succ_cons, List.drop_zero, exOps_nil, exOps_cons, bindO_some, put_some, ev_t, ev_c, List.getD_cons_zero, List.getD_cons_succ, List.set_cons_zero, List.set_cons_succ, optB_some, mapQ_some, x_mov, x_pick, if_true, if_false, Bool.false_eq_true, h0, h1, h2, h3, h4, h5, h6, h7, h8, h9, h10, h11, h12, h13, h14, h18, h19, h20, h21, if_neg (beq_no h14)]
      have h22 : (f11 (f16 x0) (f17 (4 : Int) (f16 x0) (f13 (f16 x0) x1) (f13 (f16 x0) x2))) = true := o21 h14 h19
      refine RunO.pre 2 ?_
      simp only [List.drop_zero, List.take_succ_cons, List.take_zero, List.drop_succ_cons, List.drop_zero, exOps_nil, exOps_cons, bindO_some, put_some, ev_t, ev_c, List.getD_cons_zero, List.getD_cons_succ, List.set_cons_zero, List.set_cons_succ, optB_some, mapQ_some, x_mov, exOp_gt, exOp_gf, exOp_gf2, exOp_gs, h0, h1, h2, h3, h4, h5, h6, h7, h8, h9, h10, h11, h12, h13, h14, h18, h19, h20, h21, h22, if_neg (beq_no h14)]
      refine RunO.cg (by rfl) (c11 (f16 x0) (f17 (5 : Int) (f16 x0) (f13 (f16 x0) x1) (f13 (f16 x0) x2)) _) ?_
      refine RunO.all ?_
      simp only [exOps_nil, exOps_cons, bindO_some, put_some, ev_t, ev_c, List.getD_cons_zero, List.getD_cons_succ, List.set_cons_zero, List.set_cons_succ, optB_some, mapQ_some, x_mov, x_pick, if_true, if_false, Bool.false_eq_true, h0, h1, h2, h3, h4, h5, h6, h7, h8, h9, h10, h11, h12, h13, h14, h18, h19, h20, h21, h22, if_neg (beq_no h14)]
      show Run T _ _ _ _
      refine Run.ret ⟨?_, rfl⟩
      exact congrArg V.bool (o22 h14 h19)
    · skip
      refine RunO.all ?_
      simp only [List.drop_zero, exOps_nil, exOps_cons, bindO_some, put_some, ev_t, ev_c, List.getD_cons_zero, List.getD_cons_succ, List.set_cons_zero, List.set_cons_succ, optB_some, mapQ_some, x_bin, binV, intB, x_cvt, x_mov, x_pick, if_true, if_false, Bool.false_eq_true, if_true, if_false, reduceCtorEq, Bool.false_eq_true, Int.reduceBEq, Int.reduceBNe, Int.reduceLT, Int.reduceLE, Int.reduceGT, Int.reduceGE, decide_true, decide_false, beq_self_eq_true, bne_self_eq_false, not_false_eq_true, exOp_gt, exOp_gf, exOp_gf2, exOp_gs, h0, h1, h2, h3, h4, h5, h6, h7, h8, h9, h10, h11, h12, h13, h14, h18, h19, if_neg (beq_no h14), if_neg (beq_no h19)]
      show Run T _ _ _ _
      refine Run.seq ?_
      refine Run.rgn ?_
      refine RunO.pre 4 ?_
      simp only [i6r35, List.take_succ_cons, List.take_zero, List.drop_succ_cons, List.drop_zero, exOps_nil, exOps_cons, bindO_some, put_some, ev_t, ev_c, List.getD_cons_zero, List.getD_cons_succ, List.set_cons_zero, List.set_cons_succ, optB_some, mapQ_some, x_bin, binV, intB, x_mov, if_true, if_false, reduceCtorEq, Bool.false_eq_true, Int.reduceBEq, Int.reduceBNe, Int.reduceLT, Int.reduceLE, Int.reduceGT, Int.reduceGE, decide_true, decide_false, beq_self_eq_true, bne_self_eq_false, not_false_eq_true, h0, h1, h2, h3, h4, h5, h6, h7, h8, h9, h10, h11, h12, h13, h14, h18, h19, if_neg (beq_no h14), if_neg (beq_no h19)]
      have h23 : ((f17 (1 : Int) (f16 x0) (f17 (3 : Int) (f16 x0) (f17 (4 : Int) (f16 x0) (f13 (f16 x0) x1) (f13 (f16 x0) x2)) (f13 (f16 x0) x2)) (f17 (5 : Int) (f16 x0) (f13 (f16 x0) x1) (f13 (f16 x0) x2))) == (f13 (f16 x0) x1)) = true := o23 h14 h19
      refine RunO.pre 3 ?_
      simp only [List.drop_zero, List.take_succ_cons, List.take_zero, List.drop_succ_cons, List.drop_zero, exOps_nil, exOps_cons, bindO_some, put_some, ev_t, ev_c, List.getD_cons_zero, List.getD_cons_succ, List.set_cons_zero, List.set_cons_succ, optB_some, mapQ_some, x_mov, x_pick, if_true, if_false, Bool.false_eq_true, exOp_gt, exOp_gf, exOp_gf2, exOp_gs, h0, h1, h2, h3, h4, h5, h6, h7, h8, h9, h10, h11, h12, h13, h14, h18, h19, h23, if_neg (beq_no h14), if_neg (beq_no h19)]
      have h24 : ((decide ((IntKind.i64.wrap (f17 (5 : Int) (f16 x0) (f13 (f16 x0) x1) (f13 (f16 x0) x2))) < (0 : Int))) == (decide ((IntKind.i64.wrap (f13 (f16 x0) x1)) < (0 : Int)))) = true := o24 h14 h19
      refine RunO.pre 2 ?_
      simp only [List.drop_zero, List.take_succ_cons, List.take_zero, List.drop_succ_cons, List.drop_zero, exOps_nil, exOps_cons, bindO_some, put_some, ev_t, ev_c, List.getD_cons_zero, List.getD_cons_succ, List.set_cons_zero, List.set_cons_succ, optB_some, mapQ_some, x_mov, exOp_gt, exOp_gf, exOp_gf2, exOp_gs, h0, h1, h2, h3, h4, h5, h6, h7, h8, h9, h10, h11, h12, h13, h14, h18, h19, h23, h24, if_neg (beq_no h14), if_neg (beq_no h19)]
      refine RunO.cg (by rfl) (c25 (4 : Int) (f16 x0) (f13 (f16 x0) x2) _) ?_
      refine RunO.pre 3 ?_
      simp only [List.take_succ_cons, List.take_zero, List.drop_succ_cons, List.drop_zero, exOps_nil, exOps_cons, bindO_some, put_some, ev_t, ev_c, List.getD_cons_zero, List.getD_cons_succ, List.set_cons_zero, List.set_cons_succ, optB_some, mapQ_some, x_mov, x_pick, if_true, if_false, Bool.false_eq_true, x_un, unV, intB, exOp_gt, exOp_gf, exOp_gf2, exOp_gs, h0, h1, h2, h3, h4, h5, h6, h7, h8, h9, h10, h11, h12, h13, h14, h18, h19, h23, h24, if_neg (beq_no h14), if_neg (beq_no h19)]
      have h25 : (!(f25 (4 : Int) (f16 x0) (f13 (f16 x0) x2))) = true := o25 h14 h19
      refine RunO.pre 2 ?_
      simp only [List.drop_zero, List.take_succ_cons, List.take_zero, List.drop_succ_cons, List.drop_zero, exOps_nil, exOps_cons, bindO_some, put_some, ev_t, ev_c, List.getD_cons_zero, List.getD_cons_succ, List.set_cons_zero, List.set_cons_succ, optB_some, mapQ_some, x_mov, exOp_gt, exOp_gf, exOp_gf2, exOp_gs, h0, h1, h2, h3, h4, h5, h6, h7, h8, h9, h10, h11, h12, h13, h14, h18, h19, h23, h24, h25, if_neg (beq_no h14), if_neg (beq_no h19)]
      refine RunO.cg (by rfl) (c11 (f16 x0) (f17 (4 : Int) (f16 x0) (f13 (f16 x0) x1) (f13 (f16 x0) x2)) _) ?_
      refine RunO.pre 2 ?_
      simp only [List.take_succ_cons, List.take_zero, List.drop_succ_cons, List.drop_zero, exOps_nil, exOps_cons, bindO_some, put_some, ev_t, ev_c, List.getD_cons_zero, List.getD_cons_succ, List.set_cons_zero, List.set_cons_succ, optB_some, mapQ_some, x_mov, x_pick, if_true, if_false, Bool.false_eq_true, h0, h1, h2, h3, h4, h5, h6, h7, h8, h9, h10, h11, h12, h13, h14, h18, h19, h23, h24, h25, if_neg (beq_no h14), if_neg (beq_no h19)]
      have h26 : (f11 (f16 x0) (f17 (4 : Int) (f16 x0) (f13 (f16 x0) x1) (f13 (f16 x0) x2))) = true := o26 h14 h19
      refine RunO.pre 2 ?_
      simp only [List.drop_zero, List.take_succ_cons, List.take_zero, List.drop_succ_cons, List.drop_zero, exOps_nil, exOps_cons, bindO_some, put_some, ev_t, ev_c, List.getD_cons_zero, List.getD_cons_succ, List.set_cons_zero, List.set_cons_succ, optB_some, mapQ_some, x_mov, exOp_gt, exOp_gf, exOp_gf2, exOp_gs, h0, h1, h2, h3, h4, h5, h6, h7, h8, h9, h10, h11, h12, h13, h14, h18, h19, h23, h24, h25, h26, if_neg (beq_no h14), if_neg (beq_no h19)]
      refine RunO.cg (by rfl) (c11 (f16 x0) (f17 (5 : Int) (f16 x0) (f13 (f16 x0) x1) (f13 (f16 x0) x2)) _) ?_
      refine RunO.all ?_
      simp only [exOps_nil, exOps_cons, bindO_some, put_some, ev_t, ev_c, List.getD_cons_zero, List.getD_cons_succ, List.set_cons_zero, List.set_cons_succ, optB_some, mapQ_some, x_mov, x_pick, if_true, if_false, Bool.false_eq_true, h0, h1, h2, h3, h4, h5, h6, h7, h8, h9, h10, h11, h12, h13, h14, h18, h19, h23, h24, h25, h26, if_neg (beq_no h14), if_neg (beq_no h19)]
      show Run T _ _ _ _
      refine Run.ret ⟨?_, rfl⟩
      exact congrArg V.bool (o27 h14 h19)

end Go.Eng.Sca
