/- Functions of this seat, each with a plain function that gives the same answers (lines written by a program of this session's; no condition beyond those stated). -/
import Derived.Test.YtiacbfphlgbiiaaScaP2
import Derived.Test.YtiacbfphlgbiiaaScaI
namespace Go.Eng.Sca
open Go Go.Eng
set_option linter.unusedVariables false
set_option linter.unusedSimpArgs false
set_option maxRecDepth 20000
set_option maxHeartbeats 4000000

/- smithy/smithylaw01.ScalarTurned -/
theorem w7 (x0 : Int) (x1 : Option Nat)
    (o0 : (!(f28 (3 : Int) (2 : Int) (f13 (2 : Int) x0)).2) = false)
    (o1 : (!(f28 (2 : Int) (3 : Int) (f28 (3 : Int) (2 : Int) (f13 (2 : Int) x0)).1).2) = false)
    (o2 : (!(f28 (5 : Int) (3 : Int) (f13 (3 : Int) x0)).2) = false)
    (o3 : (!(f28 (3 : Int) (5 : Int) (f28 (5 : Int) (3 : Int) (f13 (3 : Int) x0)).1).2) = false)
    (o4 : (!(f28 (5 : Int) (4 : Int) x0).2) = false)
    (o5 : ((f28 (2 : Int) (3 : Int) (f28 (3 : Int) (2 : Int) (f13 (2 : Int) x0)).1).1 != (f13 (2 : Int) x0)) = false)
    (o6 : ((f28 (3 : Int) (5 : Int) (f28 (5 : Int) (3 : Int) (f13 (3 : Int) x0)).1).1 != (f13 (3 : Int) x0)) = false)
    (o7 : (flO (some (f28 (5 : Int) (3 : Int) (f13 (3 : Int) x0)).1.toNat) (some (Ieee.double.write (.number ((IntKind.i64.wrap (f13 (3 : Int) x0)) < 0) (IntKind.i64.wrap (f13 (3 : Int) x0)).natAbs 0))) != some .eq) = false)
    (o8 : (flO (some (f28 (5 : Int) (4 : Int) x0).1.toNat) (some (Ieee.double.write (.number ((IntKind.i64.wrap x0) < 0) (IntKind.i64.wrap x0).natAbs 0))) != some .eq) = false)
    (o9 : (!(f28 (4 : Int) (5 : Int) (canon13 x1)).2) = false)
    (o10 : (flO x1 (some 14114281232179134464) == some .gt || flO x1 (some 14114281232179134464) == some .eq) = true → (!((f30 (4 : Int) (5 : Int) (canon13 x1)) == (flO x1 (some 4890909195324358656) == some .lt))) = false)
    (o11 : (flO x1 (some 14114281232179134464) == some .gt || flO x1 (some 14114281232179134464) == some .eq) = true → (!(f30 (4 : Int) (5 : Int) (canon13 x1))) = true → ((f28 (4 : Int) (5 : Int) (canon13 x1)).1 != (0 : Int)) = false)
    (o12 : (flO x1 (some 14114281232179134464) == some .gt || flO x1 (some 14114281232179134464) == some .eq) = true → (!(f30 (4 : Int) (5 : Int) (canon13 x1))) = false → ((IntKind.i64.wrap (f28 (4 : Int) (5 : Int) (canon13 x1)).1) == (f2iI (f31 x1))) = true)
    (o13 : (flO x1 (some 14114281232179134464) == some .gt || flO x1 (some 14114281232179134464) == some .eq) = false → (!((f30 (4 : Int) (5 : Int) (canon13 x1)) == false)) = false)
    (o14 : (flO x1 (some 14114281232179134464) == some .gt || flO x1 (some 14114281232179134464) == some .eq) = false → (!(f30 (4 : Int) (5 : Int) (canon13 x1))) = true → ((f28 (4 : Int) (5 : Int) (canon13 x1)).1 != (0 : Int)) = false)
    (o15 : (flO x1 (some 14114281232179134464) == some .gt || flO x1 (some 14114281232179134464) == some .eq) = false → (!(f30 (4 : Int) (5 : Int) (canon13 x1))) = false → ((IntKind.i64.wrap (f28 (4 : Int) (5 : Int) (canon13 x1)).1) == (f2iI (f31 x1))) = true) (H : Heap) :
    Fn T 7 [.int .u64 x0, .fl x1] H (fun r h => r = .bool true ∧ h = H) := by
  refine Fn.enter t7 ?_; simp only [i7, List.length_cons, List.length_nil, Nat.reduceAdd, Nat.reduceSub, List.replicate_succ, List.replicate_zero, List.cons_append, List.nil_append]
  refine Run.seq ?_
  refine Run.rgn ?_
  refine RunO.all ?_
  simp only [i7r0, exOps_nil, exOps_cons, bindO_some, put_some, ev_t, ev_c, List.getD_cons_zero, List.getD_cons_succ, List.set_cons_zero, List.set_cons_succ, optB_some, mapQ_some, x_mov]
  show Run T _ _ _ _
  refine Run.seq ?_
  refine Run.seq ?_
  refine Run.rgn ?_
  refine RunO.pre 0 ?_
  simp only [i7r1, List.take_succ_cons, List.take_zero, List.drop_succ_cons, List.drop_zero, exOps_nil, exOps_cons, bindO_some, put_some, ev_t, ev_c, List.getD_cons_zero, List.getD_cons_succ, List.set_cons_zero, List.set_cons_succ, optB_some, mapQ_some]
  refine RunO.c (awakeY _) ?_
  refine RunO.all ?_
  simp only [exOps_nil, exOps_cons, bindO_some, put_some, ev_t, ev_c, List.getD_cons_zero, List.getD_cons_succ, List.set_cons_zero, List.set_cons_succ, optB_some, mapQ_some, x_un, unV, intB]
  show Run T _ _ _ _
  refine Run.ite (by rfl) (fun h => by first | exact absurd h (by decide) | (simp only [reduceCtorEq, Bool.not_true, Bool.not_false, Bool.false_eq_true, Bool.true_eq_false] at h)) (fun _ => ?_)
  refine Run.skip ?_
  show Run T _ _ _ _
  refine Run.seq ?_
  refine Run.rgn ?_
  refine RunO.pre 1 ?_
  simp only [i7r6, List.take_succ_cons, List.take_zero, List.drop_succ_cons, List.drop_zero, exOps_nil, exOps_cons, bindO_some, put_some, ev_t, ev_c, List.getD_cons_zero, List.getD_cons_succ, List.set_cons_zero, List.set_cons_succ, optB_some, mapQ_some, x_mov]
  refine RunO.c (c13 (2 : Int) x0 _) ?_
  refine RunO.pre 1 ?_
  simp only [List.take_succ_cons, List.take_zero, List.drop_succ_cons, List.drop_zero, exOps_nil, exOps_cons, bindO_some, put_some, ev_t, ev_c, List.getD_cons_zero, List.getD_cons_succ, List.set_cons_zero, List.set_cons_succ, optB_some, mapQ_some, x_mov]
  refine RunO.c (c13 (3 : Int) x0 _) ?_
  refine RunO.all ?_
  simp only [exOps_nil, exOps_cons, bindO_some, put_some, ev_t, ev_c, List.getD_cons_zero, List.getD_cons_succ, List.set_cons_zero, List.set_cons_succ, optB_some, mapQ_some, x_mov]
  show Run T _ _ _ _
  refine Run.seq ?_
  refine Run.rgn ?_
  refine RunO.pre 1 ?_
  simp only [i7r7, List.take_succ_cons, List.take_zero, List.drop_succ_cons, List.drop_zero, exOps_nil, exOps_cons, bindO_some, put_some, ev_t, ev_c, List.getD_cons_zero, List.getD_cons_succ, List.set_cons_zero, List.set_cons_succ, optB_some, mapQ_some, x_mov]
  refine RunO.c (c28 (3 : Int) (2 : Int) (f13 (2 : Int) x0) _) ?_
  refine RunO.all ?_
  simp only [exOps_nil, exOps_cons, bindO_some, put_some, ev_t, ev_c, List.getD_cons_zero, List.getD_cons_succ, List.set_cons_zero, List.set_cons_succ, optB_some, mapQ_some, x_ext, extV, List.getElem?_cons_zero, List.getElem?_cons_succ, x_mov]
  show Run T _ _ _ _
  refine Run.seq ?_
  refine Run.rgn ?_
  refine RunO.pre 1 ?_
  simp only [i7r8, List.take_succ_cons, List.take_zero, List.drop_succ_cons, List.drop_zero, exOps_nil, exOps_cons, bindO_some, put_some, ev_t, ev_c, List.getD_cons_zero, List.getD_cons_succ, List.set_cons_zero, List.set_cons_succ, optB_some, mapQ_some, x_mov]
  refine RunO.c (c28 (2 : Int) (3 : Int) (f28 (3 : Int) (2 : Int) (f13 (2 : Int) x0)).1 _) ?_
  refine RunO.all ?_
  simp only [exOps_nil, exOps_cons, bindO_some, put_some, ev_t, ev_c, List.getD_cons_zero, List.getD_cons_succ, List.set_cons_zero, List.set_cons_succ, optB_some, mapQ_some, x_ext, extV, List.getElem?_cons_zero, List.getElem?_cons_succ, x_mov]
  show Run T _ _ _ _
  refine Run.seq ?_
  refine Run.rgn ?_
  refine RunO.pre 1 ?_
  simp only [i7r9, List.take_succ_cons, List.take_zero, List.drop_succ_cons, List.drop_zero, exOps_nil, exOps_cons, bindO_some, put_some, ev_t, ev_c, List.getD_cons_zero, List.getD_cons_succ, List.set_cons_zero, List.set_cons_succ, optB_some, mapQ_some, x_mov]
  refine RunO.c (c28 (5 : Int) (3 : Int) (f13 (3 : Int) x0) _) ?_
  refine RunO.all ?_
  simp only [exOps_nil, exOps_cons, bindO_some, put_some, ev_t, ev_c, List.getD_cons_zero, List.getD_cons_succ, List.set_cons_zero, List.set_cons_succ, optB_some, mapQ_some, x_ext, extV, List.getElem?_cons_zero, List.getElem?_cons_succ, x_mov]
  show Run T _ _ _ _
  refine Run.seq ?_
  refine Run.rgn ?_
  refine RunO.pre 1 ?_
  simp only [i7r10, List.take_succ_cons, List.take_zero, List.drop_succ_cons, List.drop_zero, exOps_nil, exOps_cons, bindO_some, put_some, ev_t, ev_c, List.getD_cons_zero, List.getD_cons_succ, List.set_cons_zero, List.set_cons_succ, optB_some, mapQ_some, x_mov]
  refine RunO.c (c28 (3 : Int) (5 : Int) (f28 (5 : Int) (3 : Int) (f13 (3 : Int) x0)).1 _) ?_
  refine RunO.all ?_
  simp only [exOps_nil, exOps_cons, bindO_some, put_some, ev_t, ev_c, List.getD_cons_zero, List.getD_cons_succ, List.set_cons_zero, List.set_cons_succ, optB_some, mapQ_some, x_ext, extV, List.getElem?_cons_zero, List.getElem?_cons_succ, x_mov]
  show Run T _ _ _ _
  refine Run.seq ?_
  refine Run.rgn ?_
  refine RunO.pre 1 ?_
  simp only [i7r11, List.take_succ_cons, List.take_zero, List.drop_succ_cons, List.drop_zero, exOps_nil, exOps_cons, bindO_some, put_some, ev_t, ev_c, List.getD_cons_zero, List.getD_cons_succ, List.set_cons_zero, List.set_cons_succ, optB_some, mapQ_some, x_mov]
  refine RunO.c (c28 (5 : Int) (4 : Int) x0 _) ?_
  refine RunO.all ?_
  simp only [exOps_nil, exOps_cons, bindO_some, put_some, ev_t, ev_c, List.getD_cons_zero, List.getD_cons_succ, List.set_cons_zero, List.set_cons_succ, optB_some, mapQ_some, x_ext, extV, List.getElem?_cons_zero, List.getElem?_cons_succ, x_mov]
  show Run T _ _ _ _
  refine Run.seq ?_
  refine Run.seq ?_
  refine Run.rgn ?_
  refine RunO.pre 3 ?_
  simp only [i7r12, List.take_succ_cons, List.take_zero, List.drop_succ_cons, List.drop_zero, exOps_nil, exOps_cons, bindO_some, put_some, ev_t, ev_c, List.getD_cons_zero, List.getD_cons_succ, List.set_cons_zero, List.set_cons_succ, optB_some, mapQ_some, x_mov, x_un, unV, intB]
  have h0 : (!(f28 (3 : Int) (2 : Int) (f13 (2 : Int) x0)).2) = false := o0
  refine RunO.pre 4 ?_
  simp only [List.drop_zero, List.take_succ_cons, List.take_zero, List.drop_succ_cons, List.drop_zero, exOps_nil, exOps_cons, bindO_some, put_some, ev_t, ev_c, List.getD_cons_zero, List.getD_cons_succ, List.set_cons_zero, List.set_cons_succ, optB_some, mapQ_some, x_mov, x_pick, if_true, if_false, Bool.false_eq_true, x_un, unV, intB, exOp_gt, exOp_gf, exOp_gf2, exOp_gs, h0]
  have h1 : (!(f28 (2 : Int) (3 : Int) (f28 (3 : Int) (2 : Int) (f13 (2 : Int) x0)).1).2) = false := o1
  refine RunO.pre 4 ?_
  simp only [List.drop_zero, List.take_succ_cons, List.take_zero, List.drop_succ_cons, List.drop_zero, exOps_nil, exOps_cons, bindO_some, put_some, ev_t, ev_c, List.getD_cons_zero, List.getD_cons_succ, List.set_cons_zero, List.set_cons_succ, optB_some, mapQ_some, x_mov, x_pick, if_true, if_false, Bool.false_eq_true, x_un, unV, intB, exOp_gt, exOp_gf, exOp_gf2, exOp_gs, h0, h1]
  have h2 : (!(f28 (5 : Int) (3 : Int) (f13 (3 : Int) x0)).2) = false := o2
  refine RunO.pre 4 ?_
  simp only [List.drop_zero, List.take_succ_cons, List.take_zero, List.drop_succ_cons, List.drop_zero, exOps_nil, exOps_cons, bindO_some, put_some, ev_t, ev_c, List.getD_cons_zero, List.getD_cons_succ, List.set_cons_zero, List.set_cons_succ, optB_some, mapQ_some, x_mov, x_pick, if_true, if_false, Bool.false_eq_true, x_un, unV, intB, exOp_gt, exOp_gf, exOp_gf2, exOp_gs, h0, h1, h2]
  have h3 : (!(f28 (3 : Int) (5 : Int) (f28 (5 : Int) (3 : Int) (f13 (3 : Int) x0)).1).2) = false := o3
  refine RunO.pre 4 ?_
  simp only [List.drop_zero, List.take_succ_cons, List.take_zero, List.drop_succ_cons, List.drop_zero, exOps_nil, exOps_cons, bindO_some, put_some, ev_t, ev_c, List.getD_cons_zero, List.getD_cons_succ, List.set_cons_zero, List.set_cons_succ, optB_some, mapQ_some, x_mov, x_pick, if_true, if_false, Bool.false_eq_true, x_un, unV, intB, exOp_gt, exOp_gf, exOp_gf2, exOp_gs, h0, h1, h2, h3]
  have h4 : (!(f28 (5 : Int) (4 : Int) x0).2) = false := o4
  refine RunO.pre 5 ?_
  simp only [List.drop_zero, List.take_succ_cons, List.take_zero, List.drop_succ_cons, List.drop_zero, exOps_nil, exOps_cons, bindO_some, put_some, ev_t, ev_c, List.getD_cons_zero, List.getD_cons_succ, List.set_cons_zero, List.set_cons_succ, optB_some, mapQ_some, x_bin, binV, intB, x_mov, x_pick, if_true, if_false, Bool.false_eq_true, if_true, if_false, reduceCtorEq, Bool.false_eq_true, Int.reduceBEq, Int.reduceBNe, Int.reduceLT, Int.reduceLE, Int.reduceGT, Int.reduceGE, decide_true, decide_false, beq_self_eq_true, bne_self_eq_false, not_false_eq_true, exOp_gt, exOp_gf, exOp_gf2, exOp_gs, h0, h1, h2, h3, h4]
  have h5 : ((f28 (2 : Int) (3 : Int) (f28 (3 : Int) (2 : Int) (f13 (2 : Int) x0)).1).1 != (f13 (2 : Int) x0)) = false := o5
  refine RunO.pre 5 ?_
  simp only [List.drop_zero, List.take_succ_cons, List.take_zero, List.drop_succ_cons, List.drop_zero, exOps_nil, exOps_cons, bindO_some, put_some, ev_t, ev_c, List.getD_cons_zero, List.getD_cons_succ, List.set_cons_zero, List.set_cons_succ, optB_some, mapQ_some, x_bin, binV, intB, x_mov, x_pick, if_true, if_false, Bool.false_eq_true, if_true, if_false, reduceCtorEq, Bool.false_eq_true, Int.reduceBEq, Int.reduceBNe, Int.reduceLT, Int.reduceLE, Int.reduceGT, Int.reduceGE, decide_true, decide_false, beq_self_eq_true, bne_self_eq_false, not_false_eq_true, exOp_gt, exOp_gf, exOp_gf2, exOp_gs, h0, h1, h2, h3, h4, h5]
  have h6 : ((f28 (3 : Int) (5 : Int) (f28 (5 : Int) (3 : Int) (f13 (3 : Int) x0)).1).1 != (f13 (3 : Int) x0)) = false := o6
  refine RunO.pre 8 ?_
  simp only [List.drop_zero, List.take_succ_cons, List.take_zero, List.drop_succ_cons, List.drop_zero, exOps_nil, exOps_cons, bindO_some, put_some, ev_t, ev_c, List.getD_cons_zero, List.getD_cons_succ, List.set_cons_zero, List.set_cons_succ, optB_some, mapQ_some, x_cvt, x_fbin, fbinV, x_i2f, i2fV, x_mov, x_pick, if_true, if_false, Bool.false_eq_true, x_xc, xc_word, xc_from, xc_trunc, wordV_some, exOp_gt, exOp_gf, exOp_gf2, exOp_gs, h0, h1, h2, h3, h4, h5, h6]
  have h7 : (flO (some (f28 (5 : Int) (3 : Int) (f13 (3 : Int) x0)).1.toNat) (some (Ieee.double.write (.number ((IntKind.i64.wrap (f13 (3 : Int) x0)) < 0) (IntKind.i64.wrap (f13 (3 : Int) x0)).natAbs 0))) != some .eq) = false := o7
  refine RunO.all ?_
  simp only [List.drop_zero, exOps_nil, exOps_cons, bindO_some, put_some, ev_t, ev_c, List.getD_cons_zero, List.getD_cons_succ, List.set_cons_zero, List.set_cons_succ, optB_some, mapQ_some, x_cvt, x_fbin, fbinV, x_i2f, i2fV, x_mov, x_pick, if_true, if_false, Bool.false_eq_true, x_xc, xc_word, xc_from, xc_trunc, wordV_some, exOp_gt, exOp_gf, exOp_gf2, exOp_gs, h0, h1, h2, h3, h4, h5, h6, h7]
  show Run T _ _ _ _
  have h8 : (flO (some (f28 (5 : Int) (4 : Int) x0).1.toNat) (some (Ieee.double.write (.number ((IntKind.i64.wrap x0) < 0) (IntKind.i64.wrap x0).natAbs 0))) != some .eq) = false := o8
  refine Run.ite (by rfl) (fun h => by rw [h8] at h; cases h) (fun _ => ?_)
  refine Run.skip ?_
  show Run T _ _ _ _
  refine Run.seq ?_
  refine Run.rgn ?_
  refine RunO.pre 2 ?_
  simp only [i7r17, List.take_succ_cons, List.take_zero, List.drop_succ_cons, List.drop_zero, exOps_nil, exOps_cons, bindO_some, put_some, ev_t, ev_c, List.getD_cons_zero, List.getD_cons_succ, List.set_cons_zero, List.set_cons_succ, optB_some, mapQ_some, x_mov, x_xc, xc_word, xc_from, xc_trunc, wordV_some, h0, h1, h2, h3, h4, h5, h6, h7, h8]
  refine RunO.c (c13w x1 _) ?_
  refine RunO.all ?_
  simp only [exOps_nil, exOps_cons, bindO_some, put_some, ev_t, ev_c, List.getD_cons_zero, List.getD_cons_succ, List.set_cons_zero, List.set_cons_succ, optB_some, mapQ_some, x_mov, h0, h1, h2, h3, h4, h5, h6, h7, h8]
  show Run T _ _ _ _
  refine Run.seq ?_
  refine Run.rgn ?_
  refine RunO.pre 1 ?_
  simp only [i7r18, List.take_succ_cons, List.take_zero, List.drop_succ_cons, List.drop_zero, exOps_nil, exOps_cons, bindO_some, put_some, ev_t, ev_c, List.getD_cons_zero, List.getD_cons_succ, List.set_cons_zero, List.set_cons_succ, optB_some, mapQ_some, x_mov, h0, h1, h2, h3, h4, h5, h6, h7, h8]
  refine RunO.c (c30 (4 : Int) (5 : Int) (canon13 x1) _) ?_
  refine RunO.all ?_
  simp only [exOps_nil, exOps_cons, bindO_some, put_some, ev_t, ev_c, List.getD_cons_zero, List.getD_cons_succ, List.set_cons_zero, List.set_cons_succ, optB_some, mapQ_some, x_mov, h0, h1, h2, h3, h4, h5, h6, h7, h8]
  show Run T _ _ _ _
  refine Run.seq ?_
  refine Run.rgn ?_
  refine RunO.pre 1 ?_
  simp only [i7r19, List.take_succ_cons, List.take_zero, List.drop_succ_cons, List.drop_zero, exOps_nil, exOps_cons, bindO_some, put_some, ev_t, ev_c, List.getD_cons_zero, List.getD_cons_succ, List.set_cons_zero, List.set_cons_succ, optB_some, mapQ_some, x_mov, h0, h1, h2, h3, h4, h5, h6, h7, h8]
  refine RunO.c (c28 (4 : Int) (5 : Int) (canon13 x1) _) ?_
  refine RunO.all ?_
  simp only [exOps_nil, exOps_cons, bindO_some, put_some, ev_t, ev_c, List.getD_cons_zero, List.getD_cons_succ, List.set_cons_zero, List.set_cons_succ, optB_some, mapQ_some, x_ext, extV, List.getElem?_cons_zero, List.getElem?_cons_succ, x_mov, h0, h1, h2, h3, h4, h5, h6, h7, h8]
  show Run T _ _ _ _
  refine Run.seq ?_
  refine Run.seq ?_
  refine Run.rgn ?_
  refine RunO.pre 3 ?_
  simp only [i7r20, List.take_succ_cons, List.take_zero, List.drop_succ_cons, List.drop_zero, exOps_nil, exOps_cons, bindO_some, put_some, ev_t, ev_c, List.getD_cons_zero, List.getD_cons_succ, List.set_cons_zero, List.set_cons_succ, optB_some, mapQ_some, x_mov, x_un, unV, intB, h0, h1, h2, h3, h4, h5, h6, h7, h8]
  have h9 : (!(f28 (4 : Int) (5 : Int) (canon13 x1)).2) = false := o9
  refine RunO.pre 4 ?_
  simp only [List.drop_zero, List.take_succ_cons, List.take_zero, List.drop_succ_cons, List.drop_zero, exOps_nil, exOps_cons, bindO_some, put_some, ev_t, ev_c, List.getD_cons_zero, List.getD_cons_succ, List.set_cons_zero, List.set_cons_succ, optB_some, mapQ_some, x_fbin, fbinV, x_mov, exOp_gt, exOp_gf, exOp_gf2, exOp_gs, h0, h1, h2, h3, h4, h5, h6, h7, h8, h9]
  rcases Bool.eq_false_or_eq_true (flO x1 (some 14114281232179134464) == some .gt || flO x1 (some 14114281232179134464) == some .eq) with h10 | h10
  · skip
    refine RunO.pre 6 ?_
    simp only [List.drop_zero, List.take_succ_cons, List.take_zero, List.drop_succ_cons, List.drop_zero, exOps_nil, exOps_cons, bindO_some, put_some, ev_t, ev_c, List.getD_cons_zero, List.getD_cons_succ, List.set_cons_zero, List.set_cons_succ, optB_some, mapQ_some, x_bin, binV, intB, x_fbin, fbinV, x_mov, x_pick, if_true, if_false, Bool.false_eq_true, if_true, if_false, reduceCtorEq, Bool.false_eq_true, Int.reduceBEq, Int.reduceBNe, Int.reduceLT, Int.reduceLE, Int.reduceGT, Int.reduceGE, decide_true, decide_false, beq_self_eq_true, bne_self_eq_false, not_false_eq_true, exOp_gt, exOp_gf, exOp_gf2, exOp_gs, h0, h1, h2, h3, h4, h5, h6, h7, h8, h9, h10]
    have h11 : (!((f30 (4 : Int) (5 : Int) (canon13 x1)) == (flO x1 (some 4890909195324358656) == some .lt))) = false := o10 h10
    refine RunO.pre 3 ?_
    simp only [List.drop_zero, List.take_succ_cons, List.take_zero, List.drop_succ_cons, List.drop_zero, exOps_nil, exOps_cons, bindO_some, put_some, ev_t, ev_c, List.getD_cons_zero, List.getD_cons_succ, List.set_cons_zero, List.set_cons_succ, optB_some, mapQ_some, x_mov, x_un, unV, intB, exOp_gt, exOp_gf, exOp_gf2, exOp_gs, h0, h1, h2, h3, h4, h5, h6, h7, h8, h9, h10, h11]
    rcases Bool.eq_false_or_eq_true (!(f30 (4 : Int) (5 : Int) (canon13 x1))) with h12 | h12
    · skip
      refine RunO.all ?_
      simp only [List.drop_zero, exOps_nil, exOps_cons, bindO_some, put_some, ev_t, ev_c, List.getD_cons_zero, List.getD_cons_succ, List.set_cons_zero, List.set_cons_succ, optB_some, mapQ_some, x_bin, binV, intB, x_mov, x_pick, if_true, if_false, Bool.false_eq_true, if_true, if_false, reduceCtorEq, Bool.false_eq_true, Int.reduceBEq, Int.reduceBNe, Int.reduceLT, Int.reduceLE, Int.reduceGT, Int.reduceGE, decide_true, decide_false, beq_self_eq_true, bne_self_eq_false, not_false_eq_true, exOp_gt, exOp_gf, exOp_gf2, exOp_gs, h0, h1, h2, h3, h4, h5, h6, h7, h8, h9, h10, h11, h12]
      show Run T _ _ _ _
      have h13 : ((f28 (4 : Int) (5 : Int) (canon13 x1)).1 != (0 : Int)) = false := o11 h10 h12
      refine Run.ite (by rfl) (fun h => by rw [h13] at h; cases h) (fun _ => ?_)
      refine Run.skip ?_
      show Run T _ _ _ _
      refine Run.seq ?_
      refine Run.rgn ?_
      refine RunO.pre 6 ?_
      simp only [i7r25, List.take_succ_cons, List.take_zero, List.drop_succ_cons, List.drop_zero, exOps_nil, exOps_cons, bindO_some, put_some, ev_t, ev_c, List.getD_cons_zero, List.getD_cons_succ, List.set_cons_zero, List.set_cons_succ, optB_some, mapQ_some, x_cvt, x_mov, x_un, unV, intB, exOp_gt, exOp_gf, exOp_gf2, exOp_gs, h0, h1, h2, h3, h4, h5, h6, h7, h8, h9, h10, h11, h12, h13]
      refine RunO.cs (b := true) (by rfl) (by decide) ?_
      refine RunO.all ?_
      simp only [exOps_nil, exOps_cons, bindO_some, put_some, ev_t, ev_c, List.getD_cons_zero, List.getD_cons_succ, List.set_cons_zero, List.set_cons_succ, optB_some, mapQ_some, x_bin, binV, intB, x_f2i, x_mov, x_pick, if_true, if_false, Bool.false_eq_true, if_true, if_false, reduceCtorEq, Bool.false_eq_true, Int.reduceBEq, Int.reduceBNe, Int.reduceLT, Int.reduceLE, Int.reduceGT, Int.reduceGE, decide_true, decide_false, beq_self_eq_true, bne_self_eq_false, not_false_eq_true, exOp_gt, exOp_gf, exOp_gf2, exOp_gs, h0, h1, h2, h3, h4, h5, h6, h7, h8, h9, h10, h11, h12, h13]
      show Run T _ _ _ _
      refine Run.ret ⟨?_, rfl⟩
      rfl
    · skip
      refine RunO.all ?_
      simp only [List.drop_zero, exOps_nil, exOps_cons, bindO_some, put_some, ev_t, ev_c, List.getD_cons_zero, List.getD_cons_succ, List.set_cons_zero, List.set_cons_succ, optB_some, mapQ_some, x_bin, binV, intB, x_mov, x_pick, if_true, if_false, Bool.false_eq_true, if_true, if_false, reduceCtorEq, Bool.false_eq_true, Int.reduceBEq, Int.reduceBNe, Int.reduceLT, Int.reduceLE, Int.reduceGT, Int.reduceGE, decide_true, decide_false, beq_self_eq_true, bne_self_eq_false, not_false_eq_true, exOp_gt, exOp_gf, exOp_gf2, exOp_gs, h0, h1, h2, h3, h4, h5, h6, h7, h8, h9, h10, h11, h12, f2i_of3 (by simpa using h12)]
      show Run T _ _ _ _
      refine Run.ite (by rfl) (fun h => by first | exact absurd h (by decide) | (simp only [h0, h1, h2, h3, h4, h5, h6, h7, h8, h9, h10, h11, h12, reduceCtorEq, Bool.not_true, Bool.not_false, Bool.false_eq_true, Bool.true_eq_false] at h)) (fun _ => ?_)
      refine Run.skip ?_
      show Run T _ _ _ _
      refine Run.seq ?_
      refine Run.rgn ?_
      refine RunO.pre 6 ?_
      simp only [i7r25, List.take_succ_cons, List.take_zero, List.drop_succ_cons, List.drop_zero, exOps_nil, exOps_cons, bindO_some, put_some, ev_t, ev_c, List.getD_cons_zero, List.getD_cons_succ, List.set_cons_zero, List.set_cons_succ, optB_some, mapQ_some, x_cvt, x_mov, x_un, unV, intB, exOp_gt, exOp_gf, exOp_gf2, exOp_gs, h0, h1, h2, h3, h4, h5, h6, h7, h8, h9, h10, h11, h12, f2i_of3 (by simpa using h12)]
      refine RunO.cg (by rfl) (c31 x1 _) ?_
      refine RunO.all ?_
      simp only [exOps_nil, exOps_cons, bindO_some, put_some, ev_t, ev_c, List.getD_cons_zero, List.getD_cons_succ, List.set_cons_zero, List.set_cons_succ, optB_some, mapQ_some, x_bin, binV, intB, x_f2i, x_mov, x_pick, if_true, if_false, Bool.false_eq_true, if_true, if_false, reduceCtorEq, Bool.false_eq_true, Int.reduceBEq, Int.reduceBNe, Int.reduceLT, Int.reduceLE, Int.reduceGT, Int.reduceGE, decide_true, decide_false, beq_self_eq_true, bne_self_eq_false, not_false_eq_true, exOp_gt, exOp_gf, exOp_gf2, exOp_gs, h0, h1, h2, h3, h4, h5, h6, h7, h8, h9, h10, h11, h12, f2i_of3 (by simpa using h12)]
      show Run T _ _ _ _
      refine Run.ret ⟨?_, rfl⟩
      exact congrArg V.bool (o12 h10 h12)
  · skip
    refine RunO.pre 6 ?_
    simp only [List.drop_zero, List.take_succ_cons, List.take_zero, List.drop_succ_cons, List.drop_zero, exOps_nil, exOps_cons, bindO_some, put_some, ev_t, ev_c, List.getD_cons_zero, List.getD_cons_succ, List.set_cons_zero, List.set_cons_succ, optB_some, mapQ_some, x_bin, binV, intB, x_fbin, fbinV, x_mov, x_pick, if_true, if_false, Bool.false_eq_true, if_true, if_false, reduceCtorEq, Bool.false_eq_true, Int.reduceBEq, Int.reduceBNe, Int.reduceLT, Int.reduceLE, Int.reduceGT, Int.reduceGE, decide_true, decide_false, beq_self_eq_true, bne_self_eq_false, not_false_eq_true, exOp_gt, exOp_gf, exOp_gf2, exOp_gs, h0, h1, h2, h3, h4, h5, h6, h7, h8, h9, h10]
    have h14 : (!((f30 (4 : Int) (5 : Int) (canon13 x1)) == false)) = false := o13 h10
    refine RunO.pre 3 ?_
    simp only [List.drop_zero, List.take_succ_cons, List.take_zero, List.drop_succ_cons, List.drop_zero, exOps_nil, exOps_cons, bindO_some, put_some, ev_t, ev_c, List.getD_cons_zero, List.getD_cons_succ, List.set_cons_zero, List.set_cons_succ, optB_some, mapQ_some, x_mov, x_un, unV, intB, exOp_gt, exOp_gf, exOp_gf2, exOp_gs, h0, h1, h2, h3, h4, h5, h6, h7, h8, h9, h10, h14]
    rcases Bool.eq_false_or_eq_true (!(f30 (4 : Int) (5 : Int) (canon13 x1))) with h15 | h15
    · skip
      refine RunO.all ?_
      simp only [List.drop_zero, exOps_nil, exOps_cons, bindO_some, put_some, ev_t, ev_c, List.getD_cons_zero, List.getD_cons_succ, List.set_cons_zero, List.set_cons_succ, optB_some, mapQ_some, x_bin, binV, intB, x_mov, x_pick, if_true, if_false, Bool.false_eq_true, if_true, if_false, reduceCtorEq, Bool.false_eq_true, Int.reduceBEq, Int.reduceBNe, Int.reduceLT, Int.reduceLE, Int.reduceGT, Int.reduceGE, decide_true, decide_false, beq_self_eq_true, bne_self_eq_false, not_false_eq_true, exOp_gt, exOp_gf, exOp_gf2, exOp_gs, h0, h1, h2, h3, h4, h5, h6, h7, h8, h9, h10, h14, h15]
      show Run T _ _ _ _
      have h16 : ((f28 (4 : Int) (5 : Int) (canon13 x1)).1 != (0 : Int)) = false := o14 h10 h15
      refine Run.ite (by rfl) (fun h => by rw [h16] at h; cases h) (fun _ => ?_)
      refine Run.skip ?_
      show Run T _ _ _ _
      refine Run.seq ?_
      refine Run.rgn ?_
      refine RunO.pre 6 ?_
      simp only [i7r25, List.take_succ_cons, List.take_zero, List.drop_succ_cons, List.drop_zero, exOps_nil, exOps_cons, bindO_some, put_some, ev_t, ev_c, List.getD_cons_zero, List.getD_cons_succ, List.set_cons_zero, List.set_cons_succ, optB_some, mapQ_some, x_cvt, x_mov, x_un, unV, intB, exOp_gt, exOp_gf, exOp_gf2, exOp_gs, h0, h1, h2, h3, h4, h5, h6, h7, h8, h9, h10, h14, h15, h16]
      refine RunO.cs (b := true) (by rfl) (by decide) ?_
      refine RunO.all ?_
      simp only [exOps_nil, exOps_cons, bindO_some, put_some, ev_t, ev_c, List.getD_cons_zero, List.getD_cons_succ, List.set_cons_zero, List.set_cons_succ, optB_some, mapQ_some, x_bin, binV, intB, x_f2i, x_mov, x_pick, if_true, if_false, Bool.false_eq_true, if_true, if_false, reduceCtorEq, Bool.false_eq_true, Int.reduceBEq, Int.reduceBNe, Int.reduceLT, Int.reduceLE, Int.reduceGT, Int.reduceGE, decide_true, decide_false, beq_self_eq_true, bne_self_eq_false, not_false_eq_true, exOp_gt, exOp_gf, exOp_gf2, exOp_gs, h0, h1, h2, h3, h4, h5, h6, h7, h8, h9, h10, h14, h15, h16]
      show Run T _ _ _ _
      refine Run.ret ⟨?_, rfl⟩
      rfl
    · skip
      refine RunO.all ?_
      simp only [List.drop_zero, exOps_nil, exOps_cons, bindO_some, put_some, ev_t, ev_c, List.getD_cons_zero, List.getD_cons_succ, List.set_cons_zero, List.set_cons_succ, optB_some, mapQ_some, x_bin, binV, intB, x_mov, x_pick, if_true, if_false, Bool.false_eq_true, if_true, if_false, reduceCtorEq, Bool.false_eq_true, Int.reduceBEq, Int.reduceBNe, Int.reduceLT, Int.reduceLE, Int.reduceGT, Int.reduceGE, decide_true, decide_false, beq_self_eq_true, bne_self_eq_false, not_false_eq_true, exOp_gt, exOp_gf, exOp_gf2, exOp_gs, h0, h1, h2, h3, h4, h5, h6, h7, h8, h9, h10, h14, h15, f2i_of3 (by simpa using h15)]
      show Run T _ _ _ _
      refine Run.ite (by rfl) (fun h => by first | exact absurd h (by decide) | (simp only [h0, h1, h2, h3, h4, h5, h6, h7, h8, h9, h10, h14, h15, reduceCtorEq, Bool.not_true, Bool.not_false, Bool.false_eq_true, Bool.true_eq_false] at h)) (fun _ => ?_)
      refine Run.skip ?_
      show Run T _ _ _ _
      refine Run.seq ?_
      refine Run.rgn ?_
      refine RunO.pre 6 ?_
      simp only [i7r25, List.take_succ_cons, List.take_zero, List.drop_succ_cons, List.drop_zero, exOps_nil, exOps_cons, bindO_some, put_some, ev_t, ev_c, List.getD_cons_zero, List.getD_cons_succ, List.set_cons_zero, List.set_cons_succ, optB_some, mapQ_some, x_cvt, x_mov, x_un, unV, intB, exOp_gt, exOp_gf, exOp_gf2, exOp_gs, h0, h1, h2, h3, h4, h5, h6, h7, h8, h9, h10, h14, h15, f2i_of3 (by simpa using h15)]
      refine RunO.cg (by rfl) (c31 x1 _) ?_
      refine RunO.all ?_
      simp only [exOps_nil, exOps_cons, bindO_some, put_some, ev_t, ev_c, List.getD_cons_zero, List.getD_cons_succ, List.set_cons_zero, List.set_cons_succ, optB_some, mapQ_some, x_bin, binV, intB, x_f2i, x_mov, x_pick, if_true, if_false, Bool.false_eq_true, if_true, if_false, reduceCtorEq, Bool.false_eq_true, Int.reduceBEq, Int.reduceBNe, Int.reduceLT, Int.reduceLE, Int.reduceGT, Int.reduceGE, decide_true, decide_false, beq_self_eq_true, bne_self_eq_false, not_false_eq_true, exOp_gt, exOp_gf, exOp_gf2, exOp_gs, h0, h1, h2, h3, h4, h5, h6, h7, h8, h9, h10, h14, h15, f2i_of3 (by simpa using h15)]
      show Run T _ _ _ _
      refine Run.ret ⟨?_, rfl⟩
      exact congrArg V.bool (o15 h10 h15)

end Go.Eng.Sca
