/- Functions of this seat, each with a plain function that gives the same answers (lines written by a program of this session's; no condition beyond those stated). -/
import Derived.Test.YtiacbfphlgbiiaaScaI
import Derived.Test.YtiacbfphlgbiiaaScaM
namespace Go.Eng.Sca
open Go Go.Eng
set_option linter.unusedVariables false
set_option linter.unusedSimpArgs false
set_option maxRecDepth 20000
set_option maxHeartbeats 4000000

/- smithy/smithylaw01.ScalarOps -/
theorem w5 (x0 : Int) (x1 : Int) (x2 : Int) (x3 : Int) (b0 : 0 ≤ x2) (b1 : x3 < 18446744073709551616) (b2 : 0 ≤ x3) (b3 : x2 < 18446744073709551616)
    (o0 : ((f19 x0 x1).1 != (f20 x0 x1).1) = false)
    (o1 : (!((f19 x0 x1).2 == (f20 x0 x1).2)) = false)
    (o2 : ((f21 x0 x1 x2 x3).1 != (f22 x0 x1 x2 x3).1) = false)
    (o3 : (!((f21 x0 x1 x2 x3).2 == (f22 x0 x1 x2 x3).2)) = false)
    (o4 : ((f23 x0 x1 x2).1 != (f24 x0 x1 x2).1) = false)
    (o5 : (!((f23 x0 x1 x2).2 == (f24 x0 x1 x2).2)) = false)
    (o6 : (!((f25 x0 x1 x3) == (f26 x0 x1 x3))) = false)
    (o7 : ((f21 x0 x1 (f14 x1 x2) (f14 x1 x3)).1 != (f22 x0 x1 (f14 x1 x2) (f14 x1 x3)).1) = false)
    (o8 : (!((f21 x0 x1 (f14 x1 x2) (f14 x1 x3)).2 == (f22 x0 x1 (f14 x1 x2) (f14 x1 x3)).2)) = false)
    (o9 : ((f23 x0 x1 (f14 x1 x2)).1 != (f24 x0 x1 (f14 x1 x2)).1) = false)
    (o10 : (!((f23 x0 x1 (f14 x1 x2)).2 == (f24 x0 x1 (f14 x1 x2)).2)) = false)
    (o11 : (!((f25 x0 x1 (f14 x1 x3)) == (f26 x0 x1 (f14 x1 x3)))) = false) (H : Heap) :
    Fn T 5 [.int .u8 x0, .int .u8 x1, .int .u64 x2, .int .u64 x3] H (fun r h => r = .bool true ∧ h = H) := by
  refine Fn.enter t5 ?_; simp only [i5, List.length_cons, List.length_nil, Nat.reduceAdd, Nat.reduceSub, List.replicate_succ, List.replicate_zero, List.cons_append, List.nil_append]
  refine Run.seq ?_
  refine Run.rgn ?_
  refine RunO.all ?_
  simp only [i5r0, SB, x_mov]
  show Run T _ _ _ _
  refine Run.seq ?_
  refine Run.rgn ?_
  refine RunO.pre 2 ?_
  simp only [i5r1, List.take_succ_cons, List.take_zero, List.drop_succ_cons, List.drop_zero, SB, x_mov]
  refine RunO.c (c19 x0 x1 _) ?_
  refine RunO.all ?_
  simp only [SB, x_ext, extV, List.getElem?_cons_zero, List.getElem?_cons_succ, x_mov]
  show Run T _ _ _ _
  refine Run.seq ?_
  refine Run.rgn ?_
  refine RunO.pre 2 ?_
  simp only [i5r2, List.take_succ_cons, List.take_zero, List.drop_succ_cons, List.drop_zero, SB, x_mov]
  refine RunO.c (c20 x0 x1 _) ?_
  refine RunO.all ?_
  simp only [SB, x_ext, extV, List.getElem?_cons_zero, List.getElem?_cons_succ, x_mov]
  show Run T _ _ _ _
  refine Run.seq ?_
  refine Run.seq ?_
  refine Run.rgn ?_
  refine RunO.pre 4 ?_
  simp only [i5r3, List.take_succ_cons, List.take_zero, List.drop_succ_cons, List.drop_zero, SB, x_bin, binV, intB, x_mov, if_true, reduceCtorEq, not_false_eq_true]
  have h0 : ((f19 x0 x1).1 != (f20 x0 x1).1) = false := o0
  refine RunO.all ?_
  simp only [List.drop_zero, SB, x_bin, binV, intB, x_mov, x_pick, if_true, if_false, Bool.false_eq_true, if_true, reduceCtorEq, not_false_eq_true, exOp_gt, exOp_gf, exOp_gf2, exOp_gs, h0]
  show Run T _ _ _ _
  have h1 : (!((f19 x0 x1).2 == (f20 x0 x1).2)) = false := o1
  refine Run.ite (by rfl) (fun h => by rw [h1] at h; cases h) (fun _ => ?_)
  refine Run.skip ?_
  show Run T _ _ _ _
  refine Run.seq ?_
  refine Run.seq ?_
  refine Run.rgn ?_
  refine RunO.all ?_
  simp only [i5r8, SB, x_mov, h0, h1]
  show Run T _ _ _ _
  refine Run.block ?_
  refine Run.loop1 ?_
  refine Run.clr ?_
  simp only [clrEnv, List.set_cons_zero, List.set_cons_succ]
  refine Run.seq ?_
  refine Run.seq ?_
  refine Run.rgn ?_
  refine RunO.all ?_
  simp only [i5r9, SB, x_bin, binV, intB, x_mov, if_true, reduceCtorEq, not_false_eq_true, if_false, Bool.false_eq_true, Int.reduceBEq, Int.reduceBNe, Int.reduceLT, Int.reduceLE, Int.reduceGT, Int.reduceGE, decide_true, decide_false, beq_self_eq_true, bne_self_eq_false, h0, h1]
  show Run T _ _ _ _
  refine Run.ite (by rfl) (fun _ => ?_) (fun h => by first | exact absurd h (by decide) | (simp only [h0, h1, reduceCtorEq, Bool.not_true, Bool.not_false, Bool.false_eq_true, Bool.true_eq_false] at h))
  refine Run.skip ?_
  show Run T _ _ _ _
  refine Run.seq ?_
  refine Run.block ?_
  refine Run.seq ?_
  refine Run.rgn ?_
  refine RunO.pre 4 ?_
  simp only [i5r12, List.take_succ_cons, List.take_zero, List.drop_succ_cons, List.drop_zero, SB, x_mov, h0, h1]
  refine RunO.c (c21 x0 x1 x2 x3 _) ?_
  refine RunO.all ?_
  simp only [SB, x_ext, extV, List.getElem?_cons_zero, List.getElem?_cons_succ, x_mov, h0, h1]
  show Run T _ _ _ _
  refine Run.seq ?_
  refine Run.rgn ?_
  refine RunO.pre 4 ?_
  simp only [i5r13, List.take_succ_cons, List.take_zero, List.drop_succ_cons, List.drop_zero, SB, x_mov, h0, h1]
  refine RunO.c (c22 x0 x1 x2 x3 (by first | assumption | exact f54_lt _ _ | exact (f14_nn ⟨b0, b3⟩).1 | exact (f14_nn ⟨b2, b1⟩).1 | exact (f14_nn ⟨b2, b1⟩).2) (by first | assumption | exact f54_lt _ _ | exact (f14_nn ⟨b0, b3⟩).1 | exact (f14_nn ⟨b2, b1⟩).1 | exact (f14_nn ⟨b2, b1⟩).2) (by first | assumption | exact f54_lt _ _ | exact (f14_nn ⟨b0, b3⟩).1 | exact (f14_nn ⟨b2, b1⟩).1 | exact (f14_nn ⟨b2, b1⟩).2) _) ?_
  refine RunO.all ?_
  simp only [SB, x_ext, extV, List.getElem?_cons_zero, List.getElem?_cons_succ, x_mov, h0, h1]
  show Run T _ _ _ _
  refine Run.seq ?_
  refine Run.rgn ?_
  refine RunO.pre 3 ?_
  simp only [i5r14, List.take_succ_cons, List.take_zero, List.drop_succ_cons, List.drop_zero, SB, x_mov, h0, h1]
  refine RunO.c (c23 x0 x1 x2 _) ?_
  refine RunO.all ?_
  simp only [SB, x_ext, extV, List.getElem?_cons_zero, List.getElem?_cons_succ, x_mov, h0, h1]
  show Run T _ _ _ _
  refine Run.seq ?_
  refine Run.rgn ?_
  refine RunO.pre 3 ?_
  simp only [i5r15, List.take_succ_cons, List.take_zero, List.drop_succ_cons, List.drop_zero, SB, x_mov, h0, h1]
  refine RunO.c (c24 x0 x1 x2 _) ?_
  refine RunO.all ?_
  simp only [SB, x_ext, extV, List.getElem?_cons_zero, List.getElem?_cons_succ, x_mov, h0, h1]
  show Run T _ _ _ _
  refine Run.seq ?_
  refine Run.seq ?_
  refine Run.rgn ?_
  refine RunO.pre 4 ?_
  simp only [i5r16, List.take_succ_cons, List.take_zero, List.drop_succ_cons, List.drop_zero, SB, x_bin, binV, intB, x_mov, if_true, reduceCtorEq, not_false_eq_true, h0, h1]
  have h2 : ((f21 x0 x1 x2 x3).1 != (f22 x0 x1 x2 x3).1) = false := o2
  refine RunO.pre 5 ?_
  simp only [List.drop_zero, List.take_succ_cons, List.take_zero, List.drop_succ_cons, List.drop_zero, SB, x_bin, binV, intB, x_mov, x_pick, if_true, if_false, Bool.false_eq_true, if_true, reduceCtorEq, not_false_eq_true, exOp_gt, exOp_gf, exOp_gf2, exOp_gs, h0, h1, h2]
  have h3 : (!((f21 x0 x1 x2 x3).2 == (f22 x0 x1 x2 x3).2)) = false := o3
  refine RunO.pre 5 ?_
  simp only [List.drop_zero, List.take_succ_cons, List.take_zero, List.drop_succ_cons, List.drop_zero, SB, x_bin, binV, intB, x_mov, x_pick, if_true, if_false, Bool.false_eq_true, if_true, reduceCtorEq, not_false_eq_true, exOp_gt, exOp_gf, exOp_gf2, exOp_gs, h0, h1, h2, h3]
  have h4 : ((f23 x0 x1 x2).1 != (f24 x0 x1 x2).1) = false := o4
  refine RunO.pre 5 ?_
  simp only [List.drop_zero, List.take_succ_cons, List.take_zero, List.drop_succ_cons, List.drop_zero, SB, x_bin, binV, intB, x_mov, x_pick, if_true, if_false, Bool.false_eq_true, if_true, reduceCtorEq, not_false_eq_true, exOp_gt, exOp_gf, exOp_gf2, exOp_gs, h0, h1, h2, h3, h4]
  have h5 : (!((f23 x0 x1 x2).2 == (f24 x0 x1 x2).2)) = false := o5
  refine RunO.pre 3 ?_
  simp only [List.drop_zero, List.take_succ_cons, List.take_zero, List.drop_succ_cons, List.drop_zero, SB, x_mov, exOp_gt, exOp_gf, exOp_gf2, exOp_gs, h0, h1, h2, h3, h4, h5]
  refine RunO.cg (by rfl) (c25 x0 x1 x3 _) ?_
  refine RunO.pre 3 ?_
  simp only [List.take_succ_cons, List.take_zero, List.drop_succ_cons, List.drop_zero, SB, x_mov, exOp_gt, exOp_gf, exOp_gf2, exOp_gs, h0, h1, h2, h3, h4, h5]
  refine RunO.cg (by rfl) (c26 x0 x1 x3 _) ?_
  refine RunO.all ?_
  simp only [SB, x_bin, binV, intB, x_pick, if_true, if_false, Bool.false_eq_true, if_true, reduceCtorEq, not_false_eq_true, exOp_gt, exOp_gf, exOp_gf2, exOp_gs, h0, h1, h2, h3, h4, h5]
  show Run T _ _ _ _
  have h6 : (!((f25 x0 x1 x3) == (f26 x0 x1 x3))) = false := o6
  refine Run.ite (by rfl) (fun h => by rw [h6] at h; cases h) (fun _ => ?_)
  refine Run.skip ?_
  show Run T _ _ _ _
  refine Run.rgn ?_
  refine RunO.pre 2 ?_
  simp only [i5r21, List.take_succ_cons, List.take_zero, List.drop_succ_cons, List.drop_zero, SB, x_mov, h0, h1, h2, h3, h4, h5, h6]
  refine RunO.c (c14 x1 x2 _) ?_
  refine RunO.pre 2 ?_
  simp only [List.take_succ_cons, List.take_zero, List.drop_succ_cons, List.drop_zero, SB, x_mov, h0, h1, h2, h3, h4, h5, h6]
  refine RunO.c (c14 x1 x3 _) ?_
  refine RunO.all ?_
  simp only [SB, x_mov, h0, h1, h2, h3, h4, h5, h6]
  show Run T _ _ _ _
  refine Run.rgn ?_
  refine RunO.all ?_
  simp only [i5r28, SB, x_bin, binV, intB, x_mov, if_true, reduceCtorEq, not_false_eq_true, if_false, Bool.false_eq_true, Int.reduceBEq, Int.reduceBNe, Int.reduceLT, Int.reduceLE, Int.reduceGT, Int.reduceGE, decide_true, decide_false, beq_self_eq_true, bne_self_eq_false, h0, h1, h2, h3, h4, h5, h6]
  show Run T _ _ _ _
  refine Run.loop1 ?_
  refine Run.clr ?_
  simp only [clrEnv, List.set_cons_zero, List.set_cons_succ]
  refine Run.seq ?_
  refine Run.seq ?_
  refine Run.rgn ?_
  refine RunO.all ?_
  simp only [i5r9, SB, x_bin, binV, intB, x_mov, if_true, reduceCtorEq, not_false_eq_true, if_false, Bool.false_eq_true, Int.reduceBEq, Int.reduceBNe, Int.reduceLT, Int.reduceLE, Int.reduceGT, Int.reduceGE, decide_true, decide_false, beq_self_eq_true, bne_self_eq_false, h0, h1, h2, h3, h4, h5, h6]
  show Run T _ _ _ _
  refine Run.ite (by rfl) (fun _ => ?_) (fun h => by first | exact absurd h (by decide) | (simp only [h0, h1, h2, h3, h4, h5, h6, reduceCtorEq, Bool.not_true, Bool.not_false, Bool.false_eq_true, Bool.true_eq_false] at h))
  refine Run.skip ?_
  show Run T _ _ _ _
  refine Run.seq ?_
  refine Run.block ?_
  refine Run.seq ?_
  refine Run.rgn ?_
  refine RunO.pre 4 ?_
  simp only [i5r12, List.take_succ_cons, List.take_zero, List.drop_succ_cons, List.drop_zero, SB, x_mov, h0, h1, h2, h3, h4, h5, h6]
  refine RunO.c (c21 x0 x1 (f14 x1 x2) (f14 x1 x3) _) ?_
  refine RunO.all ?_
  simp only [SB, x_ext, extV, List.getElem?_cons_zero, List.getElem?_cons_succ, x_mov, h0, h1, h2, h3, h4, h5, h6]
  show Run T _ _ _ _
  refine Run.seq ?_
  refine Run.rgn ?_
  refine RunO.pre 4 ?_
  simp only [i5r13, List.take_succ_cons, List.take_zero, List.drop_succ_cons, List.drop_zero, SB, x_mov, h0, h1, h2, h3, h4, h5, h6]
  refine RunO.c (c22 x0 x1 (f14 x1 x2) (f14 x1 x3) (by first | assumption | exact f54_lt _ _ | exact (f14_nn ⟨b0, b3⟩).1 | exact (f14_nn ⟨b2, b1⟩).1 | exact (f14_nn ⟨b2, b1⟩).2) (by first | assumption | exact f54_lt _ _ | exact (f14_nn ⟨b0, b3⟩).1 | exact (f14_nn ⟨b2, b1⟩).1 | exact (f14_nn ⟨b2, b1⟩).2) (by first | assumption | exact f54_lt _ _ | exact (f14_nn ⟨b0, b3⟩).1 | exact (f14_nn ⟨b2, b1⟩).1 | exact (f14_nn ⟨b2, b1⟩).2) _) ?_
  refine RunO.all ?_
  simp only [SB, x_ext, extV, List.getElem?_cons_zero, List.getElem?_cons_succ, x_mov, h0, h1, h2, h3, h4, h5, h6]
  show Run T _ _ _ _
  refine Run.seq ?_
  refine Run.rgn ?_
  refine RunO.pre 3 ?_
  simp only [i5r14, List.take_succ_cons, List.take_zero, List.drop_succ_cons, List.drop_zero, SB, x_mov, h0, h1, h2, h3, h4, h5, h6]
  refine RunO.c (c23 x0 x1 (f14 x1 x2) _) ?_
  refine RunO.all ?_
  simp only [SB, x_ext, extV, List.getElem?_cons_zero, List.getElem?_cons_succ, x_mov, h0, h1, h2, h3, h4, h5, h6]
  show Run T _ _ _ _
  refine Run.seq ?_
  refine Run.rgn ?_
  refine RunO.pre 3 ?_
  simp only [i5r15, List.take_succ_cons, List.take_zero, List.drop_succ_cons, List.drop_zero, SB, x_mov, h0, h1, h2, h3, h4, h5, h6]
  refine RunO.c (c24 x0 x1 (f14 x1 x2) _) ?_
  refine RunO.all ?_
  simp only [SB, x_ext, extV, List.getElem?_cons_zero, List.getElem?_cons_succ, x_mov, h0, h1, h2, h3, h4, h5, h6]
  show Run T _ _ _ _
  refine Run.seq ?_
  refine Run.seq ?_
  refine Run.rgn ?_
  refine RunO.pre 4 ?_
  simp only [i5r16, List.take_succ_cons, List.take_zero, List.drop_succ_cons, List.drop_zero, SB, x_bin, binV, intB, x_mov, if_true, reduceCtorEq, not_false_eq_true, h0, h1, h2, h3, h4, h5, h6]
  have h7 : ((f21 x0 x1 (f14 x1 x2) (f14 x1 x3)).1 != (f22 x0 x1 (f14 x1 x2) (f14 x1 x3)).1) = false := o7
  refine RunO.pre 5 ?_
  simp only [List.drop_zero, List.take_succ_cons, List.take_zero, List.drop_succ_cons, List.drop_zero, SB, x_bin, binV, intB, x_mov, x_pick, if_true, if_false, Bool.false_eq_true, if_true, reduceCtorEq, not_false_eq_true, exOp_gt, exOp_gf, exOp_gf2, exOp_gs, h0, h1, h2, h3, h4, h5, h6, h7]
  have h8 : (!((f21 x0 x1 (f14 x1 x2) (f14 x1 x3)).2 == (f22 x0 x1 (f14 x1 x2) (f14 x1 x3)).2)) = false := o8
  refine RunO.pre 5 ?_
  simp only [List.drop_zero, List.take_succ_cons, List.take_zero, List.drop_succ_cons, List.drop_zero, SB, x_bin, binV, intB, x_mov, x_pick, if_true, if_false, Bool.false_eq_true, if_true, reduceCtorEq, not_false_eq_true, exOp_gt, exOp_gf, exOp_gf2, exOp_gs, h0, h1, h2, h3, h4, h5, h6, h7, h8]
  have h9 : ((f23 x0 x1 (f14 x1 x2)).1 != (f24 x0 x1 (f14 x1 x2)).1) = false := o9
  refine RunO.pre 5 ?_
  simp only [List.drop_zero, List.take_succ_cons, List.take_zero, List.drop_succ_cons, List.drop_zero, SB, x_bin, binV, intB, x_mov, x_pick, if_true, if_false, Bool.false_eq_true, if_true, reduceCtorEq, not_false_eq_true, exOp_gt, exOp_gf, exOp_gf2, exOp_gs, h0, h1, h2, h3, h4, h5, h6, h7, h8, h9]
  have h10 : (!((f23 x0 x1 (f14 x1 x2)).2 == (f24 x0 x1 (f14 x1 x2)).2)) = false := o10
  refine RunO.pre 3 ?_
  simp only [List.drop_zero, List.take_succ_cons, List.take_zero, List.drop_succ_cons, List.drop_zero, SB, x_mov, exOp_gt, exOp_gf, exOp_gf2, exOp_gs, h0, h1, h2, h3, h4, h5, h6, h7, h8, h9, h10]
  refine RunO.cg (by rfl) (c25 x0 x1 (f14 x1 x3) _) ?_
  refine RunO.pre 3 ?_
  simp only [List.take_succ_cons, List.take_zero, List.drop_succ_cons, List.drop_zero, SB, x_mov, exOp_gt, exOp_gf, exOp_gf2, exOp_gs, h0, h1, h2, h3, h4, h5, h6, h7, h8, h9, h10]
  refine RunO.cg (by rfl) (c26 x0 x1 (f14 x1 x3) _) ?_
  refine RunO.all ?_
  simp only [SB, x_bin, binV, intB, x_pick, if_true, if_false, Bool.false_eq_true, if_true, reduceCtorEq, not_false_eq_true, exOp_gt, exOp_gf, exOp_gf2, exOp_gs, h0, h1, h2, h3, h4, h5, h6, h7, h8, h9, h10]
  show Run T _ _ _ _
  have h11 : (!((f25 x0 x1 (f14 x1 x3)) == (f26 x0 x1 (f14 x1 x3)))) = false := o11
  refine Run.ite (by rfl) (fun h => by rw [h11] at h; cases h) (fun _ => ?_)
  refine Run.skip ?_
  show Run T _ _ _ _
  refine Run.rgn ?_
  refine RunO.pre 2 ?_
  simp only [i5r21, List.take_succ_cons, List.take_zero, List.drop_succ_cons, List.drop_zero, SB, x_mov, h0, h1, h2, h3, h4, h5, h6, h7, h8, h9, h10, h11]
  refine RunO.c (c14 x1 (f14 x1 x2) _) ?_
  refine RunO.pre 2 ?_
  simp only [List.take_succ_cons, List.take_zero, List.drop_succ_cons, List.drop_zero, SB, x_mov, h0, h1, h2, h3, h4, h5, h6, h7, h8, h9, h10, h11]
  refine RunO.c (c14 x1 (f14 x1 x3) _) ?_
  refine RunO.all ?_
  simp only [SB, x_mov, h0, h1, h2, h3, h4, h5, h6, h7, h8, h9, h10, h11]
  show Run T _ _ _ _
  refine Run.rgn ?_
  refine RunO.all ?_
  simp only [i5r28, SB, x_bin, binV, intB, x_mov, if_true, reduceCtorEq, not_false_eq_true, if_false, Bool.false_eq_true, Int.reduceBEq, Int.reduceBNe, Int.reduceLT, Int.reduceLE, Int.reduceGT, Int.reduceGE, decide_true, decide_false, beq_self_eq_true, bne_self_eq_false, h0, h1, h2, h3, h4, h5, h6, h7, h8, h9, h10, h11]
  show Run T _ _ _ _
  refine Run.loop1 ?_
  refine Run.clr ?_
  simp only [clrEnv, List.set_cons_zero, List.set_cons_succ]
  refine Run.seq ?_
  refine Run.seq ?_
  refine Run.rgn ?_
  refine RunO.all ?_
  simp only [i5r9, SB, x_bin, binV, intB, x_mov, if_true, reduceCtorEq, not_false_eq_true, if_false, Bool.false_eq_true, Int.reduceBEq, Int.reduceBNe, Int.reduceLT, Int.reduceLE, Int.reduceGT, Int.reduceGE, decide_true, decide_false, beq_self_eq_true, bne_self_eq_false, h0, h1, h2, h3, h4, h5, h6, h7, h8, h9, h10, h11]
  show Run T _ _ _ _
  refine Run.ite (by rfl) (fun h => by first | exact absurd h (by decide) | (simp only [h0, h1, h2, h3, h4, h5, h6, h7, h8, h9, h10, h11, reduceCtorEq, Bool.not_true, Bool.not_false, Bool.false_eq_true, Bool.true_eq_false] at h)) (fun _ => ?_)
  refine Run.exit ?_
  show Run T _ _ _ _
  refine Run.seq ?_
  refine Run.rgn ?_
  refine RunO.pre 0 ?_
  simp only [i5r34, List.take_succ_cons, List.take_zero, List.drop_succ_cons, List.drop_zero, SB, h0, h1, h2, h3, h4, h5, h6, h7, h8, h9, h10, h11]
  refine RunO.c (awakeY _) ?_
  refine RunO.all ?_
  simp only [SB, x_mov, h0, h1, h2, h3, h4, h5, h6, h7, h8, h9, h10, h11]
  show Run T _ _ _ _
  refine Run.ret ⟨?_, rfl⟩
  rfl

end Go.Eng.Sca
