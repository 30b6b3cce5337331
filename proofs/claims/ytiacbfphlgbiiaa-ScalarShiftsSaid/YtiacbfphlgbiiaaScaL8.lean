/- Functions of this seat, each with a plain function that gives the same answers (lines written by a program of this session's; no condition beyond those stated). -/
import Derived.Test.YtiacbfphlgbiiaaScaJ
namespace Go.Eng.Sca
open Go Go.Eng
set_option linter.unusedVariables false
set_option linter.unusedSimpArgs false
set_option maxRecDepth 20000
set_option maxHeartbeats 4000000

theorem tm_ng {b : Int} (h : 0 ≤ b) (m : Int) : ¬ b.tmod m < 0 := by have := Int.tmod_nonneg m h; omega

/- smithy/smithylaw01.ScalarShifts -/
theorem w8 (x0 : Int) (x1 : Int) (x2 : Int) (b0 : 0 ≤ f13 (f16 x0) x2)
    (o0 : ((f16 x0) == (2 : Int)) = true → ((f17 (9 : Int) (f16 x0) (f13 (f16 x0) x1) (f13 (f16 x0) x2)) != (f17 (3 : Int) (f16 x0) (f13 (f16 x0) x1) (f13 (f16 x0) (IntKind.u64.wrap ((1 : Int) * 2 ^ (min ((f13 (f16 x0) x2).tmod (8 : Int)).toNat IntKind.u64.bits)))))) = false)
    (o1 : ((f16 x0) == (2 : Int)) = true → ((f17 (9 : Int) (f16 x0) (f13 (f16 x0) x1) (f13 (f16 x0) x2)) != (f17 (9 : Int) (f16 x0) (f13 (f16 x0) x1) ((f13 (f16 x0) x2).tmod (8 : Int)))) = false)
    (o2 : ((f16 x0) == (2 : Int)) = true → ((f17 (10 : Int) (f16 x0) (f13 (f16 x0) x1) (f13 (f16 x0) x2)) != (f17 (10 : Int) (f16 x0) (f13 (f16 x0) x1) ((f13 (f16 x0) x2).tmod (8 : Int)))) = false)
    (o3 : ((f16 x0) == (2 : Int)) = true → (!(f11 (f16 x0) (f17 (10 : Int) (f16 x0) (f13 (f16 x0) x1) (f13 (f16 x0) x2)))) = false)
    (o4 : ((f16 x0) == (2 : Int)) = true → (decide ((IntKind.u64.wrap ((f17 (10 : Int) (f16 x0) (f13 (f16 x0) x1) (f13 (f16 x0) x2)) * 2 ^ (min ((f13 (f16 x0) x2).tmod (8 : Int)).toNat IntKind.u64.bits))) > (f13 (f16 x0) x1))) = true → (decide ((IntKind.i64.wrap (f13 (f16 x0) x1)) ≥ (0 : Int))) = false)
    (o5 : ((f16 x0) == (2 : Int)) = true → (decide ((IntKind.u64.wrap ((f17 (10 : Int) (f16 x0) (f13 (f16 x0) x1) (f13 (f16 x0) x2)) * 2 ^ (min ((f13 (f16 x0) x2).tmod (8 : Int)).toNat IntKind.u64.bits))) > (f13 (f16 x0) x1))) = true → (decide ((f32 (f27 (f17 (10 : Int) (f16 x0) (f13 (f16 x0) x1) (f13 (f16 x0) x2)))) > (f32 (f27 (f13 (f16 x0) x1))))) = false)
    (o6 : ((f16 x0) == (2 : Int)) = true → (decide ((IntKind.u64.wrap ((f17 (10 : Int) (f16 x0) (f13 (f16 x0) x1) (f13 (f16 x0) x2)) * 2 ^ (min ((f13 (f16 x0) x2).tmod (8 : Int)).toNat IntKind.u64.bits))) > (f13 (f16 x0) x1))) = true → ((f17 (10 : Int) (f16 x0) (f13 (f16 x0) x1) (f13 (f16 x0) x2)) == (IntKind.u64.wrap ((IntKind.i64.wrap (f13 (f16 x0) x1)).fdiv (2 ^ (min ((f13 (f16 x0) x2).tmod (8 : Int)).toNat IntKind.i64.bits))))) = true)
    (o7 : ((f16 x0) == (2 : Int)) = true → (decide ((IntKind.u64.wrap ((f17 (10 : Int) (f16 x0) (f13 (f16 x0) x1) (f13 (f16 x0) x2)) * 2 ^ (min ((f13 (f16 x0) x2).tmod (8 : Int)).toNat IntKind.u64.bits))) > (f13 (f16 x0) x1))) = false → (decide ((f32 (f27 (f17 (10 : Int) (f16 x0) (f13 (f16 x0) x1) (f13 (f16 x0) x2)))) > (f32 (f27 (f13 (f16 x0) x1))))) = false)
    (o8 : ((f16 x0) == (2 : Int)) = true → (decide ((IntKind.u64.wrap ((f17 (10 : Int) (f16 x0) (f13 (f16 x0) x1) (f13 (f16 x0) x2)) * 2 ^ (min ((f13 (f16 x0) x2).tmod (8 : Int)).toNat IntKind.u64.bits))) > (f13 (f16 x0) x1))) = false → ((f17 (10 : Int) (f16 x0) (f13 (f16 x0) x1) (f13 (f16 x0) x2)) == (IntKind.u64.wrap ((IntKind.i64.wrap (f13 (f16 x0) x1)).fdiv (2 ^ (min ((f13 (f16 x0) x2).tmod (8 : Int)).toNat IntKind.i64.bits))))) = true)
    (o9 : ((f16 x0) == (2 : Int)) = false → ((f16 x0) == (3 : Int)) = true → ((f17 (9 : Int) (f16 x0) (f13 (f16 x0) x1) (f13 (f16 x0) x2)) != (f17 (3 : Int) (f16 x0) (f13 (f16 x0) x1) (f13 (f16 x0) (IntKind.u64.wrap ((1 : Int) * 2 ^ (min ((f13 (f16 x0) x2).tmod (32 : Int)).toNat IntKind.u64.bits)))))) = false)
    (o10 : ((f16 x0) == (2 : Int)) = false → ((f16 x0) == (3 : Int)) = true → ((f17 (9 : Int) (f16 x0) (f13 (f16 x0) x1) (f13 (f16 x0) x2)) != (f17 (9 : Int) (f16 x0) (f13 (f16 x0) x1) ((f13 (f16 x0) x2).tmod (32 : Int)))) = false)
    (o11 : ((f16 x0) == (2 : Int)) = false → ((f16 x0) == (3 : Int)) = true → ((f17 (10 : Int) (f16 x0) (f13 (f16 x0) x1) (f13 (f16 x0) x2)) != (f17 (10 : Int) (f16 x0) (f13 (f16 x0) x1) ((f13 (f16 x0) x2).tmod (32 : Int)))) = false)
    (o12 : ((f16 x0) == (2 : Int)) = false → ((f16 x0) == (3 : Int)) = true → (!(f11 (f16 x0) (f17 (10 : Int) (f16 x0) (f13 (f16 x0) x1) (f13 (f16 x0) x2)))) = false)
    (o13 : ((f16 x0) == (2 : Int)) = false → ((f16 x0) == (3 : Int)) = true → (decide ((IntKind.u64.wrap ((f17 (10 : Int) (f16 x0) (f13 (f16 x0) x1) (f13 (f16 x0) x2)) * 2 ^ (min ((f13 (f16 x0) x2).tmod (32 : Int)).toNat IntKind.u64.bits))) > (f13 (f16 x0) x1))) = true → (decide ((IntKind.i64.wrap (f13 (f16 x0) x1)) ≥ (0 : Int))) = false)
    (o14 : ((f16 x0) == (2 : Int)) = false → ((f16 x0) == (3 : Int)) = true → (decide ((IntKind.u64.wrap ((f17 (10 : Int) (f16 x0) (f13 (f16 x0) x1) (f13 (f16 x0) x2)) * 2 ^ (min ((f13 (f16 x0) x2).tmod (32 : Int)).toNat IntKind.u64.bits))) > (f13 (f16 x0) x1))) = true → (decide ((f32 (f27 (f17 (10 : Int) (f16 x0) (f13 (f16 x0) x1) (f13 (f16 x0) x2)))) > (f32 (f27 (f13 (f16 x0) x1))))) = false)
    (o15 : ((f16 x0) == (2 : Int)) = false → ((f16 x0) == (3 : Int)) = true → (decide ((IntKind.u64.wrap ((f17 (10 : Int) (f16 x0) (f13 (f16 x0) x1) (f13 (f16 x0) x2)) * 2 ^ (min ((f13 (f16 x0) x2).tmod (32 : Int)).toNat IntKind.u64.bits))) > (f13 (f16 x0) x1))) = true → ((f17 (10 : Int) (f16 x0) (f13 (f16 x0) x1) (f13 (f16 x0) x2)) == (IntKind.u64.wrap ((IntKind.i64.wrap (f13 (f16 x0) x1)).fdiv (2 ^ (min ((f13 (f16 x0) x2).tmod (32 : Int)).toNat IntKind.i64.bits))))) = true)
    (o16 : ((f16 x0) == (2 : Int)) = false → ((f16 x0) == (3 : Int)) = true → (decide ((IntKind.u64.wrap ((f17 (10 : Int) (f16 x0) (f13 (f16 x0) x1) (f13 (f16 x0) x2)) * 2 ^ (min ((f13 (f16 x0) x2).tmod (32 : Int)).toNat IntKind.u64.bits))) > (f13 (f16 x0) x1))) = false → (decide ((f32 (f27 (f17 (10 : Int) (f16 x0) (f13 (f16 x0) x1) (f13 (f16 x0) x2)))) > (f32 (f27 (f13 (f16 x0) x1))))) = false)
    (o17 : ((f16 x0) == (2 : Int)) = false → ((f16 x0) == (3 : Int)) = true → (decide ((IntKind.u64.wrap ((f17 (10 : Int) (f16 x0) (f13 (f16 x0) x1) (f13 (f16 x0) x2)) * 2 ^ (min ((f13 (f16 x0) x2).tmod (32 : Int)).toNat IntKind.u64.bits))) > (f13 (f16 x0) x1))) = false → ((f17 (10 : Int) (f16 x0) (f13 (f16 x0) x1) (f13 (f16 x0) x2)) == (IntKind.u64.wrap ((IntKind.i64.wrap (f13 (f16 x0) x1)).fdiv (2 ^ (min ((f13 (f16 x0) x2).tmod (32 : Int)).toNat IntKind.i64.bits))))) = true)
    (o18 : ((f16 x0) == (2 : Int)) = false → ((f16 x0) == (3 : Int)) = false → ((f17 (9 : Int) (f16 x0) (f13 (f16 x0) x1) (f13 (f16 x0) x2)) != (f17 (3 : Int) (f16 x0) (f13 (f16 x0) x1) (f13 (f16 x0) (IntKind.u64.wrap ((1 : Int) * 2 ^ (min ((f13 (f16 x0) x2).tmod (64 : Int)).toNat IntKind.u64.bits)))))) = false)
    (o19 : ((f16 x0) == (2 : Int)) = false → ((f16 x0) == (3 : Int)) = false → ((f17 (9 : Int) (f16 x0) (f13 (f16 x0) x1) (f13 (f16 x0) x2)) != (f17 (9 : Int) (f16 x0) (f13 (f16 x0) x1) ((f13 (f16 x0) x2).tmod (64 : Int)))) = false)
    (o20 : ((f16 x0) == (2 : Int)) = false → ((f16 x0) == (3 : Int)) = false → ((f17 (10 : Int) (f16 x0) (f13 (f16 x0) x1) (f13 (f16 x0) x2)) != (f17 (10 : Int) (f16 x0) (f13 (f16 x0) x1) ((f13 (f16 x0) x2).tmod (64 : Int)))) = false)
    (o21 : ((f16 x0) == (2 : Int)) = false → ((f16 x0) == (3 : Int)) = false → (!(f11 (f16 x0) (f17 (10 : Int) (f16 x0) (f13 (f16 x0) x1) (f13 (f16 x0) x2)))) = false)
    (o22 : ((f16 x0) == (2 : Int)) = false → ((f16 x0) == (3 : Int)) = false → (decide ((IntKind.u64.wrap ((f17 (10 : Int) (f16 x0) (f13 (f16 x0) x1) (f13 (f16 x0) x2)) * 2 ^ (min ((f13 (f16 x0) x2).tmod (64 : Int)).toNat IntKind.u64.bits))) > (f13 (f16 x0) x1))) = true → (decide ((IntKind.i64.wrap (f13 (f16 x0) x1)) ≥ (0 : Int))) = false)
    (o23 : ((f16 x0) == (2 : Int)) = false → ((f16 x0) == (3 : Int)) = false → (decide ((IntKind.u64.wrap ((f17 (10 : Int) (f16 x0) (f13 (f16 x0) x1) (f13 (f16 x0) x2)) * 2 ^ (min ((f13 (f16 x0) x2).tmod (64 : Int)).toNat IntKind.u64.bits))) > (f13 (f16 x0) x1))) = true → (decide ((f32 (f27 (f17 (10 : Int) (f16 x0) (f13 (f16 x0) x1) (f13 (f16 x0) x2)))) > (f32 (f27 (f13 (f16 x0) x1))))) = false)
    (o24 : ((f16 x0) == (2 : Int)) = false → ((f16 x0) == (3 : Int)) = false → (decide ((IntKind.u64.wrap ((f17 (10 : Int) (f16 x0) (f13 (f16 x0) x1) (f13 (f16 x0) x2)) * 2 ^ (min ((f13 (f16 x0) x2).tmod (64 : Int)).toNat IntKind.u64.bits))) > (f13 (f16 x0) x1))) = true → ((f17 (10 : Int) (f16 x0) (f13 (f16 x0) x1) (f13 (f16 x0) x2)) == (IntKind.u64.wrap ((IntKind.i64.wrap (f13 (f16 x0) x1)).fdiv (2 ^ (min ((f13 (f16 x0) x2).tmod (64 : Int)).toNat IntKind.i64.bits))))) = true)
    (o25 : ((f16 x0) == (2 : Int)) = false → ((f16 x0) == (3 : Int)) = false → (decide ((IntKind.u64.wrap ((f17 (10 : Int) (f16 x0) (f13 (f16 x0) x1) (f13 (f16 x0) x2)) * 2 ^ (min ((f13 (f16 x0) x2).tmod (64 : Int)).toNat IntKind.u64.bits))) > (f13 (f16 x0) x1))) = false → (decide ((f32 (f27 (f17 (10 : Int) (f16 x0) (f13 (f16 x0) x1) (f13 (f16 x0) x2)))) > (f32 (f27 (f13 (f16 x0) x1))))) = false)
    (o26 : ((f16 x0) == (2 : Int)) = false → ((f16 x0) == (3 : Int)) = false → (decide ((IntKind.u64.wrap ((f17 (10 : Int) (f16 x0) (f13 (f16 x0) x1) (f13 (f16 x0) x2)) * 2 ^ (min ((f13 (f16 x0) x2).tmod (64 : Int)).toNat IntKind.u64.bits))) > (f13 (f16 x0) x1))) = false → ((f17 (10 : Int) (f16 x0) (f13 (f16 x0) x1) (f13 (f16 x0) x2)) == (IntKind.u64.wrap ((IntKind.i64.wrap (f13 (f16 x0) x1)).fdiv (2 ^ (min ((f13 (f16 x0) x2).tmod (64 : Int)).toNat IntKind.i64.bits))))) = true) (H : Heap) :
    Fn T 8 [.int .u8 x0, .int .u64 x1, .int .u64 x2] H (fun r h => r = .bool true ∧ h = H) := by
  refine Fn.enter t8 ?_; simp only [i8, List.length_cons, List.length_nil, Nat.reduceAdd, Nat.reduceSub, List.replicate_succ, List.replicate_zero, List.cons_append, List.nil_append]
  refine Run.seq ?_
  refine Run.rgn ?_
  refine RunO.all ?_
  simp only [i8r0, exOps_nil, exOps_cons, bindO_some, put_some, ev_t, ev_c, List.getD_cons_zero, List.getD_cons_succ, List.set_cons_zero, List.set_cons_succ, optB_some, mapQ_some, x_mov, if_neg (tm_ng b0 8), if_neg (tm_ng b0 32), if_neg (tm_ng b0 64)]
  show Run T _ _ _ _
  refine Run.seq ?_
  refine Run.seq ?_
  refine Run.rgn ?_
  refine RunO.pre 0 ?_
  simp only [i8r1, List.take_succ_cons, List.take_zero, List.drop_succ_cons, List.drop_zero, exOps_nil, exOps_cons, bindO_some, put_some, ev_t, ev_c, List.getD_cons_zero, List.getD_cons_succ, List.set_cons_zero, List.set_cons_succ, optB_some, mapQ_some, if_neg (tm_ng b0 8), if_neg (tm_ng b0 32), if_neg (tm_ng b0 64)]
  refine RunO.c (awakeY _) ?_
  refine RunO.all ?_
  simp only [exOps_nil, exOps_cons, bindO_some, put_some, ev_t, ev_c, List.getD_cons_zero, List.getD_cons_succ, List.set_cons_zero, List.set_cons_succ, optB_some, mapQ_some, x_un, unV, intB, if_neg (tm_ng b0 8), if_neg (tm_ng b0 32), if_neg (tm_ng b0 64)]
  show Run T _ _ _ _
  refine Run.ite (by rfl) (fun h => by first | exact absurd h (by decide) | (simp only [reduceCtorEq, Bool.not_true, Bool.not_false, Bool.false_eq_true, Bool.true_eq_false] at h)) (fun _ => ?_)
  refine Run.skip ?_
  show Run T _ _ _ _
  refine Run.seq ?_
  refine Run.rgn ?_
  refine RunO.pre 1 ?_
  simp only [i8r6, List.take_succ_cons, List.take_zero, List.drop_succ_cons, List.drop_zero, exOps_nil, exOps_cons, bindO_some, put_some, ev_t, ev_c, List.getD_cons_zero, List.getD_cons_succ, List.set_cons_zero, List.set_cons_succ, optB_some, mapQ_some, x_mov, if_neg (tm_ng b0 8), if_neg (tm_ng b0 32), if_neg (tm_ng b0 64)]
  refine RunO.c (c16 x0 _) ?_
  refine RunO.all ?_
  simp only [exOps_nil, exOps_cons, bindO_some, put_some, ev_t, ev_c, List.getD_cons_zero, List.getD_cons_succ, List.set_cons_zero, List.set_cons_succ, optB_some, mapQ_some, x_mov, if_neg (tm_ng b0 8), if_neg (tm_ng b0 32), if_neg (tm_ng b0 64)]
  show Run T _ _ _ _
  refine Run.seq ?_
  refine Run.rgn ?_
  refine RunO.pre 2 ?_
  simp only [i8r7, List.take_succ_cons, List.take_zero, List.drop_succ_cons, List.drop_zero, exOps_nil, exOps_cons, bindO_some, put_some, ev_t, ev_c, List.getD_cons_zero, List.getD_cons_succ, List.set_cons_zero, List.set_cons_succ, optB_some, mapQ_some, x_mov, if_neg (tm_ng b0 8), if_neg (tm_ng b0 32), if_neg (tm_ng b0 64)]
  refine RunO.c (c13 (f16 x0) x1 _) ?_
  refine RunO.pre 2 ?_
  simp only [List.take_succ_cons, List.take_zero, List.drop_succ_cons, List.drop_zero, exOps_nil, exOps_cons, bindO_some, put_some, ev_t, ev_c, List.getD_cons_zero, List.getD_cons_succ, List.set_cons_zero, List.set_cons_succ, optB_some, mapQ_some, x_mov, if_neg (tm_ng b0 8), if_neg (tm_ng b0 32), if_neg (tm_ng b0 64)]
  refine RunO.c (c13 (f16 x0) x2 _) ?_
  refine RunO.all ?_
  simp only [exOps_nil, exOps_cons, bindO_some, put_some, ev_t, ev_c, List.getD_cons_zero, List.getD_cons_succ, List.set_cons_zero, List.set_cons_succ, optB_some, mapQ_some, x_mov, if_neg (tm_ng b0 8), if_neg (tm_ng b0 32), if_neg (tm_ng b0 64)]
  show Run T _ _ _ _
  refine Run.seq ?_
  refine Run.rgn ?_
  refine RunO.all ?_
  simp only [i8r8, exOps_nil, exOps_cons, bindO_some, put_some, ev_t, ev_c, List.getD_cons_zero, List.getD_cons_succ, List.set_cons_zero, List.set_cons_succ, optB_some, mapQ_some, x_mov, if_neg (tm_ng b0 8), if_neg (tm_ng b0 32), if_neg (tm_ng b0 64)]
  show Run T _ _ _ _
  refine Run.seq ?_
  refine Run.seq ?_
  refine Run.rgn ?_
  refine RunO.all ?_
  simp only [i8r9, exOps_nil, exOps_cons, bindO_some, put_some, ev_t, ev_c, List.getD_cons_zero, List.getD_cons_succ, List.set_cons_zero, List.set_cons_succ, optB_some, mapQ_some, x_bin, binV, intB, x_mov, if_true, if_false, reduceCtorEq, Bool.false_eq_true, Int.reduceBEq, Int.reduceBNe, Int.reduceLT, Int.reduceLE, Int.reduceGT, Int.reduceGE, decide_true, decide_false, beq_self_eq_true, bne_self_eq_false, not_false_eq_true, if_neg (tm_ng b0 8), if_neg (tm_ng b0 32), if_neg (tm_ng b0 64)]
  show Run T _ _ _ _
  refine Run.ite (by rfl) (fun h0 => ?_) (fun h0 => ?_)
  · skip
    refine Run.rgn ?_
    refine RunO.all ?_
    simp only [i8r10, exOps_nil, exOps_cons, bindO_some, put_some, ev_t, ev_c, List.getD_cons_zero, List.getD_cons_succ, List.set_cons_zero, List.set_cons_succ, optB_some, mapQ_some, x_mov, h0, if_neg (tm_ng b0 8), if_neg (tm_ng b0 32), if_neg (tm_ng b0 64)]
    show Run T _ _ _ _
    refine Run.seq ?_
    refine Run.rgn ?_
    refine RunO.all ?_
    simp only [i8r17, exOps_nil, exOps_cons, bindO_some, put_some, ev_t, ev_c, List.getD_cons_zero, List.getD_cons_succ, List.set_cons_zero, List.set_cons_succ, optB_some, mapQ_some, x_bin, binV, intB, x_mov, if_true, if_false, reduceCtorEq, Bool.false_eq_true, Int.reduceBEq, Int.reduceBNe, Int.reduceLT, Int.reduceLE, Int.reduceGT, Int.reduceGE, decide_true, decide_false, beq_self_eq_true, bne_self_eq_false, not_false_eq_true, h0, if_neg (show ¬ ((8 : Int) = 0) by decide), if_neg (tm_ng b0 8), if_neg (tm_ng b0 32), if_neg (tm_ng b0 64)]
    show Run T _ _ _ _
    refine Run.seq ?_
    refine Run.rgn ?_
    refine RunO.pre 3 ?_
    simp only [i8r18, List.take_succ_cons, List.take_zero, List.drop_succ_cons, List.drop_zero, exOps_nil, exOps_cons, bindO_some, put_some, ev_t, ev_c, List.getD_cons_zero, List.getD_cons_succ, List.set_cons_zero, List.set_cons_succ, optB_some, mapQ_some, x_mov, h0, if_neg (tm_ng b0 8), if_neg (tm_ng b0 32), if_neg (tm_ng b0 64)]
    refine RunO.c (c17 (9 : Int) (f16 x0) (f13 (f16 x0) x1) (f13 (f16 x0) x2) _) ?_
    refine RunO.pre 3 ?_
    simp only [List.take_succ_cons, List.take_zero, List.drop_succ_cons, List.drop_zero, exOps_nil, exOps_cons, bindO_some, put_some, ev_t, ev_c, List.getD_cons_zero, List.getD_cons_succ, List.set_cons_zero, List.set_cons_succ, optB_some, mapQ_some, x_mov, h0, if_neg (tm_ng b0 8), if_neg (tm_ng b0 32), if_neg (tm_ng b0 64)]
    refine RunO.c (c17 (10 : Int) (f16 x0) (f13 (f16 x0) x1) (f13 (f16 x0) x2) _) ?_
    refine RunO.all ?_
    simp only [exOps_nil, exOps_cons, bindO_some, put_some, ev_t, ev_c, List.getD_cons_zero, List.getD_cons_succ, List.set_cons_zero, List.set_cons_succ, optB_some, mapQ_some, x_mov, h0, if_neg (tm_ng b0 8), if_neg (tm_ng b0 32), if_neg (tm_ng b0 64)]
    show Run T _ _ _ _
    refine Run.seq ?_
    refine Run.seq ?_
    refine Run.rgn ?_
    refine RunO.pre 6 ?_
    simp only [i8r19, List.take_succ_cons, List.take_zero, List.drop_succ_cons, List.drop_zero, exOps_nil, exOps_cons, bindO_some, put_some, ev_t, ev_c, List.getD_cons_zero, List.getD_cons_succ, List.set_cons_zero, List.set_cons_succ, optB_some, mapQ_some, x_bin, binV, intB, x_mov, if_true, if_false, reduceCtorEq, Bool.false_eq_true, Int.reduceBEq, Int.reduceBNe, Int.reduceLT, Int.reduceLE, Int.reduceGT, Int.reduceGE, decide_true, decide_false, beq_self_eq_true, bne_self_eq_false, not_false_eq_true, if_neg_u64, if_neg_one, h0, if_neg (tm_ng b0 8), if_neg (tm_ng b0 32), if_neg (tm_ng b0 64)]
    refine RunO.c (c13 (f16 x0) (IntKind.u64.wrap ((1 : Int) * 2 ^ (min ((f13 (f16 x0) x2).tmod (8 : Int)).toNat IntKind.u64.bits))) _) ?_
    refine RunO.c (c17 (3 : Int) (f16 x0) (f13 (f16 x0) x1) (f13 (f16 x0) (IntKind.u64.wrap ((1 : Int) * 2 ^ (min ((f13 (f16 x0) x2).tmod (8 : Int)).toNat IntKind.u64.bits)))) _) ?_
    refine RunO.pre 2 ?_
    simp only [List.take_succ_cons, List.take_zero, List.drop_succ_cons, List.drop_zero, exOps_nil, exOps_cons, bindO_some, put_some, ev_t, ev_c, List.getD_cons_zero, List.getD_cons_succ, List.set_cons_zero, List.set_cons_succ, optB_some, mapQ_some, x_bin, binV, intB, x_mov, if_true, if_false, reduceCtorEq, Bool.false_eq_true, Int.reduceBEq, Int.reduceBNe, Int.reduceLT, Int.reduceLE, Int.reduceGT, Int.reduceGE, decide_true, decide_false, beq_self_eq_true, bne_self_eq_false, not_false_eq_true, h0, if_neg (tm_ng b0 8), if_neg (tm_ng b0 32), if_neg (tm_ng b0 64)]
    have h1 : ((f17 (9 : Int) (f16 x0) (f13 (f16 x0) x1) (f13 (f16 x0) x2)) != (f17 (3 : Int) (f16 x0) (f13 (f16 x0) x1) (f13 (f16 x0) (IntKind.u64.wrap ((1 : Int) * 2 ^ (min ((f13 (f16 x0) x2).tmod (8 : Int)).toNat IntKind.u64.bits)))))) = false := o0 h0
    refine RunO.pre 4 ?_
    simp only [List.drop_zero, List.take_succ_cons, List.take_zero, List.drop_succ_cons, List.drop_zero, exOps_nil, exOps_cons, bindO_some, put_some, ev_t, ev_c, List.getD_cons_zero, List.getD_cons_succ, List.set_cons_zero, List.set_cons_succ, optB_some, mapQ_some, x_mov, exOp_gt, exOp_gf, exOp_gf2, exOp_gs, h0, h1, if_neg (tm_ng b0 8), if_neg (tm_ng b0 32), if_neg (tm_ng b0 64)]
    refine RunO.cg (by rfl) (c17 (9 : Int) (f16 x0) (f13 (f16 x0) x1) ((f13 (f16 x0) x2).tmod (8 : Int)) _) ?_
    refine RunO.pre 3 ?_
    simp only [List.take_succ_cons, List.take_zero, List.drop_succ_cons, List.drop_zero, exOps_nil, exOps_cons, bindO_some, put_some, ev_t, ev_c, List.getD_cons_zero, List.getD_cons_succ, List.set_cons_zero, List.set_cons_succ, optB_some, mapQ_some, x_bin, binV, intB, x_mov, x_pick, if_true, if_false, Bool.false_eq_true, if_true, if_false, reduceCtorEq, Bool.false_eq_true, Int.reduceBEq, Int.reduceBNe, Int.reduceLT, Int.reduceLE, Int.reduceGT, Int.reduceGE, decide_true, decide_false, beq_self_eq_true, bne_self_eq_false, not_false_eq_true, exOp_gt, exOp_gf, exOp_gf2, exOp_gs, h0, h1, if_neg (tm_ng b0 8), if_neg (tm_ng b0 32), if_neg (tm_ng b0 64)]
    have h2 : ((f17 (9 : Int) (f16 x0) (f13 (f16 x0) x1) (f13 (f16 x0) x2)) != (f17 (9 : Int) (f16 x0) (f13 (f16 x0) x1) ((f13 (f16 x0) x2).tmod (8 : Int)))) = false := o1 h0
    refine RunO.pre 4 ?_
    simp only [List.drop_zero, List.take_succ_cons, List.take_zero, List.drop_succ_cons, List.drop_zero, exOps_nil, exOps_cons, bindO_some, put_some, ev_t, ev_c, List.getD_cons_zero, List.getD_cons_succ, List.set_cons_zero, List.set_cons_succ, optB_some, mapQ_some, x_mov, exOp_gt, exOp_gf, exOp_gf2, exOp_gs, h0, h1, h2, if_neg (tm_ng b0 8), if_neg (tm_ng b0 32), if_neg (tm_ng b0 64)]
    refine RunO.cg (by rfl) (c17 (10 : Int) (f16 x0) (f13 (f16 x0) x1) ((f13 (f16 x0) x2).tmod (8 : Int)) _) ?_
    refine RunO.pre 3 ?_
    simp only [List.take_succ_cons, List.take_zero, List.drop_succ_cons, List.drop_zero, exOps_nil, exOps_cons, bindO_some, put_some, ev_t, ev_c, List.getD_cons_zero, List.getD_cons_succ, List.set_cons_zero, List.set_cons_succ, optB_some, mapQ_some, x_bin, binV, intB, x_mov, x_pick, if_true, if_false, Bool.false_eq_true, if_true, if_false, reduceCtorEq, Bool.false_eq_true, Int.reduceBEq, Int.reduceBNe, Int.reduceLT, Int.reduceLE, Int.reduceGT, Int.reduceGE, decide_true, decide_false, beq_self_eq_true, bne_self_eq_false, not_false_eq_true, exOp_gt, exOp_gf, exOp_gf2, exOp_gs, h0, h1, h2, if_neg (tm_ng b0 8), if_neg (tm_ng b0 32), if_neg (tm_ng b0 64)]
    have h3 : ((f17 (10 : Int) (f16 x0) (f13 (f16 x0) x1) (f13 (f16 x0) x2)) != (f17 (10 : Int) (f16 x0) (f13 (f16 x0) x1) ((f13 (f16 x0) x2).tmod (8 : Int)))) = false := o2 h0
    refine RunO.pre 2 ?_
    simp only [List.drop_zero, List.take_succ_cons, List.take_zero, List.drop_succ_cons, List.drop_zero, exOps_nil, exOps_cons, bindO_some, put_some, ev_t, ev_c, List.getD_cons_zero, List.getD_cons_succ, List.set_cons_zero, List.set_cons_succ, optB_some, mapQ_some, x_mov, exOp_gt, exOp_gf, exOp_gf2, exOp_gs, h0, h1, h2, h3, if_neg (tm_ng b0 8), if_neg (tm_ng b0 32), if_neg (tm_ng b0 64)]
    refine RunO.cg (by rfl) (c11 (f16 x0) (f17 (10 : Int) (f16 x0) (f13 (f16 x0) x1) (f13 (f16 x0) x2)) _) ?_
    refine RunO.all ?_
    simp only [exOps_nil, exOps_cons, bindO_some, put_some, ev_t, ev_c, List.getD_cons_zero, List.getD_cons_succ, List.set_cons_zero, List.set_cons_succ, optB_some, mapQ_some, x_pick, if_true, if_false, Bool.false_eq_true, x_un, unV, intB, exOp_gt, exOp_gf, exOp_gf2, exOp_gs, h0, h1, h2, h3, if_neg (tm_ng b0 8), if_neg (tm_ng b0 32), if_neg (tm_ng b0 64)]
    show Run T _ _ _ _
    have h4 : (!(f11 (f16 x0) (f17 (10 : Int) (f16 x0) (f13 (f16 x0) x1) (f13 (f16 x0) x2)))) = false := o3 h0
    refine Run.ite (by rfl) (fun h => by rw [h4] at h; cases h) (fun _ => ?_)
    refine Run.skip ?_
    show Run T _ _ _ _
    refine Run.seq ?_
    refine Run.seq ?_
    refine Run.rgn ?_
    refine RunO.pre 6 ?_
    simp only [i8r24, List.take_succ_cons, List.take_zero, List.drop_succ_cons, List.drop_zero, exOps_nil, exOps_cons, bindO_some, put_some, ev_t, ev_c, List.getD_cons_zero, List.getD_cons_succ, List.set_cons_zero, List.set_cons_succ, optB_some, mapQ_some, x_bin, binV, intB, x_mov, if_true, if_false, reduceCtorEq, Bool.false_eq_true, Int.reduceBEq, Int.reduceBNe, Int.reduceLT, Int.reduceLE, Int.reduceGT, Int.reduceGE, decide_true, decide_false, beq_self_eq_true, bne_self_eq_false, not_false_eq_true, if_neg_u64, if_neg_one, h0, h1, h2, h3, h4, if_neg (tm_ng b0 8), if_neg (tm_ng b0 32), if_neg (tm_ng b0 64)]
    rcases Bool.eq_false_or_eq_true (decide ((IntKind.u64.wrap ((f17 (10 : Int) (f16 x0) (f13 (f16 x0) x1) (f13 (f16 x0) x2)) * 2 ^ (min ((f13 (f16 x0) x2).tmod (8 : Int)).toNat IntKind.u64.bits))) > (f13 (f16 x0) x1))) with h5 | h5
    · skip
      refine RunO.pre 5 ?_
      simp only [List.drop_zero, List.take_succ_cons, List.take_zero, List.drop_succ_cons, List.drop_zero, exOps_nil, exOps_cons, bindO_some, put_some, ev_t, ev_c, List.getD_cons_zero, List.getD_cons_succ, List.set_cons_zero, List.set_cons_succ, optB_some, mapQ_some, x_bin, binV, intB, x_cvt, x_mov, x_pick, if_true, if_false, Bool.false_eq_true, if_true, if_false, reduceCtorEq, Bool.false_eq_true, Int.reduceBEq, Int.reduceBNe, Int.reduceLT, Int.reduceLE, Int.reduceGT, Int.reduceGE, decide_true, decide_false, beq_self_eq_true, bne_self_eq_false, not_false_eq_true, exOp_gt, exOp_gf, exOp_gf2, exOp_gs, h0, h1, h2, h3, h4, h5, if_neg (tm_ng b0 8), if_neg (tm_ng b0 32), if_neg (tm_ng b0 64)]
      have h6 : (decide ((IntKind.i64.wrap (f13 (f16 x0) x1)) ≥ (0 : Int))) = false := o4 h0 h5
      refine RunO.pre 1 ?_
      simp only [List.drop_zero, List.take_succ_cons, List.take_zero, List.drop_succ_cons, List.drop_zero, exOps_nil, exOps_cons, bindO_some, put_some, ev_t, ev_c, List.getD_cons_zero, List.getD_cons_succ, List.set_cons_zero, List.set_cons_succ, optB_some, mapQ_some, x_mov, exOp_gt, exOp_gf, exOp_gf2, exOp_gs, h0, h1, h2, h3, h4, h5, h6, if_neg (tm_ng b0 8), if_neg (tm_ng b0 32), if_neg (tm_ng b0 64)]
      refine RunO.cg (by rfl) (c27 (f17 (10 : Int) (f16 x0) (f13 (f16 x0) x1) (f13 (f16 x0) x2)) _) ?_
      refine RunO.cg (by rfl) (c32 (f27 (f17 (10 : Int) (f16 x0) (f13 (f16 x0) x1) (f13 (f16 x0) x2))) _) ?_
      refine RunO.pre 1 ?_
      simp only [List.take_succ_cons, List.take_zero, List.drop_succ_cons, List.drop_zero, exOps_nil, exOps_cons, bindO_some, put_some, ev_t, ev_c, List.getD_cons_zero, List.getD_cons_succ, List.set_cons_zero, List.set_cons_succ, optB_some, mapQ_some, x_mov, exOp_gt, exOp_gf, exOp_gf2, exOp_gs, h0, h1, h2, h3, h4, h5, h6, if_neg (tm_ng b0 8), if_neg (tm_ng b0 32), if_neg (tm_ng b0 64)]
      refine RunO.cg (by rfl) (c27 (f13 (f16 x0) x1) _) ?_
      refine RunO.cg (by rfl) (c32 (f27 (f13 (f16 x0) x1)) _) ?_
      refine RunO.all ?_
      simp only [exOps_nil, exOps_cons, bindO_some, put_some, ev_t, ev_c, List.getD_cons_zero, List.getD_cons_succ, List.set_cons_zero, List.set_cons_succ, optB_some, mapQ_some, x_bin, binV, intB, x_pick, if_true, if_false, Bool.false_eq_true, if_true, if_false, reduceCtorEq, Bool.false_eq_true, Int.reduceBEq, Int.reduceBNe, Int.reduceLT, Int.reduceLE, Int.reduceGT, Int.reduceGE, decide_true, decide_false, beq_self_eq_true, bne_self_eq_false, not_false_eq_true, exOp_gt, exOp_gf, exOp_gf2, exOp_gs, h0, h1, h2, h3, h4, h5, h6, if_neg (tm_ng b0 8), if_neg (tm_ng b0 32), if_neg (tm_ng b0 64)]
      show Run T _ _ _ _
      have h7 : (decide ((f32 (f27 (f17 (10 : Int) (f16 x0) (f13 (f16 x0) x1) (f13 (f16 x0) x2)))) > (f32 (f27 (f13 (f16 x0) x1))))) = false := o5 h0 h5
      refine Run.ite (by rfl) (fun h => by rw [h7] at h; cases h) (fun _ => ?_)
      refine Run.skip ?_
      show Run T _ _ _ _
      refine Run.seq ?_
      refine Run.rgn ?_
      refine RunO.all ?_
      simp only [i8r29, exOps_nil, exOps_cons, bindO_some, put_some, ev_t, ev_c, List.getD_cons_zero, List.getD_cons_succ, List.set_cons_zero, List.set_cons_succ, optB_some, mapQ_some, x_bin, binV, intB, x_cvt, x_mov, if_true, if_false, reduceCtorEq, Bool.false_eq_true, Int.reduceBEq, Int.reduceBNe, Int.reduceLT, Int.reduceLE, Int.reduceGT, Int.reduceGE, decide_true, decide_false, beq_self_eq_true, bne_self_eq_false, not_false_eq_true, if_neg_u64, if_neg_one, h0, h1, h2, h3, h4, h5, h6, h7, if_neg (tm_ng b0 8), if_neg (tm_ng b0 32), if_neg (tm_ng b0 64)]
      show Run T _ _ _ _
      refine Run.ret ⟨?_, rfl⟩
      exact congrArg V.bool (o6 h0 h5)
    · skip
      refine RunO.pre 6 ?_
      simp only [List.drop_zero, List.take_succ_cons, List.take_zero, List.drop_succ_cons, List.drop_zero, exOps_nil, exOps_cons, bindO_some, put_some, ev_t, ev_c, List.getD_cons_zero, List.getD_cons_succ, List.set_cons_zero, List.set_cons_succ, optB_some, mapQ_some, x_bin, binV, intB, x_cvt, x_mov, x_pick, if_true, if_false, Bool.false_eq_true, if_true, if_false, reduceCtorEq, Bool.false_eq_true, Int.reduceBEq, Int.reduceBNe, Int.reduceLT, Int.reduceLE, Int.reduceGT, Int.reduceGE, decide_true, decide_false, beq_self_eq_true, bne_self_eq_false, not_false_eq_true, exOp_gt, exOp_gf, exOp_gf2, exOp_gs, h0, h1, h2, h3, h4, h5, if_neg (tm_ng b0 8), if_neg (tm_ng b0 32), if_neg (tm_ng b0 64)]
      refine RunO.cg (by rfl) (c27 (f17 (10 : Int) (f16 x0) (f13 (f16 x0) x1) (f13 (f16 x0) x2)) _) ?_
      refine RunO.cg (by rfl) (c32 (f27 (f17 (10 : Int) (f16 x0) (f13 (f16 x0) x1) (f13 (f16 x0) x2))) _) ?_
      refine RunO.pre 1 ?_
      simp only [List.take_succ_cons, List.take_zero, List.drop_succ_cons, List.drop_zero, exOps_nil, exOps_cons, bindO_some, put_some, ev_t, ev_c, List.getD_cons_zero, List.getD_cons_succ, List.set_cons_zero, List.set_cons_succ, optB_some, mapQ_some, x_mov, exOp_gt, exOp_gf, exOp_gf2, exOp_gs, h0, h1, h2, h3, h4, h5, if_neg (tm_ng b0 8), if_neg (tm_ng b0 32), if_neg (tm_ng b0 64)]
      refine RunO.cg (by rfl) (c27 (f13 (f16 x0) x1) _) ?_
      refine RunO.cg (by rfl) (c32 (f27 (f13 (f16 x0) x1)) _) ?_
      refine RunO.all ?_
      simp only [exOps_nil, exOps_cons, bindO_some, put_some, ev_t, ev_c, List.getD_cons_zero, List.getD_cons_succ, List.set_cons_zero, List.set_cons_succ, optB_some, mapQ_some, x_bin, binV, intB, x_pick, if_true, if_false, Bool.false_eq_true, if_true, if_false, reduceCtorEq, Bool.false_eq_true, Int.reduceBEq, Int.reduceBNe, Int.reduceLT, Int.reduceLE, Int.reduceGT, Int.reduceGE, decide_true, decide_false, beq_self_eq_true, bne_self_eq_false, not_false_eq_true, exOp_gt, exOp_gf, exOp_gf2, exOp_gs, h0, h1, h2, h3, h4, h5, if_neg (tm_ng b0 8), if_neg (tm_ng b0 32), if_neg (tm_ng b0 64)]
      show Run T _ _ _ _
      have h8 : (decide ((f32 (f27 (f17 (10 : Int) (f16 x0) (f13 (f16 x0) x1) (f13 (f16 x0) x2)))) > (f32 (f27 (f13 (f16 x0) x1))))) = false := o7 h0 h5
      refine Run.ite (by rfl) (fun h => by rw [h8] at h; cases h) (fun _ => ?_)
      refine Run.skip ?_
      show Run T _ _ _ _
      refine Run.seq ?_
      refine Run.rgn ?_
      refine RunO.all ?_
      simp only [i8r29, exOps_nil, exOps_cons, bindO_some, put_some, ev_t, ev_c, List.getD_cons_zero, List.getD_cons_succ, List.set_cons_zero, List.set_cons_succ, optB_some, mapQ_some, x_bin, binV, intB, x_cvt, x_mov, if_true, if_false, reduceCtorEq, Bool.false_eq_true, Int.reduceBEq, Int.reduceBNe, Int.reduceLT, Int.reduceLE, Int.reduceGT, Int.reduceGE, decide_true, decide_false, beq_self_eq_true, bne_self_eq_false, not_false_eq_true, if_neg_u64, if_neg_one, h0, h1, h2, h3, h4, h5, h8, if_neg (tm_ng b0 8), if_neg (tm_ng b0 32), if_neg (tm_ng b0 64)]
      show Run T _ _ _ _
      refine Run.ret ⟨?_, rfl⟩
      exact congrArg V.bool (o8 h0 h5)
  · skip
    refine Run.seq ?_
    refine Run.rgn ?_
    refine RunO.all ?_
    simp only [i8r11, exOps_nil, exOps_cons, bindO_some, put_some, ev_t, ev_c, List.getD_cons_zero, List.getD_cons_succ, List.set_cons_zero, List.set_cons_succ, optB_some, mapQ_some, x_bin, binV, intB, x_mov, if_true, if_false, reduceCtorEq, Bool.false_eq_true, Int.reduceBEq, Int.reduceBNe, Int.reduceLT, Int.reduceLE, Int.reduceGT, Int.reduceGE, decide_true, decide_false, beq_self_eq_true, bne_self_eq_false, not_false_eq_true, h0, if_neg (tm_ng b0 8), if_neg (tm_ng b0 32), if_neg (tm_ng b0 64)]
    show Run T _ _ _ _
    refine Run.ite (by rfl) (fun h9 => ?_) (fun h9 => ?_)
    · skip
      refine Run.rgn ?_
      refine RunO.all ?_
      simp only [i8r12, exOps_nil, exOps_cons, bindO_some, put_some, ev_t, ev_c, List.getD_cons_zero, List.getD_cons_succ, List.set_cons_zero, List.set_cons_succ, optB_some, mapQ_some, x_mov, h0, h9, if_neg (tm_ng b0 8), if_neg (tm_ng b0 32), if_neg (tm_ng b0 64)]
      show Run T _ _ _ _
      refine Run.seq ?_
      refine Run.rgn ?_
      refine RunO.all ?_
      simp only [i8r17, exOps_nil, exOps_cons, bindO_some, put_some, ev_t, ev_c, List.getD_cons_zero, List.getD_cons_succ, List.set_cons_zero, List.set_cons_succ, optB_some, mapQ_some, x_bin, binV, intB, x_mov, if_true, if_false, reduceCtorEq, Bool.false_eq_true, Int.reduceBEq, Int.reduceBNe, Int.reduceLT, Int.reduceLE, Int.reduceGT, Int.reduceGE, decide_true, decide_false, beq_self_eq_true, bne_self_eq_false, not_false_eq_true, h0, h9, if_neg (show ¬ ((32 : Int) = 0) by decide), if_neg (tm_ng b0 8), if_neg (tm_ng b0 32), if_neg (tm_ng b0 64)]
      show Run T _ _ _ _
      refine Run.seq ?_
      refine Run.rgn ?_
      refine RunO.pre 3 ?_
      simp only [i8r18, List.take_succ_cons, List.take_zero, List.drop_succ_cons, List.drop_zero, exOps_nil, exOps_cons, bindO_some, put_some, ev_t, ev_c, List.getD_cons_zero, List.getD_cons_succ, List.set_cons_zero, List.set_cons_succ, optB_some, mapQ_some, x_mov, h0, h9, if_neg (tm_ng b0 8), if_neg (tm_ng b0 32), if_neg (tm_ng b0 64)]
      refine RunO.c (c17 (9 : Int) (f16 x0) (f13 (f16 x0) x1) (f13 (f16 x0) x2) _) ?_
      refine RunO.pre 3 ?_
      simp only [List.take_succ_cons, List.take_zero, List.drop_succ_cons, List.drop_zero, exOps_nil, exOps_cons, bindO_some, put_some, ev_t, ev_c, List.getD_cons_zero, List.getD_cons_succ, List.set_cons_zero, List.set_cons_succ, optB_some, mapQ_some, x_mov, h0, h9, if_neg (tm_ng b0 8), if_neg (tm_ng b0 32), if_neg (tm_ng b0 64)]
      refine RunO.c (c17 (10 : Int) (f16 x0) (f13 (f16 x0) x1) (f13 (f16 x0) x2) _) ?_
      refine RunO.all ?_
      simp only [exOps_nil, exOps_cons, bindO_some, put_some, ev_t, ev_c, List.getD_cons_zero, List.getD_cons_succ, List.set_cons_zero, List.set_cons_succ, optB_some, mapQ_some, x_mov, h0, h9, if_neg (tm_ng b0 8), if_neg (tm_ng b0 32), if_neg (tm_ng b0 64)]
      show Run T _ _ _ _
      refine Run.seq ?_
      refine Run.seq ?_
      refine Run.rgn ?_
      refine RunO.pre 6 ?_
      simp only [i8r19, List.take_succ_cons, List.take_zero, List.drop_succ_cons, List.drop_zero, exOps_nil, exOps_cons, bindO_some, put_some, ev_t, ev_c, List.getD_cons_zero, List.getD_cons_succ, List.set_cons_zero, List.set_cons_succ, optB_some, mapQ_some, x_bin, binV, intB, x_mov, if_true, if_false, reduceCtorEq, Bool.false_eq_true, Int.reduceBEq, Int.reduceBNe, Int.reduceLT, Int.reduceLE, Int.reduceGT, Int.reduceGE, decide_true, decide_false, beq_self_eq_true, bne_self_eq_false, not_false_eq_true, if_neg_u64, if_neg_one, h0, h9, if_neg (tm_ng b0 8), if_neg (tm_ng b0 32), if_neg (tm_ng b0 64)]
      refine RunO.c (c13 (f16 x0) (IntKind.u64.wrap ((1 : Int) * 2 ^ (min ((f13 (f16 x0) x2).tmod (32 : Int)).toNat IntKind.u64.bits))) _) ?_
      refine RunO.c (c17 (3 : Int) (f16 x0) (f13 (f16 x0) x1) (f13 (f16 x0) (IntKind.u64.wrap ((1 : Int) * 2 ^ (min ((f13 (f16 x0) x2).tmod (32 : Int)).toNat IntKind.u64.bits)))) _) ?_
      refine RunO.pre 2 ?_
      simp only [List.take_succ_cons, List.take_zero, List.drop_succ_cons, List.drop_zero, exOps_nil, exOps_cons, bindO_some, put_some, ev_t, ev_c, List.getD_cons_zero, List.getD_cons_succ, List.set_cons_zero, List.set_cons_succ, optB_some, mapQ_some, x_bin, binV, intB, x_mov, if_true, if_false, reduceCtorEq, Bool.false_eq_true, Int.reduceBEq, Int.reduceBNe, Int.reduceLT, Int.reduceLE, Int.reduceGT, Int.reduceGE, decide_true, decide_false, beq_self_eq_true, bne_self_eq_false, not_false_eq_true, h0, h9, if_neg (tm_ng b0 8), if_neg (tm_ng b0 32), if_neg (tm_ng b0 64)]
      have h10 : ((f17 (9 : Int) (f16 x0) (f13 (f16 x0) x1) (f13 (f16 x0) x2)) != (f17 (3 : Int) (f16 x0) (f13 (f16 x0) x1) (f13 (f16 x0) (IntKind.u64.wrap ((1 : Int) * 2 ^ (min ((f13 (f16 x0) x2).tmod (32 : Int)).toNat IntKind.u64.bits)))))) = false := o9 h0 h9
      refine RunO.pre 4 ?_
      simp only [List.drop_zero, List.take_succ_cons, List.take_zero, List.drop_succ_cons, List.drop_zero, exOps_nil, exOps_cons, bindO_some, put_some, ev_t, ev_c, List.getD_cons_zero, List.getD_cons_succ, List.set_cons_zero, List.set_cons_succ, optB_some, mapQ_some, x_mov, exOp_gt, exOp_gf, exOp_gf2, exOp_gs, h0, h9, h10, if_neg (tm_ng b0 8), if_neg (tm_ng b0 32), if_neg (tm_ng b0 64)]
      refine RunO.cg (by rfl) (c17 (9 : Int) (f16 x0) (f13 (f16 x0) x1) ((f13 (f16 x0) x2).tmod (32 : Int)) _) ?_
      refine RunO.pre 3 ?_
      simp only [List.take_succ_cons, List.take_zero, List.drop_succ_cons, List.drop_zero, exOps_nil, exOps_cons, bindO_some, put_some, ev_t, ev_c, List.getD_cons_zero, List.getD_cons_succ, List.set_cons_zero, List.set_cons_succ, optB_some, mapQ_some, x_bin, binV, intB, x_mov, x_pick, if_true, if_false, Bool.false_eq_true, if_true, if_false, reduceCtorEq, Bool.false_eq_true, Int.reduceBEq, Int.reduceBNe, Int.reduceLT, Int.reduceLE, Int.reduceGT, Int.reduceGE, decide_true, decide_false, beq_self_eq_true, bne_self_eq_false, not_false_eq_true, exOp_gt, exOp_gf, exOp_gf2, exOp_gs, h0, h9, h10, if_neg (tm_ng b0 8), if_neg (tm_ng b0 32), if_neg (tm_ng b0 64)]
      have h11 : ((f17 (9 : Int) (f16 x0) (f13 (f16 x0) x1) (f13 (f16 x0) x2)) != (f17 (9 : Int) (f16 x0) (f13 (f16 x0) x1) ((f13 (f16 x0) x2).tmod (32 : Int)))) = false := o10 h0 h9
      refine RunO.pre 4 ?_
      simp only [List.drop_zero, List.take_succ_cons, List.take_zero, List.drop_succ_cons, List.drop_zero, exOps_nil, exOps_cons, bindO_some, put_some, ev_t, ev_c, List.getD_cons_zero, List.getD_cons_succ, List.set_cons_zero, List.set_cons_succ, optB_some, mapQ_some, x_mov, exOp_gt, exOp_gf, exOp_gf2, exOp_gs, h0, h9, h10, h11, if_neg (tm_ng b0 8), if_neg (tm_ng b0 32), if_neg (tm_ng b0 64)]
      refine RunO.cg (by rfl) (c17 (10 : Int) (f16 x0) (f13 (f16 x0) x1) ((f13 (f16 x0) x2).tmod (32 : Int)) _) ?_
      refine RunO.pre 3 ?_
      simp only [List.take_succ_cons, List.take_zero, List.drop_succ_cons, List.drop_zero, exOps_nil, exOps_cons, bindO_some, put_some, ev_t, ev_c, List.getD_cons_zero, List.getD_cons_succ, List.set_cons_zero, List.set_cons_succ, optB_some, mapQ_some, x_bin, binV, intB, x_mov, x_pick, if_true, if_false, Bool.false_eq_true, if_true, if_false, reduceCtorEq, Bool.false_eq_true, Int.reduceBEq, Int.reduceBNe, Int.reduceLT, Int.reduceLE, Int.reduceGT, Int.reduceGE, decide_true, decide_false, beq_self_eq_true, bne_self_eq_false, not_false_eq_true, exOp_gt, exOp_gf, exOp_gf2, exOp_gs, h0, h9, h10, h11, if_neg (tm_ng b0 8), if_neg (tm_ng b0 32), if_neg (tm_ng b0 64)]
      have h12 : ((f17 (10 : Int) (f16 x0) (f13 (f16 x0) x1) (f13 (f16 x0) x2)) != (f17 (10 : Int) (f16 x0) (f13 (f16 x0) x1) ((f13 (f16 x0) x2).tmod (32 : Int)))) = false := o11 h0 h9
      refine RunO.pre 2 ?_
      simp only [List.drop_zero, List.take_succ_cons, List.take_zero, List.drop_succ_cons, List.drop_zero, exOps_nil, exOps_cons, bindO_some, put_some, ev_t, ev_c, List.getD_cons_zero, List.getD_cons_succ, List.set_cons_zero, List.set_cons_succ, optB_some, mapQ_some, x_mov, exOp_gt, exOp_gf, exOp_gf2, exOp_gs, h0, h9, h10, h11, h12, if_neg (tm_ng b0 8), if_neg (tm_ng b0 32), if_neg (tm_ng b0 64)]
      refine RunO.cg (by rfl) (c11 (f16 x0) (f17 (10 : Int) (f16 x0) (f13 (f16 x0) x1) (f13 (f16 x0) x2)) _) ?_
      refine RunO.all ?_
      simp only [exOps_nil, exOps_cons, bindO_some, put_some, ev_t, ev_c, List.getD_cons_zero, List.getD_cons_succ, List.set_cons_zero, List.set_cons_succ, optB_some, mapQ_some, x_pick, if_true, if_false, Bool.false_eq_true, x_un, unV, intB, exOp_gt, exOp_gf, exOp_gf2, exOp_gs, h0, h9, h10, h11, h12, if_neg (tm_ng b0 8), if_neg (tm_ng b0 32), if_neg (tm_ng b0 64)]
      show Run T _ _ _ _
      have h13 : (!(f11 (f16 x0) (f17 (10 : Int) (f16 x0) (f13 (f16 x0) x1) (f13 (f16 x0) x2)))) = false := o12 h0 h9
      refine Run.ite (by rfl) (fun h => by rw [h13] at h; cases h) (fun _ => ?_)
      refine Run.skip ?_
      show Run T _ _ _ _
      refine Run.seq ?_
      refine Run.seq ?_
      refine Run.rgn ?_
      refine RunO.pre 6 ?_
      simp only [i8r24, List.take_succ_cons, List.take_zero, List.drop_succ_cons, List.drop_zero, exOps_nil, exOps_cons, bindO_some, put_some, ev_t, ev_c, List.getD_cons_zero, List.getD_cons_succ, List.set_cons_zero, List.set_cons_succ, optB_some, mapQ_some, x_bin, binV, intB, x_mov, if_true, if_false, reduceCtorEq, Bool.false_eq_true, Int.reduceBEq, Int.reduceBNe, Int.reduceLT, Int.reduceLE, Int.reduceGT, Int.reduceGE, decide_true, decide_false, beq_self_eq_true, bne_self_eq_false, not_false_eq_true, if_neg_u64, if_neg_one, h0, h9, h10, h11, h12, h13, if_neg (tm_ng b0 8), if_neg (tm_ng b0 32), if_neg (tm_ng b0 64)]
      rcases Bool.eq_false_or_eq_true (decide ((IntKind.u64.wrap ((f17 (10 : Int) (f16 x0) (f13 (f16 x0) x1) (f13 (f16 x0) x2)) * 2 ^ (min ((f13 (f16 x0) x2).tmod (32 : Int)).toNat IntKind.u64.bits))) > (f13 (f16 x0) x1))) with h14 | h14
      · skip
        refine RunO.pre 5 ?_
        simp only [List.drop_zero, List.take_succ_cons, List.take_zero, List.drop_succ_cons, List.drop_zero, exOps_nil, exOps_cons, bindO_some, put_some, ev_t, ev_c, List.getD_cons_zero, List.getD_cons_succ, List.set_cons_zero, List.set_cons_succ, optB_some, mapQ_some, x_bin, binV, intB, x_cvt, x_mov, x_pick, if_true, if_false, Bool.false_eq_true, if_true, if_false, reduceCtorEq, Bool.false_eq_true, Int.reduceBEq, Int.reduceBNe, Int.reduceLT, Int.reduceLE, Int.reduceGT, Int.reduceGE, decide_true, decide_false, beq_self_eq_true, bne_self_eq_false, not_false_eq_true, exOp_gt, exOp_gf, exOp_gf2, exOp_gs, h0, h9, h10, h11, h12, h13, h14, if_neg (tm_ng b0 8), if_neg (tm_ng b0 32), if_neg (tm_ng b0 64)]
        have h15 : (decide ((IntKind.i64.wrap (f13 (f16 x0) x1)) ≥ (0 : Int))) = false := o13 h0 h9 h14
        refine RunO.pre 1 ?_
        simp only [List.drop_zero, List.take_succ_cons, List.take_zero, List.drop_succ_cons, List.drop_zero, exOps_nil, exOps_cons, bindO_some, put_some, ev_t, ev_c, List.getD_cons_zero, List.getD_cons_succ, List.set_cons_zero, List.set_cons_succ, optB_some, mapQ_some, x_mov, exOp_gt, exOp_gf, exOp_gf2, exOp_gs, h0, h9, h10, h11, h12, h13, h14, h15, if_neg (tm_ng b0 8), if_neg (tm_ng b0 32), if_neg (tm_ng b0 64)]
        refine RunO.cg (by rfl) (c27 (f17 (10 : Int) (f16 x0) (f13 (f16 x0) x1) (f13 (f16 x0) x2)) _) ?_
        refine RunO.cg (by rfl) (c32 (f27 (f17 (10 : Int) (f16 x0) (f13 (f16 x0) x1) (f13 (f16 x0) x2))) _) ?_
        refine RunO.pre 1 ?_
        simp only [List.take_succ_cons, List.take_zero, List.drop_succ_cons, List.drop_zero, exOps_nil, exOps_cons, bindO_some, put_some, ev_t, ev_c, List.getD_cons_zero, List.getD_cons_succ, List.set_cons_zero, List.set_cons_succ, optB_some, mapQ_some, x_mov, exOp_gt, exOp_gf, exOp_gf2, exOp_gs, h0, h9, h10, h11, h12, h13, h14, h15, if_neg (tm_ng b0 8), if_neg (tm_ng b0 32), if_neg (tm_ng b0 64)]
        refine RunO.cg (by rfl) (c27 (f13 (f16 x0) x1) _) ?_
        refine RunO.cg (by rfl) (c32 (f27 (f13 (f16 x0) x1)) _) ?_
        refine RunO.all ?_
        simp only [exOps_nil, exOps_cons, bindO_some, put_some, ev_t, ev_c, List.getD_cons_zero, List.getD_cons_succ, List.set_cons_zero, List.set_cons_succ, optB_some, mapQ_some, x_bin, binV, intB, x_pick, if_true, if_false, Bool.false_eq_true, if_true, if_false, reduceCtorEq, Bool.false_eq_true, Int.reduceBEq, Int.reduceBNe, Int.reduceLT, Int.reduceLE, Int.reduceGT, Int.reduceGE, decide_true, decide_false, beq_self_eq_true, bne_self_eq_false, not_false_eq_true, exOp_gt, exOp_gf, exOp_gf2, exOp_gs, h0, h9, h10, h11, h12, h13, h14, h15, if_neg (tm_ng b0 8), if_neg (tm_ng b0 32), if_neg (tm_ng b0 64)]
        show Run T _ _ _ _
        have h16 : (decide ((f32 (f27 (f17 (10 : Int) (f16 x0) (f13 (f16 x0) x1) (f13 (f16 x0) x2)))) > (f32 (f27 (f13 (f16 x0) x1))))) = false := o14 h0 h9 h14
        refine Run.ite (by rfl) (fun h => by rw [h16] at h; cases h) (fun _ => ?_)
        refine Run.skip ?_
        show Run T _ _ _ _
        refine Run.seq ?_
        refine Run.rgn ?_
        refine RunO.all ?_
        simp only [i8r29, exOps_nil, exOps_cons, bindO_some, put_some, ev_t, ev_c, List.getD_cons_zero, List.getD_cons_succ, List.set_cons_zero, List.set_cons_succ, optB_some, mapQ_some, x_bin, binV, intB, x_cvt, x_mov, if_true, if_false, reduceCtorEq, Bool.false_eq_true, Int.reduceBEq, Int.reduceBNe, Int.reduceLT, Int.reduceLE, Int.reduceGT, Int.reduceGE, decide_true, decide_false, beq_self_eq_true, bne_self_eq_false, not_false_eq_true, if_neg_u64, if_neg_one, h0, h9, h10, h11, h12, h13, h14, h15, h16, if_neg (tm_ng b0 8), if_neg (tm_ng b0 32), if_neg (tm_ng b0 64)]
        show Run T _ _ _ _
        refine Run.ret ⟨?_, rfl⟩
        exact congrArg V.bool (o15 h0 h9 h14)
      · skip
        refine RunO.pre 6 ?_
        simp only [List.drop_zero, List.take_succ_cons, List.take_zero, List.drop_succ_cons, List.drop_zero, exOps_nil, exOps_cons, bindO_some, put_some, ev_t, ev_c, List.getD_cons_zero, List.getD_cons_succ, List.set_cons_zero, List.set_cons_succ, optB_some, mapQ_some, x_bin, binV, intB, x_cvt, x_mov, x_pick, if_true, if_false, Bool.false_eq_true, if_true, if_false, reduceCtorEq, Bool.false_eq_true, Int.reduceBEq, Int.reduceBNe, Int.reduceLT, Int.reduceLE, Int.reduceGT, Int.reduceGE, decide_true, decide_false, beq_self_eq_true, bne_self_eq_false, not_false_eq_true, exOp_gt, exOp_gf, exOp_gf2, exOp_gs, h0, h9, h10, h11, h12, h13, h14, if_neg (tm_ng b0 8), if_neg (tm_ng b0 32), if_neg (tm_ng b0 64)]
        refine RunO.cg (by rfl) (c27 (f17 (10 : Int) (f16 x0) (f13 (f16 x0) x1) (f13 (f16 x0) x2)) _) ?_
        refine RunO.cg (by rfl) (c32 (f27 (f17 (10 : Int) (f16 x0) (f13 (f16 x0) x1) (f13 (f16 x0) x2))) _) ?_
        refine RunO.pre 1 ?_
        simp only [List.take_succ_cons, List.take_zero, List.drop_succ_cons, List.drop_zero, exOps_nil, exOps_cons, bindO_some, put_some, ev_t, ev_c, List.getD_cons_zero, List.getD_cons_succ, List.set_cons_zero, List.set_cons_succ, optB_some, mapQ_some, x_mov, exOp_gt, exOp_gf, exOp_gf2, exOp_gs, h0, h9, h10, h11, h12, h13, h14, if_neg (tm_ng b0 8), if_neg (tm_ng b0 32), if_neg (tm_ng b0 64)]
        refine RunO.cg (by rfl) (c27 (f13 (f16 x0) x1) _) ?_
        refine RunO.cg (by rfl) (c32 (f27 (f13 (f16 x0) x1)) _) ?_
        refine RunO.all ?_
        simp only [exOps_nil, exOps_cons, bindO_some, put_some, ev_t, ev_c, List.getD_cons_zero, List.getD_cons_succ, List.set_cons_zero, List.set_cons_succ, optB_some, mapQ_some, x_bin, binV, intB, x_pick, if_true, if_false, Bool.false_eq_true, if_true, if_false, reduceCtorEq, Bool.false_eq_true, Int.reduceBEq, Int.reduceBNe, Int.reduceLT, Int.reduceLE, Int.reduceGT, Int.reduceGE, decide_true, decide_false, beq_self_eq_true, bne_self_eq_false, not_false_eq_true, exOp_gt, exOp_gf, exOp_gf2, exOp_gs, h0, h9, h10, h11, h12, h13, h14, if_neg (tm_ng b0 8), if_neg (tm_ng b0 32), if_neg (tm_ng b0 64)]
        show Run T _ _ _ _
        have h17 : (decide ((f32 (f27 (f17 (10 : Int) (f16 x0) (f13 (f16 x0) x1) (f13 (f16 x0) x2)))) > (f32 (f27 (f13 (f16 x0) x1))))) = false := o16 h0 h9 h14
        refine Run.ite (by rfl) (fun h => by rw [h17] at h; cases h) (fun _ => ?_)
        refine Run.skip ?_
        show Run T _ _ _ _
        refine Run.seq ?_
        refine Run.rgn ?_
        refine RunO.all ?_
        simp only [i8r29, exOps_nil, exOps_cons, bindO_some, put_some, ev_t, ev_c, List.getD_cons_zero, List.getD_cons_succ, List.set_cons_zero, List.set_cons_succ, optB_some, mapQ_some, x_bin, binV, intB, x_cvt, x_mov, if_true, if_false, reduceCtorEq, Bool.false_eq_true, Int.reduceBEq, Int.reduceBNe, Int.reduceLT, Int.reduceLE, Int.reduceGT, Int.reduceGE, decide_true, decide_false, beq_self_eq_true, bne_self_eq_false, not_false_eq_true, if_neg_u64, if_neg_one, h0, h9, h10, h11, h12, h13, h14, h17, if_neg (tm_ng b0 8), if_neg (tm_ng b0 32), if_neg (tm_ng b0 64)]
        show Run T _ _ _ _
        refine Run.ret ⟨?_, rfl⟩
        exact congrArg V.bool (o17 h0 h9 h14)
    · skip
      refine Run.skip ?_
      show Run T _ _ _ _
      refine Run.seq ?_
      refine Run.rgn ?_
      refine RunO.all ?_
      simp only [i8r17, exOps_nil, exOps_cons, bindO_some, put_some, ev_t, ev_c, List.getD_cons_zero, List.getD_cons_succ, List.set_cons_zero, List.set_cons_succ, optB_some, mapQ_some, x_bin, binV, intB, x_mov, if_true, if_false, reduceCtorEq, Bool.false_eq_true, Int.reduceBEq, Int.reduceBNe, Int.reduceLT, Int.reduceLE, Int.reduceGT, Int.reduceGE, decide_true, decide_false, beq_self_eq_true, bne_self_eq_false, not_false_eq_true, h0, h9, if_neg (show ¬ ((64 : Int) = 0) by decide), if_neg (tm_ng b0 8), if_neg (tm_ng b0 32), if_neg (tm_ng b0 64)]
      show Run T _ _ _ _
      refine Run.seq ?_
      refine Run.rgn ?_
      refine RunO.pre 3 ?_
      simp only [i8r18, List.take_succ_cons, List.take_zero, List.drop_succ_cons, List.drop_zero, exOps_nil, exOps_cons, bindO_some, put_some, ev_t, ev_c, List.getD_cons_zero, List.getD_cons_succ, List.set_cons_zero, List.set_cons_succ, optB_some, mapQ_some, x_mov, h0, h9, if_neg (tm_ng b0 8), if_neg (tm_ng b0 32), if_neg (tm_ng b0 64)]
      refine RunO.c (c17 (9 : Int) (f16 x0) (f13 (f16 x0) x1) (f13 (f16 x0) x2) _) ?_
      refine RunO.pre 3 ?_
      simp only [List.take_succ_cons, List.take_zero, List.drop_succ_cons, List.drop_zero, exOps_nil, exOps_cons, bindO_some, put_some, ev_t, ev_c, List.getD_cons_zero, List.getD_cons_succ, List.set_cons_zero, List.set_cons_succ, optB_some, mapQ_some, x_mov, h0, h9, if_neg (tm_ng b0 8), if_neg (tm_ng b0 32), if_neg (tm_ng b0 64)]
      refine RunO.c (c17 (10 : Int) (f16 x0) (f13 (f16 x0) x1) (f13 (f16 x0) x2) _) ?_
      refine RunO.all ?_
      simp only [exOps_nil, exOps_cons, bindO_some, put_some, ev_t, ev_c, List.getD_cons_zero, List.getD_cons_succ, List.set_cons_zero, List.set_cons_succ, optB_some, mapQ_some, x_mov, h0, h9, if_neg (tm_ng b0 8), if_neg (tm_ng b0 32), if_neg (tm_ng b0 64)]
      show Run T _ _ _ _
      refine Run.seq ?_
      refine Run.seq ?_
      refine Run.rgn ?_
      refine RunO.pre 6 ?_
      simp only [i8r19, List.take_succ_cons, List.take_zero, List.drop_succ_cons, List.drop_zero, exOps_nil, exOps_cons, bindO_some, put_some, ev_t, ev_c, List.getD_cons_zero, List.getD_cons_succ, List.set_cons_zero, List.set_cons_succ, optB_some, mapQ_some, x_bin, binV, intB, x_mov, if_true, if_false, reduceCtorEq, Bool.false_eq_true, Int.reduceBEq, Int.reduceBNe, Int.reduceLT, Int.reduceLE, Int.reduceGT, Int.reduceGE, decide_true, decide_false, beq_self_eq_true, bne_self_eq_false, not_false_eq_true, if_neg_u64, if_neg_one, h0, h9, if_neg (tm_ng b0 8), if_neg (tm_ng b0 32), if_neg (tm_ng b0 64)]
      refine RunO.c (c13 (f16 x0) (IntKind.u64.wrap ((1 : Int) * 2 ^ (min ((f13 (f16 x0) x2).tmod (64 : Int)).toNat IntKind.u64.bits))) _) ?_
      refine RunO.c (c17 (3 : Int) (f16 x0) (f13 (f16 x0) x1) (f13 (f16 x0) (IntKind.u64.wrap ((1 : Int) * 2 ^ (min ((f13 (f16 x0) x2).tmod (64 : Int)).toNat IntKind.u64.bits)))) _) ?_
      refine RunO.pre 2 ?_
      simp only [List.take_succ_cons, List.take_zero, List.drop_succ_cons, List.drop_zero, exOps_nil, exOps_cons, bindO_some, put_some, ev_t, ev_c, List.getD_cons_zero, List.getD_cons_succ, List.set_cons_zero, List.set_cons_succ, optB_some, mapQ_some, x_bin, binV, intB, x_mov, if_true, if_false, reduceCtorEq, Bool.false_eq_true, Int.reduceBEq, Int.reduceBNe, Int.reduceLT, Int.reduceLE, Int.reduceGT, Int.reduceGE, decide_true, decide_false, beq_self_eq_true, bne_self_eq_false, not_false_eq_true, h0, h9, if_neg (tm_ng b0 8), if_neg (tm_ng b0 32), if_neg (tm_ng b0 64)]
      have h18 : ((f17 (9 : Int) (f16 x0) (f13 (f16 x0) x1) (f13 (f16 x0) x2)) != (f17 (3 : Int) (f16 x0) (f13 (f16 x0) x1) (f13 (f16 x0) (IntKind.u64.wrap ((1 : Int) * 2 ^ (min ((f13 (f16 x0) x2).tmod (64 : Int)).toNat IntKind.u64.bits)))))) = false := o18 h0 h9
      refine RunO.pre 4 ?_
      simp only [List.drop_zero, List.take_succ_cons, List.take_zero, List.drop_succ_cons, List.drop_zero, exOps_nil, exOps_cons, bindO_some, put_some, ev_t, ev_c, List.getD_cons_zero, List.getD_cons_succ, List.set_cons_zero, List.set_cons_succ, optB_some, mapQ_some, x_mov, exOp_gt, exOp_gf, exOp_gf2, exOp_gs, h0, h9, h18, if_neg (tm_ng b0 8), if_neg (tm_ng b0 32), if_neg (tm_ng b0 64)]
      refine RunO.cg (by rfl) (c17 (9 : Int) (f16 x0) (f13 (f16 x0) x1) ((f13 (f16 x0) x2).tmod (64 : Int)) _) ?_
      refine RunO.pre 3 ?_
      simp only [List.take_succ_cons, List.take_zero, List.drop_succ_cons, List.drop_zero, exOps_nil, exOps_cons, bindO_some, put_some, ev_t, ev_c, List.getD_cons_zero, List.getD_cons_succ, List.set_cons_zero, List.set_cons_succ, optB_some, mapQ_some, x_bin, binV, intB, x_mov, x_pick, if_true, if_false, Bool.false_eq_true, if_true, if_false, reduceCtorEq, Bool.false_eq_true, Int.reduceBEq, Int.reduceBNe, Int.reduceLT, Int.reduceLE, Int.reduceGT, Int.reduceGE, decide_true, decide_false, beq_self_eq_true, bne_self_eq_false, not_false_eq_true, exOp_gt, exOp_gf, exOp_gf2, exOp_gs, h0, h9, h18, if_neg (tm_ng b0 8), if_neg (tm_ng b0 32), if_neg (tm_ng b0 64)]
      have h19 : ((f17 (9 : Int) (f16 x0) (f13 (f16 x0) x1) (f13 (f16 x0) x2)) != (f17 (9 : Int) (f16 x0) (f13 (f16 x0) x1) ((f13 (f16 x0) x2).tmod (64 : Int)))) = false := o19 h0 h9
      refine RunO.pre 4 ?_
      simp only [List.drop_zero, List.take_succ_cons, List.take_zero, List.drop_succ_cons, List.drop_zero, exOps_nil, exOps_cons, bindO_some, put_some, ev_t, ev_c, List.getD_cons_zero, List.getD_cons_succ, List.set_cons_zero, List.set_cons_succ, optB_some, mapQ_some, x_mov, exOp_gt, exOp_gf, exOp_gf2, exOp_gs, h0, h9, h18, h19, if_neg (tm_ng b0 8), if_neg (tm_ng b0 32), if_neg (tm_ng b0 64)]
      refine RunO.cg (by rfl) (c17 (10 : Int) (f16 x0) (f13 (f16 x0) x1) ((f13 (f16 x0) x2).tmod (64 : Int)) _) ?_
      refine RunO.pre 3 ?_
      simp only [List.take_succ_cons, List.take_zero, List.drop_succ_cons, List.drop_zero, exOps_nil, exOps_cons, bindO_some, put_some, ev_t, ev_c, List.getD_cons_zero, List.getD_cons_succ, List.set_cons_zero, List.set_cons_succ, optB_some, mapQ_some, x_bin, binV, intB, x_mov, x_pick, if_true, if_false, Bool.false_eq_true, if_true, if_false, reduceCtorEq, Bool.false_eq_true, Int.reduceBEq, Int.reduceBNe, Int.reduceLT, Int.reduceLE, Int.reduceGT, Int.reduceGE, decide_true, decide_false, beq_self_eq_true, bne_self_eq_false, not_false_eq_true, exOp_gt, exOp_gf, exOp_gf2, exOp_gs, h0, h9, h18, h19, if_neg (tm_ng b0 8), if_neg (tm_ng b0 32), if_neg (tm_ng b0 64)]
      have h20 : ((f17 (10 : Int) (f16 x0) (f13 (f16 x0) x1) (f13 (f16 x0) x2)) != (f17 (10 : Int) (f16 x0) (f13 (f16 x0) x1) ((f13 (f16 x0) x2).tmod (64 : Int)))) = false := o20 h0 h9
      refine RunO.pre 2 ?_
      simp only [List.drop_zero, List.take_succ_cons, List.take_zero, List.drop_succ_cons, List.drop_zero, exOps_nil, exOps_cons, bindO_some, put_some, ev_t, ev_c, List.getD_cons_zero, List.getD_cons_succ, List.set_cons_zero, List.set_cons_succ, optB_some, mapQ_some, x_mov, exOp_gt, exOp_gf, exOp_gf2, exOp_gs, h0, h9, h18, h19, h20, if_neg (tm_ng b0 8), if_neg (tm_ng b0 32), if_neg (tm_ng b0 64)]
      refine RunO.cg (by rfl) (c11 (f16 x0) (f17 (10 : Int) (f16 x0) (f13 (f16 x0) x1) (f13 (f16 x0) x2)) _) ?_
      refine RunO.all ?_
      simp only [exOps_nil, exOps_cons, bindO_some, put_some, ev_t, ev_c, List.getD_cons_zero, List.getD_cons_succ, List.set_cons_zero, List.set_cons_succ, optB_some, mapQ_some, x_pick, if_true, if_false, Bool.false_eq_true, x_un, unV, intB, exOp_gt, exOp_gf, exOp_gf2, exOp_gs, h0, h9, h18, h19, h20, if_neg (tm_ng b0 8), if_neg (tm_ng b0 32), if_neg (tm_ng b0 64)]
      show Run T _ _ _ _
      have h21 : (!(f11 (f16 x0) (f17 (10 : Int) (f16 x0) (f13 (f16 x0) x1) (f13 (f16 x0) x2)))) = false := o21 h0 h9
      refine Run.ite (by rfl) (fun h => by rw [h21] at h; cases h) (fun _ => ?_)
      refine Run.skip ?_
      show Run T _ _ _ _
      refine Run.seq ?_
      refine Run.seq ?_
      refine Run.rgn ?_
      refine RunO.pre 6 ?_
      simp only [i8r24, List.take_succ_cons, List.take_zero, List.drop_succ_cons, List.drop_zero, exOps_nil, exOps_cons, bindO_some, put_some, ev_t, ev_c, List.getD_cons_zero, List.getD_cons_succ, List.set_cons_zero, List.set_cons_succ, optB_some, mapQ_some, x_bin, binV, intB, x_mov, if_true, if_false, reduceCtorEq, Bool.false_eq_true, Int.reduceBEq, Int.reduceBNe, Int.reduceLT, Int.reduceLE, Int.reduceGT, Int.reduceGE, decide_true, decide_false, beq_self_eq_true, bne_self_eq_false, not_false_eq_true, if_neg_u64, if_neg_one, h0, h9, h18, h19, h20, h21, if_neg (tm_ng b0 8), if_neg (tm_ng b0 32), if_neg (tm_ng b0 64)]
      rcases Bool.eq_false_or_eq_true (decide ((IntKind.u64.wrap ((f17 (10 : Int) (f16 x0) (f13 (f16 x0) x1) (f13 (f16 x0) x2)) * 2 ^ (min ((f13 (f16 x0) x2).tmod (64 : Int)).toNat IntKind.u64.bits))) > (f13 (f16 x0) x1))) with h22 | h22
      · skip
        refine RunO.pre 5 ?_
        simp only [List.drop_zero, List.take_succ_cons, List.take_zero, List.drop_succ_cons, List.drop_zero, exOps_nil, exOps_cons, bindO_some, put_some, ev_t, ev_c, List.getD_cons_zero, List.getD_cons_succ, List.set_cons_zero, List.set_cons_succ, optB_some, mapQ_some, x_bin, binV, intB, x_cvt, x_mov, x_pick, if_true, if_false, Bool.false_eq_true, if_true, if_false, reduceCtorEq, Bool.false_eq_true, Int.reduceBEq, Int.reduceBNe, Int.reduceLT, Int.reduceLE, Int.reduceGT, Int.reduceGE, decide_true, decide_false, beq_self_eq_true, bne_self_eq_false, not_false_eq_true, exOp_gt, exOp_gf, exOp_gf2, exOp_gs, h0, h9, h18, h19, h20, h21, h22, if_neg (tm_ng b0 8), if_neg (tm_ng b0 32), if_neg (tm_ng b0 64)]
        have h23 : (decide ((IntKind.i64.wrap (f13 (f16 x0) x1)) ≥ (0 : Int))) = false := o22 h0 h9 h22
        refine RunO.pre 1 ?_
        simp only [List.drop_zero, List.take_succ_cons, List.take_zero, List.drop_succ_cons, List.drop_zero, exOps_nil, exOps_cons, bindO_some, put_some, ev_t, ev_c, List.getD_cons_zero, List.getD_cons_succ, List.set_cons_zero, List.set_cons_succ, optB_some, mapQ_some, x_mov, exOp_gt, exOp_gf, exOp_gf2, exOp_gs, h0, h9, h18, h19, h20, h21, h22, h23, if_neg (tm_ng b0 8), if_neg (tm_ng b0 32), if_neg (tm_ng b0 64)]
        refine RunO.cg (by rfl) (c27 (f17 (10 : Int) (f16 x0) (f13 (f16 x0) x1) (f13 (f16 x0) x2)) _) ?_
        refine RunO.cg (by rfl) (c32 (f27 (f17 (10 : Int) (f16 x0) (f13 (f16 x0) x1) (f13 (f16 x0) x2))) _) ?_
        refine RunO.pre 1 ?_
        simp only [List.take_succ_cons, List.take_zero, List.drop_succ_cons, List.drop_zero, exOps_nil, exOps_cons, bindO_some, put_some, ev_t, ev_c, List.getD_cons_zero, List.getD_cons_succ, List.set_cons_zero, List.set_cons_succ, optB_some, mapQ_some, x_mov, exOp_gt, exOp_gf, exOp_gf2, exOp_gs, h0, h9, h18, h19, h20, h21, h22, h23, if_neg (tm_ng b0 8), if_neg (tm_ng b0 32), if_neg (tm_ng b0 64)]
        refine RunO.cg (by rfl) (c27 (f13 (f16 x0) x1) _) ?_
        refine RunO.cg (by rfl) (c32 (f27 (f13 (f16 x0) x1)) _) ?_
        refine RunO.all ?_
        simp only [exOps_nil, exOps_cons, bindO_some, put_some, ev_t, ev_c, List.getD_cons_zero, List.getD_cons_succ, List.set_cons_zero, List.set_cons_succ, optB_some, mapQ_some, x_bin, binV, intB, x_pick, if_true, if_false, Bool.false_eq_true, if_true, if_false, reduceCtorEq, Bool.false_eq_true, Int.reduceBEq, Int.reduceBNe, Int.reduceLT, Int.reduceLE, Int.reduceGT, Int.reduceGE, decide_true, decide_false, beq_self_eq_true, bne_self_eq_false, not_false_eq_true, exOp_gt, exOp_gf, exOp_gf2, exOp_gs, h0, h9, h18, h19, h20, h21, h22, h23, if_neg (tm_ng b0 8), if_neg (tm_ng b0 32), if_neg (tm_ng b0 64)]
        show Run T _ _ _ _
        have h24 : (decide ((f32 (f27 (f17 (10 : Int) (f16 x0) (f13 (f16 x0) x1) (f13 (f16 x0) x2)))) > (f32 (f27 (f13 (f16 x0) x1))))) = false := o23 h0 h9 h22
        refine Run.ite (by rfl) (fun h => by rw [h24] at h; cases h) (fun _ => ?_)
        refine Run.skip ?_
        show Run T _ _ _ _
        refine Run.seq ?_
        refine Run.rgn ?_
        refine RunO.all ?_
        simp only [i8r29, exOps_nil, exOps_cons, bindO_some, put_some, ev_t, ev_c, List.getD_cons_zero, List.getD_cons_succ, List.set_cons_zero, List.set_cons_succ, optB_some, mapQ_some, x_bin, binV, intB, x_cvt, x_mov, if_true, if_false, reduceCtorEq, Bool.false_eq_true, Int.reduceBEq, Int.reduceBNe, Int.reduceLT, Int.reduceLE, Int.reduceGT, Int.reduceGE, decide_true, decide_false, beq_self_eq_true, bne_self_eq_false, not_false_eq_true, if_neg_u64, if_neg_one, h0, h9, h18, h19, h20, h21, h22, h23, h24, if_neg (tm_ng b0 8), if_neg (tm_ng b0 32), if_neg (tm_ng b0 64)]
        show Run T _ _ _ _
        refine Run.ret ⟨?_, rfl⟩
        exact congrArg V.bool (o24 h0 h9 h22)
      · skip
        refine RunO.pre 6 ?_
        simp only [List.drop_zero, List.take_succ_cons, List.take_zero, List.drop_succ_cons, List.drop_zero, exOps_nil, exOps_cons, bindO_some, put_some, ev_t, ev_c, List.getD_cons_zero, List.getD_cons_succ, List.set_cons_zero, List.set_cons_succ, optB_some, mapQ_some, x_bin, binV, intB, x_cvt, x_mov, x_pick, if_true, if_false, Bool.false_eq_true, if_true, if_false, reduceCtorEq, Bool.false_eq_true, Int.reduceBEq, Int.reduceBNe, Int.reduceLT, Int.reduceLE, Int.reduceGT, Int.reduceGE, decide_true, decide_false, beq_self_eq_true, bne_self_eq_false, not_false_eq_true, exOp_gt, exOp_gf, exOp_gf2, exOp_gs, h0, h9, h18, h19, h20, h21, h22, if_neg (tm_ng b0 8), if_neg (tm_ng b0 32), if_neg (tm_ng b0 64)]
        refine RunO.cg (by rfl) (c27 (f17 (10 : Int) (f16 x0) (f13 (f16 x0) x1) (f13 (f16 x0) x2)) _) ?_
        refine RunO.cg (by rfl) (c32 (f27 (f17 (10 : Int) (f16 x0) (f13 (f16 x0) x1) (f13 (f16 x0) x2))) _) ?_
        refine RunO.pre 1 ?_
        simp only [List.take_succ_cons, List.take_zero, List.drop_succ_cons, List.drop_zero, exOps_nil, exOps_cons, bindO_some, put_some, ev_t, ev_c, List.getD_cons_zero, List.getD_cons_succ, List.set_cons_zero, List.set_cons_succ, optB_some, mapQ_some, x_mov, exOp_gt, exOp_gf, exOp_gf2, exOp_gs, h0, h9, h18, h19, h20, h21, h22, if_neg (tm_ng b0 8), if_neg (tm_ng b0 32), if_neg (tm_ng b0 64)]
        refine RunO.cg (by rfl) (c27 (f13 (f16 x0) x1) _) ?_
        refine RunO.cg (by rfl) (c32 (f27 (f13 (f16 x0) x1)) _) ?_
        refine RunO.all ?_
        simp only [exOps_nil, exOps_cons, bindO_some, put_some, ev_t, ev_c, List.getD_cons_zero, List.getD_cons_succ, List.set_cons_zero, List.set_cons_succ, optB_some, mapQ_some, x_bin, binV, intB, x_pick, if_true, if_false, Bool.false_eq_true, if_true, if_false, reduceCtorEq, Bool.false_eq_true, Int.reduceBEq, Int.reduceBNe, Int.reduceLT, Int.reduceLE, Int.reduceGT, Int.reduceGE, decide_true, decide_false, beq_self_eq_true, bne_self_eq_false, not_false_eq_true, exOp_gt, exOp_gf, exOp_gf2, exOp_gs, h0, h9, h18, h19, h20, h21, h22, if_neg (tm_ng b0 8), if_neg (tm_ng b0 32), if_neg (tm_ng b0 64)]
        show Run T _ _ _ _
        have h25 : (decide ((f32 (f27 (f17 (10 : Int) (f16 x0) (f13 (f16 x0) x1) (f13 (f16 x0) x2)))) > (f32 (f27 (f13 (f16 x0) x1))))) = false := o25 h0 h9 h22
        refine Run.ite (by rfl) (fun h => by rw [h25] at h; cases h) (fun _ => ?_)
        refine Run.skip ?_
        show Run T _ _ _ _
        refine Run.seq ?_
        refine Run.rgn ?_
        refine RunO.all ?_
        simp only [i8r29, exOps_nil, exOps_cons, bindO_some, put_some, ev_t, ev_c, List.getD_cons_zero, List.getD_cons_succ, List.set_cons_zero, List.set_cons_succ, optB_some, mapQ_some, x_bin, binV, intB, x_cvt, x_mov, if_true, if_false, reduceCtorEq, Bool.false_eq_true, Int.reduceBEq, Int.reduceBNe, Int.reduceLT, Int.reduceLE, Int.reduceGT, Int.reduceGE, decide_true, decide_false, beq_self_eq_true, bne_self_eq_false, not_false_eq_true, if_neg_u64, if_neg_one, h0, h9, h18, h19, h20, h21, h22, h25, if_neg (tm_ng b0 8), if_neg (tm_ng b0 32), if_neg (tm_ng b0 64)]
        show Run T _ _ _ _
        refine Run.ret ⟨?_, rfl⟩
        exact congrArg V.bool (o26 h0 h9 h22)

end Go.Eng.Sca
