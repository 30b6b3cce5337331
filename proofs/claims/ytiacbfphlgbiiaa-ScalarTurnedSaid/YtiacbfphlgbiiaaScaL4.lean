/- Functions of this seat, each with a plain function that gives the same answers (lines written by a program of this session's; no condition beyond those stated). -/
import Derived.Test.YtiacbfphlgbiiaaScaI
namespace Go.Eng.Sca
open Go Go.Eng
set_option linter.unusedVariables false
set_option linter.unusedSimpArgs false
set_option maxRecDepth 20000
set_option maxHeartbeats 4000000

/- smithy/smithylaw01.ScalarOrder -/
theorem w4 (x0 : Int) (x1 : Int) (x2 : Int)
    (o0 : (decide (x0 > (200 : Int))) = true → ((IntKind.u64.wrap ((f17 (11 : Int) (5 : Int) (f13 (5 : Int) x1) (f13 (5 : Int) x2)) + (f17 (12 : Int) (5 : Int) (f13 (5 : Int) x1) (f13 (5 : Int) x2)))) != (1 : Int)) = false)
    (o1 : (decide (x0 > (200 : Int))) = true → (decide ((f17 (13 : Int) (5 : Int) (f13 (5 : Int) x1) (f13 (5 : Int) x2)) > (1 : Int))) = false)
    (o2 : (decide (x0 > (200 : Int))) = true → (decide ((f17 (15 : Int) (5 : Int) (f13 (5 : Int) x1) (f13 (5 : Int) x2)) > (1 : Int))) = false)
    (o3 : (decide (x0 > (200 : Int))) = true → (decide ((f17 (14 : Int) (5 : Int) (f13 (5 : Int) x1) (f13 (5 : Int) x2)) > (1 : Int))) = false)
    (o4 : (decide (x0 > (200 : Int))) = true → (decide ((f17 (16 : Int) (5 : Int) (f13 (5 : Int) x1) (f13 (5 : Int) x2)) > (1 : Int))) = false)
    (o5 : (decide (x0 > (200 : Int))) = true → ((f17 (13 : Int) (5 : Int) (f13 (5 : Int) x2) (f13 (5 : Int) x1)) != (f17 (15 : Int) (5 : Int) (f13 (5 : Int) x1) (f13 (5 : Int) x2))) = false)
    (o6 : (decide (x0 > (200 : Int))) = true → ((f17 (16 : Int) (5 : Int) (f13 (5 : Int) x2) (f13 (5 : Int) x1)) != (f17 (14 : Int) (5 : Int) (f13 (5 : Int) x1) (f13 (5 : Int) x2))) = false)
    (o7 : (decide (x0 > (200 : Int))) = true → (flO (some (f13 (5 : Int) x1).toNat) (some (f13 (5 : Int) x1).toNat) != some .eq) = true → ((IntKind.u64.wrap ((IntKind.u64.wrap ((IntKind.u64.wrap ((IntKind.u64.wrap ((f17 (13 : Int) (5 : Int) (f13 (5 : Int) x1) (f13 (5 : Int) x2)) + (f17 (14 : Int) (5 : Int) (f13 (5 : Int) x1) (f13 (5 : Int) x2)))) + (f17 (15 : Int) (5 : Int) (f13 (5 : Int) x1) (f13 (5 : Int) x2)))) + (f17 (16 : Int) (5 : Int) (f13 (5 : Int) x1) (f13 (5 : Int) x2)))) + (f17 (11 : Int) (5 : Int) (f13 (5 : Int) x1) (f13 (5 : Int) x2)))) == (0 : Int)) = true)
    (o8 : (decide (x0 > (200 : Int))) = true → (flO (some (f13 (5 : Int) x1).toNat) (some (f13 (5 : Int) x1).toNat) != some .eq) = false → (flO (some (f13 (5 : Int) x2).toNat) (some (f13 (5 : Int) x2).toNat) != some .eq) = true → ((IntKind.u64.wrap ((IntKind.u64.wrap ((IntKind.u64.wrap ((IntKind.u64.wrap ((f17 (13 : Int) (5 : Int) (f13 (5 : Int) x1) (f13 (5 : Int) x2)) + (f17 (14 : Int) (5 : Int) (f13 (5 : Int) x1) (f13 (5 : Int) x2)))) + (f17 (15 : Int) (5 : Int) (f13 (5 : Int) x1) (f13 (5 : Int) x2)))) + (f17 (16 : Int) (5 : Int) (f13 (5 : Int) x1) (f13 (5 : Int) x2)))) + (f17 (11 : Int) (5 : Int) (f13 (5 : Int) x1) (f13 (5 : Int) x2)))) == (0 : Int)) = true)
    (o9 : (decide (x0 > (200 : Int))) = true → (flO (some (f13 (5 : Int) x1).toNat) (some (f13 (5 : Int) x1).toNat) != some .eq) = false → (flO (some (f13 (5 : Int) x2).toNat) (some (f13 (5 : Int) x2).toNat) != some .eq) = false → ((IntKind.u64.wrap ((IntKind.u64.wrap ((f17 (13 : Int) (5 : Int) (f13 (5 : Int) x1) (f13 (5 : Int) x2)) + (f17 (15 : Int) (5 : Int) (f13 (5 : Int) x1) (f13 (5 : Int) x2)))) + (f17 (11 : Int) (5 : Int) (f13 (5 : Int) x1) (f13 (5 : Int) x2)))) == (1 : Int)) = true)
    (o10 : (decide (x0 > (200 : Int))) = true → (flO (some (f13 (5 : Int) x1).toNat) (some (f13 (5 : Int) x1).toNat) != some .eq) = false → (flO (some (f13 (5 : Int) x2).toNat) (some (f13 (5 : Int) x2).toNat) != some .eq) = false → ((f17 (14 : Int) (5 : Int) (f13 (5 : Int) x1) (f13 (5 : Int) x2)) == (IntKind.u64.wrap ((f17 (13 : Int) (5 : Int) (f13 (5 : Int) x1) (f13 (5 : Int) x2)) + (f17 (11 : Int) (5 : Int) (f13 (5 : Int) x1) (f13 (5 : Int) x2))))) = true)
    (o11 : (decide (x0 > (200 : Int))) = true → (flO (some (f13 (5 : Int) x1).toNat) (some (f13 (5 : Int) x1).toNat) != some .eq) = false → (flO (some (f13 (5 : Int) x2).toNat) (some (f13 (5 : Int) x2).toNat) != some .eq) = false → ((f17 (16 : Int) (5 : Int) (f13 (5 : Int) x1) (f13 (5 : Int) x2)) == (IntKind.u64.wrap ((f17 (15 : Int) (5 : Int) (f13 (5 : Int) x1) (f13 (5 : Int) x2)) + (f17 (11 : Int) (5 : Int) (f13 (5 : Int) x1) (f13 (5 : Int) x2))))) = true)
    (o12 : (decide (x0 > (200 : Int))) = false → ((IntKind.u64.wrap ((f17 (11 : Int) (f16 x0) (f13 (f16 x0) x1) (f13 (f16 x0) x2)) + (f17 (12 : Int) (f16 x0) (f13 (f16 x0) x1) (f13 (f16 x0) x2)))) != (1 : Int)) = false)
    (o13 : (decide (x0 > (200 : Int))) = false → (decide ((f17 (13 : Int) (f16 x0) (f13 (f16 x0) x1) (f13 (f16 x0) x2)) > (1 : Int))) = false)
    (o14 : (decide (x0 > (200 : Int))) = false → (decide ((f17 (15 : Int) (f16 x0) (f13 (f16 x0) x1) (f13 (f16 x0) x2)) > (1 : Int))) = false)
    (o15 : (decide (x0 > (200 : Int))) = false → (decide ((f17 (14 : Int) (f16 x0) (f13 (f16 x0) x1) (f13 (f16 x0) x2)) > (1 : Int))) = false)
    (o16 : (decide (x0 > (200 : Int))) = false → (decide ((f17 (16 : Int) (f16 x0) (f13 (f16 x0) x1) (f13 (f16 x0) x2)) > (1 : Int))) = false)
    (o17 : (decide (x0 > (200 : Int))) = false → ((f17 (13 : Int) (f16 x0) (f13 (f16 x0) x2) (f13 (f16 x0) x1)) != (f17 (15 : Int) (f16 x0) (f13 (f16 x0) x1) (f13 (f16 x0) x2))) = false)
    (o18 : (decide (x0 > (200 : Int))) = false → ((f17 (16 : Int) (f16 x0) (f13 (f16 x0) x2) (f13 (f16 x0) x1)) != (f17 (14 : Int) (f16 x0) (f13 (f16 x0) x1) (f13 (f16 x0) x2))) = false)
    (o19 : (decide (x0 > (200 : Int))) = false → ((f16 x0) == (5 : Int)) = true → (flO (some (f13 (f16 x0) x1).toNat) (some (f13 (f16 x0) x1).toNat) != some .eq) = true → ((IntKind.u64.wrap ((IntKind.u64.wrap ((IntKind.u64.wrap ((IntKind.u64.wrap ((f17 (13 : Int) (f16 x0) (f13 (f16 x0) x1) (f13 (f16 x0) x2)) + (f17 (14 : Int) (f16 x0) (f13 (f16 x0) x1) (f13 (f16 x0) x2)))) + (f17 (15 : Int) (f16 x0) (f13 (f16 x0) x1) (f13 (f16 x0) x2)))) + (f17 (16 : Int) (f16 x0) (f13 (f16 x0) x1) (f13 (f16 x0) x2)))) + (f17 (11 : Int) (f16 x0) (f13 (f16 x0) x1) (f13 (f16 x0) x2)))) == (0 : Int)) = true)
    (o20 : (decide (x0 > (200 : Int))) = false → ((f16 x0) == (5 : Int)) = true → (flO (some (f13 (f16 x0) x1).toNat) (some (f13 (f16 x0) x1).toNat) != some .eq) = false → (flO (some (f13 (f16 x0) x2).toNat) (some (f13 (f16 x0) x2).toNat) != some .eq) = true → ((IntKind.u64.wrap ((IntKind.u64.wrap ((IntKind.u64.wrap ((IntKind.u64.wrap ((f17 (13 : Int) (f16 x0) (f13 (f16 x0) x1) (f13 (f16 x0) x2)) + (f17 (14 : Int) (f16 x0) (f13 (f16 x0) x1) (f13 (f16 x0) x2)))) + (f17 (15 : Int) (f16 x0) (f13 (f16 x0) x1) (f13 (f16 x0) x2)))) + (f17 (16 : Int) (f16 x0) (f13 (f16 x0) x1) (f13 (f16 x0) x2)))) + (f17 (11 : Int) (f16 x0) (f13 (f16 x0) x1) (f13 (f16 x0) x2)))) == (0 : Int)) = true)
    (o21 : (decide (x0 > (200 : Int))) = false → ((f16 x0) == (5 : Int)) = true → (flO (some (f13 (f16 x0) x1).toNat) (some (f13 (f16 x0) x1).toNat) != some .eq) = false → (flO (some (f13 (f16 x0) x2).toNat) (some (f13 (f16 x0) x2).toNat) != some .eq) = false → ((f16 x0) != (5 : Int)) = true → (!(((f17 (13 : Int) (f16 x0) (f13 (f16 x0) x1) (f13 (f16 x0) x2)) == (1 : Int)) == (decide ((IntKind.i64.wrap (f13 (f16 x0) x1)) < (IntKind.i64.wrap (f13 (f16 x0) x2)))))) = false)
    (o22 : (decide (x0 > (200 : Int))) = false → ((f16 x0) == (5 : Int)) = true → (flO (some (f13 (f16 x0) x1).toNat) (some (f13 (f16 x0) x1).toNat) != some .eq) = false → (flO (some (f13 (f16 x0) x2).toNat) (some (f13 (f16 x0) x2).toNat) != some .eq) = false → ((f16 x0) != (5 : Int)) = true → ((IntKind.u64.wrap ((IntKind.u64.wrap ((f17 (13 : Int) (f16 x0) (f13 (f16 x0) x1) (f13 (f16 x0) x2)) + (f17 (15 : Int) (f16 x0) (f13 (f16 x0) x1) (f13 (f16 x0) x2)))) + (f17 (11 : Int) (f16 x0) (f13 (f16 x0) x1) (f13 (f16 x0) x2)))) == (1 : Int)) = true)
    (o23 : (decide (x0 > (200 : Int))) = false → ((f16 x0) == (5 : Int)) = true → (flO (some (f13 (f16 x0) x1).toNat) (some (f13 (f16 x0) x1).toNat) != some .eq) = false → (flO (some (f13 (f16 x0) x2).toNat) (some (f13 (f16 x0) x2).toNat) != some .eq) = false → ((f16 x0) != (5 : Int)) = true → ((f17 (14 : Int) (f16 x0) (f13 (f16 x0) x1) (f13 (f16 x0) x2)) == (IntKind.u64.wrap ((f17 (13 : Int) (f16 x0) (f13 (f16 x0) x1) (f13 (f16 x0) x2)) + (f17 (11 : Int) (f16 x0) (f13 (f16 x0) x1) (f13 (f16 x0) x2))))) = true)
    (o24 : (decide (x0 > (200 : Int))) = false → ((f16 x0) == (5 : Int)) = true → (flO (some (f13 (f16 x0) x1).toNat) (some (f13 (f16 x0) x1).toNat) != some .eq) = false → (flO (some (f13 (f16 x0) x2).toNat) (some (f13 (f16 x0) x2).toNat) != some .eq) = false → ((f16 x0) != (5 : Int)) = true → ((f17 (16 : Int) (f16 x0) (f13 (f16 x0) x1) (f13 (f16 x0) x2)) == (IntKind.u64.wrap ((f17 (15 : Int) (f16 x0) (f13 (f16 x0) x1) (f13 (f16 x0) x2)) + (f17 (11 : Int) (f16 x0) (f13 (f16 x0) x1) (f13 (f16 x0) x2))))) = true)
    (o25 : (decide (x0 > (200 : Int))) = false → ((f16 x0) == (5 : Int)) = true → (flO (some (f13 (f16 x0) x1).toNat) (some (f13 (f16 x0) x1).toNat) != some .eq) = false → (flO (some (f13 (f16 x0) x2).toNat) (some (f13 (f16 x0) x2).toNat) != some .eq) = false → ((f16 x0) != (5 : Int)) = false → ((IntKind.u64.wrap ((IntKind.u64.wrap ((f17 (13 : Int) (f16 x0) (f13 (f16 x0) x1) (f13 (f16 x0) x2)) + (f17 (15 : Int) (f16 x0) (f13 (f16 x0) x1) (f13 (f16 x0) x2)))) + (f17 (11 : Int) (f16 x0) (f13 (f16 x0) x1) (f13 (f16 x0) x2)))) == (1 : Int)) = true)
    (o26 : (decide (x0 > (200 : Int))) = false → ((f16 x0) == (5 : Int)) = true → (flO (some (f13 (f16 x0) x1).toNat) (some (f13 (f16 x0) x1).toNat) != some .eq) = false → (flO (some (f13 (f16 x0) x2).toNat) (some (f13 (f16 x0) x2).toNat) != some .eq) = false → ((f16 x0) != (5 : Int)) = false → ((f17 (14 : Int) (f16 x0) (f13 (f16 x0) x1) (f13 (f16 x0) x2)) == (IntKind.u64.wrap ((f17 (13 : Int) (f16 x0) (f13 (f16 x0) x1) (f13 (f16 x0) x2)) + (f17 (11 : Int) (f16 x0) (f13 (f16 x0) x1) (f13 (f16 x0) x2))))) = true)
    (o27 : (decide (x0 > (200 : Int))) = false → ((f16 x0) == (5 : Int)) = true → (flO (some (f13 (f16 x0) x1).toNat) (some (f13 (f16 x0) x1).toNat) != some .eq) = false → (flO (some (f13 (f16 x0) x2).toNat) (some (f13 (f16 x0) x2).toNat) != some .eq) = false → ((f16 x0) != (5 : Int)) = false → ((f17 (16 : Int) (f16 x0) (f13 (f16 x0) x1) (f13 (f16 x0) x2)) == (IntKind.u64.wrap ((f17 (15 : Int) (f16 x0) (f13 (f16 x0) x1) (f13 (f16 x0) x2)) + (f17 (11 : Int) (f16 x0) (f13 (f16 x0) x1) (f13 (f16 x0) x2))))) = true)
    (o28 : (decide (x0 > (200 : Int))) = false → ((f16 x0) == (5 : Int)) = false → ((f16 x0) != (5 : Int)) = true → (!(((f17 (13 : Int) (f16 x0) (f13 (f16 x0) x1) (f13 (f16 x0) x2)) == (1 : Int)) == (decide ((IntKind.i64.wrap (f13 (f16 x0) x1)) < (IntKind.i64.wrap (f13 (f16 x0) x2)))))) = false)
    (o29 : (decide (x0 > (200 : Int))) = false → ((f16 x0) == (5 : Int)) = false → ((f16 x0) != (5 : Int)) = true → ((IntKind.u64.wrap ((IntKind.u64.wrap ((f17 (13 : Int) (f16 x0) (f13 (f16 x0) x1) (f13 (f16 x0) x2)) + (f17 (15 : Int) (f16 x0) (f13 (f16 x0) x1) (f13 (f16 x0) x2)))) + (f17 (11 : Int) (f16 x0) (f13 (f16 x0) x1) (f13 (f16 x0) x2)))) == (1 : Int)) = true)
    (o30 : (decide (x0 > (200 : Int))) = false → ((f16 x0) == (5 : Int)) = false → ((f16 x0) != (5 : Int)) = true → ((f17 (14 : Int) (f16 x0) (f13 (f16 x0) x1) (f13 (f16 x0) x2)) == (IntKind.u64.wrap ((f17 (13 : Int) (f16 x0) (f13 (f16 x0) x1) (f13 (f16 x0) x2)) + (f17 (11 : Int) (f16 x0) (f13 (f16 x0) x1) (f13 (f16 x0) x2))))) = true)
    (o31 : (decide (x0 > (200 : Int))) = false → ((f16 x0) == (5 : Int)) = false → ((f16 x0) != (5 : Int)) = true → ((f17 (16 : Int) (f16 x0) (f13 (f16 x0) x1) (f13 (f16 x0) x2)) == (IntKind.u64.wrap ((f17 (15 : Int) (f16 x0) (f13 (f16 x0) x1) (f13 (f16 x0) x2)) + (f17 (11 : Int) (f16 x0) (f13 (f16 x0) x1) (f13 (f16 x0) x2))))) = true)
    (o32 : (decide (x0 > (200 : Int))) = false → ((f16 x0) == (5 : Int)) = false → ((f16 x0) != (5 : Int)) = false → ((IntKind.u64.wrap ((IntKind.u64.wrap ((f17 (13 : Int) (f16 x0) (f13 (f16 x0) x1) (f13 (f16 x0) x2)) + (f17 (15 : Int) (f16 x0) (f13 (f16 x0) x1) (f13 (f16 x0) x2)))) + (f17 (11 : Int) (f16 x0) (f13 (f16 x0) x1) (f13 (f16 x0) x2)))) == (1 : Int)) = true)
    (o33 : (decide (x0 > (200 : Int))) = false → ((f16 x0) == (5 : Int)) = false → ((f16 x0) != (5 : Int)) = false → ((f17 (14 : Int) (f16 x0) (f13 (f16 x0) x1) (f13 (f16 x0) x2)) == (IntKind.u64.wrap ((f17 (13 : Int) (f16 x0) (f13 (f16 x0) x1) (f13 (f16 x0) x2)) + (f17 (11 : Int) (f16 x0) (f13 (f16 x0) x1) (f13 (f16 x0) x2))))) = true)
    (o34 : (decide (x0 > (200 : Int))) = false → ((f16 x0) == (5 : Int)) = false → ((f16 x0) != (5 : Int)) = false → ((f17 (16 : Int) (f16 x0) (f13 (f16 x0) x1) (f13 (f16 x0) x2)) == (IntKind.u64.wrap ((f17 (15 : Int) (f16 x0) (f13 (f16 x0) x1) (f13 (f16 x0) x2)) + (f17 (11 : Int) (f16 x0) (f13 (f16 x0) x1) (f13 (f16 x0) x2))))) = true) (H : Heap) :
    Fn T 4 [.int .u8 x0, .int .u64 x1, .int .u64 x2] H (fun r h => r = .bool true ∧ h = H) := by
  refine Fn.enter t4 ?_; simp only [i4, List.length_cons, List.length_nil, Nat.reduceAdd, Nat.reduceSub, List.replicate_succ, List.replicate_zero, List.cons_append, List.nil_append]
  refine Run.seq ?_
  refine Run.rgn ?_
  refine RunO.all ?_
  simp only [i4r0, exOps_nil, exOps_cons, bindO_some, put_some, ev_t, ev_c, List.getD_cons_zero, List.getD_cons_succ, List.set_cons_zero, List.set_cons_succ, optB_some, mapQ_some, x_mov]
  show Run T _ _ _ _
  refine Run.seq ?_
  refine Run.seq ?_
  refine Run.rgn ?_
  refine RunO.pre 0 ?_
  simp only [i4r1, List.take_succ_cons, List.take_zero, List.drop_succ_cons, List.drop_zero, exOps_nil, exOps_cons, bindO_some, put_some, ev_t, ev_c, List.getD_cons_zero, List.getD_cons_succ, List.set_cons_zero, List.set_cons_succ, optB_some, mapQ_some]
  refine RunO.c (awakeY _) ?_
  refine RunO.all ?_
  simp only [exOps_nil, exOps_cons, bindO_some, put_some, ev_t, ev_c, List.getD_cons_zero, List.getD_cons_succ, List.set_cons_zero, List.set_cons_succ, optB_some, mapQ_some, x_un, unV, intB]
  show Run T _ _ _ _
  refine Run.ite (by rfl) (fun h => by first | exact absurd h (by decide) | (simp only [reduceCtorEq, Bool.not_true, Bool.not_false, Bool.false_eq_true, Bool.true_eq_false] at h)) (fun _ => ?_)
  refine Run.skip ?_
  show Run T _ _ _ _
  refine Run.seq ?_
  refine Run.rgn ?_
  refine RunO.pre 1 ?_
  simp only [i4r6, List.take_succ_cons, List.take_zero, List.drop_succ_cons, List.drop_zero, exOps_nil, exOps_cons, bindO_some, put_some, ev_t, ev_c, List.getD_cons_zero, List.getD_cons_succ, List.set_cons_zero, List.set_cons_succ, optB_some, mapQ_some, x_mov]
  refine RunO.c (c16 x0 _) ?_
  refine RunO.all ?_
  simp only [exOps_nil, exOps_cons, bindO_some, put_some, ev_t, ev_c, List.getD_cons_zero, List.getD_cons_succ, List.set_cons_zero, List.set_cons_succ, optB_some, mapQ_some, x_mov]
  show Run T _ _ _ _
  refine Run.seq ?_
  refine Run.seq ?_
  refine Run.rgn ?_
  refine RunO.all ?_
  simp only [i4r7, exOps_nil, exOps_cons, bindO_some, put_some, ev_t, ev_c, List.getD_cons_zero, List.getD_cons_succ, List.set_cons_zero, List.set_cons_succ, optB_some, mapQ_some, x_bin, binV, intB, x_mov, if_true, if_false, reduceCtorEq, Bool.false_eq_true, Int.reduceBEq, Int.reduceBNe, Int.reduceLT, Int.reduceLE, Int.reduceGT, Int.reduceGE, decide_true, decide_false, beq_self_eq_true, bne_self_eq_false, not_false_eq_true]
  show Run T _ _ _ _
  refine Run.ite (by rfl) (fun h0 => ?_) (fun h0 => ?_)
  · skip
    refine Run.rgn ?_
    refine RunO.all ?_
    simp only [i4r8, exOps_nil, exOps_cons, bindO_some, put_some, ev_t, ev_c, List.getD_cons_zero, List.getD_cons_succ, List.set_cons_zero, List.set_cons_succ, optB_some, mapQ_some, x_mov, h0]
    show Run T _ _ _ _
    refine Run.seq ?_
    refine Run.rgn ?_
    refine RunO.pre 2 ?_
    simp only [i4r11, List.take_succ_cons, List.take_zero, List.drop_succ_cons, List.drop_zero, exOps_nil, exOps_cons, bindO_some, put_some, ev_t, ev_c, List.getD_cons_zero, List.getD_cons_succ, List.set_cons_zero, List.set_cons_succ, optB_some, mapQ_some, x_mov, h0]
    refine RunO.c (c13 (5 : Int) x1 _) ?_
    refine RunO.pre 2 ?_
    simp only [List.take_succ_cons, List.take_zero, List.drop_succ_cons, List.drop_zero, exOps_nil, exOps_cons, bindO_some, put_some, ev_t, ev_c, List.getD_cons_zero, List.getD_cons_succ, List.set_cons_zero, List.set_cons_succ, optB_some, mapQ_some, x_mov, h0]
    refine RunO.c (c13 (5 : Int) x2 _) ?_
    refine RunO.all ?_
    simp only [exOps_nil, exOps_cons, bindO_some, put_some, ev_t, ev_c, List.getD_cons_zero, List.getD_cons_succ, List.set_cons_zero, List.set_cons_succ, optB_some, mapQ_some, x_mov, h0]
    show Run T _ _ _ _
    refine Run.seq ?_
    refine Run.rgn ?_
    refine RunO.pre 3 ?_
    simp only [i4r12, List.take_succ_cons, List.take_zero, List.drop_succ_cons, List.drop_zero, exOps_nil, exOps_cons, bindO_some, put_some, ev_t, ev_c, List.getD_cons_zero, List.getD_cons_succ, List.set_cons_zero, List.set_cons_succ, optB_some, mapQ_some, x_mov, h0]
    refine RunO.c (c17 (13 : Int) (5 : Int) (f13 (5 : Int) x1) (f13 (5 : Int) x2) _) ?_
    refine RunO.pre 3 ?_
    simp only [List.take_succ_cons, List.take_zero, List.drop_succ_cons, List.drop_zero, exOps_nil, exOps_cons, bindO_some, put_some, ev_t, ev_c, List.getD_cons_zero, List.getD_cons_succ, List.set_cons_zero, List.set_cons_succ, optB_some, mapQ_some, x_mov, h0]
    refine RunO.c (c17 (14 : Int) (5 : Int) (f13 (5 : Int) x1) (f13 (5 : Int) x2) _) ?_
    refine RunO.pre 3 ?_
    simp only [List.take_succ_cons, List.take_zero, List.drop_succ_cons, List.drop_zero, exOps_nil, exOps_cons, bindO_some, put_some, ev_t, ev_c, List.getD_cons_zero, List.getD_cons_succ, List.set_cons_zero, List.set_cons_succ, optB_some, mapQ_some, x_mov, h0]
    refine RunO.c (c17 (15 : Int) (5 : Int) (f13 (5 : Int) x1) (f13 (5 : Int) x2) _) ?_
    refine RunO.pre 3 ?_
    simp only [List.take_succ_cons, List.take_zero, List.drop_succ_cons, List.drop_zero, exOps_nil, exOps_cons, bindO_some, put_some, ev_t, ev_c, List.getD_cons_zero, List.getD_cons_succ, List.set_cons_zero, List.set_cons_succ, optB_some, mapQ_some, x_mov, h0]
    refine RunO.c (c17 (16 : Int) (5 : Int) (f13 (5 : Int) x1) (f13 (5 : Int) x2) _) ?_
    refine RunO.pre 3 ?_
    simp only [List.take_succ_cons, List.take_zero, List.drop_succ_cons, List.drop_zero, exOps_nil, exOps_cons, bindO_some, put_some, ev_t, ev_c, List.getD_cons_zero, List.getD_cons_succ, List.set_cons_zero, List.set_cons_succ, optB_some, mapQ_some, x_mov, h0]
    refine RunO.c (c17 (11 : Int) (5 : Int) (f13 (5 : Int) x1) (f13 (5 : Int) x2) _) ?_
    refine RunO.pre 3 ?_
    simp only [List.take_succ_cons, List.take_zero, List.drop_succ_cons, List.drop_zero, exOps_nil, exOps_cons, bindO_some, put_some, ev_t, ev_c, List.getD_cons_zero, List.getD_cons_succ, List.set_cons_zero, List.set_cons_succ, optB_some, mapQ_some, x_mov, h0]
    refine RunO.c (c17 (12 : Int) (5 : Int) (f13 (5 : Int) x1) (f13 (5 : Int) x2) _) ?_
    refine RunO.all ?_
    simp only [exOps_nil, exOps_cons, bindO_some, put_some, ev_t, ev_c, List.getD_cons_zero, List.getD_cons_succ, List.set_cons_zero, List.set_cons_succ, optB_some, mapQ_some, x_mov, h0]
    show Run T _ _ _ _
    refine Run.seq ?_
    refine Run.seq ?_
    refine Run.rgn ?_
    refine RunO.pre 5 ?_
    simp only [i4r13, List.take_succ_cons, List.take_zero, List.drop_succ_cons, List.drop_zero, exOps_nil, exOps_cons, bindO_some, put_some, ev_t, ev_c, List.getD_cons_zero, List.getD_cons_succ, List.set_cons_zero, List.set_cons_succ, optB_some, mapQ_some, x_bin, binV, intB, x_mov, if_true, if_false, reduceCtorEq, Bool.false_eq_true, Int.reduceBEq, Int.reduceBNe, Int.reduceLT, Int.reduceLE, Int.reduceGT, Int.reduceGE, decide_true, decide_false, beq_self_eq_true, bne_self_eq_false, not_false_eq_true, h0]
    have h1 : ((IntKind.u64.wrap ((f17 (11 : Int) (5 : Int) (f13 (5 : Int) x1) (f13 (5 : Int) x2)) + (f17 (12 : Int) (5 : Int) (f13 (5 : Int) x1) (f13 (5 : Int) x2)))) != (1 : Int)) = false := o0 h0
    refine RunO.pre 4 ?_
    simp only [List.drop_zero, List.take_succ_cons, List.take_zero, List.drop_succ_cons, List.drop_zero, exOps_nil, exOps_cons, bindO_some, put_some, ev_t, ev_c, List.getD_cons_zero, List.getD_cons_succ, List.set_cons_zero, List.set_cons_succ, optB_some, mapQ_some, x_bin, binV, intB, x_mov, x_pick, if_true, if_false, Bool.false_eq_true, if_true, if_false, reduceCtorEq, Bool.false_eq_true, Int.reduceBEq, Int.reduceBNe, Int.reduceLT, Int.reduceLE, Int.reduceGT, Int.reduceGE, decide_true, decide_false, beq_self_eq_true, bne_self_eq_false, not_false_eq_true, exOp_gt, exOp_gf, exOp_gf2, exOp_gs, h0, h1]
    have h2 : (decide ((f17 (13 : Int) (5 : Int) (f13 (5 : Int) x1) (f13 (5 : Int) x2)) > (1 : Int))) = false := o1 h0
    refine RunO.pre 4 ?_
    simp only [List.drop_zero, List.take_succ_cons, List.take_zero, List.drop_succ_cons, List.drop_zero, exOps_nil, exOps_cons, bindO_some, put_some, ev_t, ev_c, List.getD_cons_zero, List.getD_cons_succ, List.set_cons_zero, List.set_cons_succ, optB_some, mapQ_some, x_bin, binV, intB, x_mov, x_pick, if_true, if_false, Bool.false_eq_true, if_true, if_false, reduceCtorEq, Bool.false_eq_true, Int.reduceBEq, Int.reduceBNe, Int.reduceLT, Int.reduceLE, Int.reduceGT, Int.reduceGE, decide_true, decide_false, beq_self_eq_true, bne_self_eq_false, not_false_eq_true, exOp_gt, exOp_gf, exOp_gf2, exOp_gs, h0, h1, h2]
    have h3 : (decide ((f17 (15 : Int) (5 : Int) (f13 (5 : Int) x1) (f13 (5 : Int) x2)) > (1 : Int))) = false := o2 h0
    refine RunO.pre 4 ?_
    simp only [List.drop_zero, List.take_succ_cons, List.take_zero, List.drop_succ_cons, List.drop_zero, exOps_nil, exOps_cons, bindO_some, put_some, ev_t, ev_c, List.getD_cons_zero, List.getD_cons_succ, List.set_cons_zero, List.set_cons_succ, optB_some, mapQ_some, x_bin, binV, intB, x_mov, x_pick, if_true, if_false, Bool.false_eq_true, if_true, if_false, reduceCtorEq, Bool.false_eq_true, Int.reduceBEq, Int.reduceBNe, Int.reduceLT, Int.reduceLE, Int.reduceGT, Int.reduceGE, decide_true, decide_false, beq_self_eq_true, bne_self_eq_false, not_false_eq_true, exOp_gt, exOp_gf, exOp_gf2, exOp_gs, h0, h1, h2, h3]
    have h4 : (decide ((f17 (14 : Int) (5 : Int) (f13 (5 : Int) x1) (f13 (5 : Int) x2)) > (1 : Int))) = false := o3 h0
    refine RunO.pre 4 ?_
    simp only [List.drop_zero, List.take_succ_cons, List.take_zero, List.drop_succ_cons, List.drop_zero, exOps_nil, exOps_cons, bindO_some, put_some, ev_t, ev_c, List.getD_cons_zero, List.getD_cons_succ, List.set_cons_zero, List.set_cons_succ, optB_some, mapQ_some, x_bin, binV, intB, x_mov, x_pick, if_true, if_false, Bool.false_eq_true, if_true, if_false, reduceCtorEq, Bool.false_eq_true, Int.reduceBEq, Int.reduceBNe, Int.reduceLT, Int.reduceLE, Int.reduceGT, Int.reduceGE, decide_true, decide_false, beq_self_eq_true, bne_self_eq_false, not_false_eq_true, exOp_gt, exOp_gf, exOp_gf2, exOp_gs, h0, h1, h2, h3, h4]
    have h5 : (decide ((f17 (16 : Int) (5 : Int) (f13 (5 : Int) x1) (f13 (5 : Int) x2)) > (1 : Int))) = false := o4 h0
    refine RunO.pre 3 ?_
    simp only [List.drop_zero, List.take_succ_cons, List.take_zero, List.drop_succ_cons, List.drop_zero, exOps_nil, exOps_cons, bindO_some, put_some, ev_t, ev_c, List.getD_cons_zero, List.getD_cons_succ, List.set_cons_zero, List.set_cons_succ, optB_some, mapQ_some, x_mov, exOp_gt, exOp_gf, exOp_gf2, exOp_gs, h0, h1, h2, h3, h4, h5]
    refine RunO.cg (by rfl) (c17 (13 : Int) (5 : Int) (f13 (5 : Int) x2) (f13 (5 : Int) x1) _) ?_
    refine RunO.pre 4 ?_
    simp only [List.take_succ_cons, List.take_zero, List.drop_succ_cons, List.drop_zero, exOps_nil, exOps_cons, bindO_some, put_some, ev_t, ev_c, List.getD_cons_zero, List.getD_cons_succ, List.set_cons_zero, List.set_cons_succ, optB_some, mapQ_some, x_bin, binV, intB, x_mov, x_pick, if_true, if_false, Bool.false_eq_true, if_true, if_false, reduceCtorEq, Bool.false_eq_true, Int.reduceBEq, Int.reduceBNe, Int.reduceLT, Int.reduceLE, Int.reduceGT, Int.reduceGE, decide_true, decide_false, beq_self_eq_true, bne_self_eq_false, not_false_eq_true, exOp_gt, exOp_gf, exOp_gf2, exOp_gs, h0, h1, h2, h3, h4, h5]
    have h6 : ((f17 (13 : Int) (5 : Int) (f13 (5 : Int) x2) (f13 (5 : Int) x1)) != (f17 (15 : Int) (5 : Int) (f13 (5 : Int) x1) (f13 (5 : Int) x2))) = false := o5 h0
    refine RunO.pre 3 ?_
    simp only [List.drop_zero, List.take_succ_cons, List.take_zero, List.drop_succ_cons, List.drop_zero, exOps_nil, exOps_cons, bindO_some, put_some, ev_t, ev_c, List.getD_cons_zero, List.getD_cons_succ, List.set_cons_zero, List.set_cons_succ, optB_some, mapQ_some, x_mov, exOp_gt, exOp_gf, exOp_gf2, exOp_gs, h0, h1, h2, h3, h4, h5, h6]
    refine RunO.cg (by rfl) (c17 (16 : Int) (5 : Int) (f13 (5 : Int) x2) (f13 (5 : Int) x1) _) ?_
    refine RunO.all ?_
    simp only [exOps_nil, exOps_cons, bindO_some, put_some, ev_t, ev_c, List.getD_cons_zero, List.getD_cons_succ, List.set_cons_zero, List.set_cons_succ, optB_some, mapQ_some, x_bin, binV, intB, x_mov, x_pick, if_true, if_false, Bool.false_eq_true, if_true, if_false, reduceCtorEq, Bool.false_eq_true, Int.reduceBEq, Int.reduceBNe, Int.reduceLT, Int.reduceLE, Int.reduceGT, Int.reduceGE, decide_true, decide_false, beq_self_eq_true, bne_self_eq_false, not_false_eq_true, exOp_gt, exOp_gf, exOp_gf2, exOp_gs, h0, h1, h2, h3, h4, h5, h6]
    show Run T _ _ _ _
    have h7 : ((f17 (16 : Int) (5 : Int) (f13 (5 : Int) x2) (f13 (5 : Int) x1)) != (f17 (14 : Int) (5 : Int) (f13 (5 : Int) x1) (f13 (5 : Int) x2))) = false := o6 h0
    refine Run.ite (by rfl) (fun h => by rw [h7] at h; cases h) (fun _ => ?_)
    refine Run.skip ?_
    show Run T _ _ _ _
    refine Run.seq ?_
    refine Run.rgn ?_
    refine RunO.all ?_
    simp only [i4r18, exOps_nil, exOps_cons, bindO_some, put_some, ev_t, ev_c, List.getD_cons_zero, List.getD_cons_succ, List.set_cons_zero, List.set_cons_succ, optB_some, mapQ_some, x_mov, x_xc, xc_word, xc_from, xc_trunc, wordV_some, h0, h1, h2, h3, h4, h5, h6, h7]
    show Run T _ _ _ _
    refine Run.seq ?_
    refine Run.seq ?_
    refine Run.rgn ?_
    refine RunO.pre 7 ?_
    simp only [i4r19, List.take_succ_cons, List.take_zero, List.drop_succ_cons, List.drop_zero, exOps_nil, exOps_cons, bindO_some, put_some, ev_t, ev_c, List.getD_cons_zero, List.getD_cons_succ, List.set_cons_zero, List.set_cons_succ, optB_some, mapQ_some, x_bin, binV, intB, x_fbin, fbinV, x_mov, if_true, if_false, reduceCtorEq, Bool.false_eq_true, Int.reduceBEq, Int.reduceBNe, Int.reduceLT, Int.reduceLE, Int.reduceGT, Int.reduceGE, decide_true, decide_false, beq_self_eq_true, bne_self_eq_false, not_false_eq_true, exOp_gt, exOp_gf, exOp_gf2, exOp_gs, h0, h1, h2, h3, h4, h5, h6, h7]
    rcases Bool.eq_false_or_eq_true (flO (some (f13 (5 : Int) x1).toNat) (some (f13 (5 : Int) x1).toNat) != some .eq) with h8 | h8
    · skip
      refine RunO.all ?_
      simp only [List.drop_zero, exOps_nil, exOps_cons, bindO_some, put_some, ev_t, ev_c, List.getD_cons_zero, List.getD_cons_succ, List.set_cons_zero, List.set_cons_succ, optB_some, mapQ_some, x_fbin, fbinV, x_mov, x_pick, if_true, if_false, Bool.false_eq_true, exOp_gt, exOp_gf, exOp_gf2, exOp_gs, h0, h1, h2, h3, h4, h5, h6, h7, h8]
      show Run T _ _ _ _
      refine Run.ite (by rfl) (fun _ => ?_) (fun h => by first | exact absurd h (by decide) | (simp only [h0, h1, h2, h3, h4, h5, h6, h7, h8, reduceCtorEq, Bool.not_true, Bool.not_false, Bool.false_eq_true, Bool.true_eq_false] at h))
      refine Run.seq ?_
      refine Run.rgn ?_
      refine RunO.all ?_
      simp only [i4r20, exOps_nil, exOps_cons, bindO_some, put_some, ev_t, ev_c, List.getD_cons_zero, List.getD_cons_succ, List.set_cons_zero, List.set_cons_succ, optB_some, mapQ_some, x_bin, binV, intB, x_mov, if_true, if_false, reduceCtorEq, Bool.false_eq_true, Int.reduceBEq, Int.reduceBNe, Int.reduceLT, Int.reduceLE, Int.reduceGT, Int.reduceGE, decide_true, decide_false, beq_self_eq_true, bne_self_eq_false, not_false_eq_true, h0, h1, h2, h3, h4, h5, h6, h7, h8]
      show Run T _ _ _ _
      refine Run.ret ⟨?_, rfl⟩
      exact congrArg V.bool (o7 h0 h8)
    · skip
      refine RunO.all ?_
      simp only [List.drop_zero, exOps_nil, exOps_cons, bindO_some, put_some, ev_t, ev_c, List.getD_cons_zero, List.getD_cons_succ, List.set_cons_zero, List.set_cons_succ, optB_some, mapQ_some, x_fbin, fbinV, x_mov, x_pick, if_true, if_false, Bool.false_eq_true, exOp_gt, exOp_gf, exOp_gf2, exOp_gs, h0, h1, h2, h3, h4, h5, h6, h7, h8]
      show Run T _ _ _ _
      refine Run.ite (by rfl) (fun h9 => ?_) (fun h9 => ?_)
      · skip
        refine Run.seq ?_
        refine Run.rgn ?_
        refine RunO.all ?_
        simp only [i4r20, exOps_nil, exOps_cons, bindO_some, put_some, ev_t, ev_c, List.getD_cons_zero, List.getD_cons_succ, List.set_cons_zero, List.set_cons_succ, optB_some, mapQ_some, x_bin, binV, intB, x_mov, if_true, if_false, reduceCtorEq, Bool.false_eq_true, Int.reduceBEq, Int.reduceBNe, Int.reduceLT, Int.reduceLE, Int.reduceGT, Int.reduceGE, decide_true, decide_false, beq_self_eq_true, bne_self_eq_false, not_false_eq_true, h0, h1, h2, h3, h4, h5, h6, h7, h8, h9]
        show Run T _ _ _ _
        refine Run.ret ⟨?_, rfl⟩
        exact congrArg V.bool (o8 h0 h8 h9)
      · skip
        refine Run.skip ?_
        show Run T _ _ _ _
        refine Run.seq ?_
        refine Run.seq ?_
        refine Run.rgn ?_
        refine RunO.all ?_
        simp only [i4r24, exOps_nil, exOps_cons, bindO_some, put_some, ev_t, ev_c, List.getD_cons_zero, List.getD_cons_succ, List.set_cons_zero, List.set_cons_succ, optB_some, mapQ_some, x_bin, binV, intB, x_cvt, x_mov, x_pick, if_true, if_false, Bool.false_eq_true, if_true, if_false, reduceCtorEq, Bool.false_eq_true, Int.reduceBEq, Int.reduceBNe, Int.reduceLT, Int.reduceLE, Int.reduceGT, Int.reduceGE, decide_true, decide_false, beq_self_eq_true, bne_self_eq_false, not_false_eq_true, exOp_gt, exOp_gf, exOp_gf2, exOp_gs, h0, h1, h2, h3, h4, h5, h6, h7, h8, h9]
        show Run T _ _ _ _
        refine Run.ite (by rfl) (fun h => by first | exact absurd h (by decide) | (simp only [h0, h1, h2, h3, h4, h5, h6, h7, h8, h9, reduceCtorEq, Bool.not_true, Bool.not_false, Bool.false_eq_true, Bool.true_eq_false] at h)) (fun _ => ?_)
        refine Run.skip ?_
        show Run T _ _ _ _
        refine Run.seq ?_
        refine Run.rgn ?_
        refine RunO.pre 7 ?_
        simp only [i4r29, List.take_succ_cons, List.take_zero, List.drop_succ_cons, List.drop_zero, exOps_nil, exOps_cons, bindO_some, put_some, ev_t, ev_c, List.getD_cons_zero, List.getD_cons_succ, List.set_cons_zero, List.set_cons_succ, optB_some, mapQ_some, x_bin, binV, intB, x_mov, if_true, if_false, reduceCtorEq, Bool.false_eq_true, Int.reduceBEq, Int.reduceBNe, Int.reduceLT, Int.reduceLE, Int.reduceGT, Int.reduceGE, decide_true, decide_false, beq_self_eq_true, bne_self_eq_false, not_false_eq_true, h0, h1, h2, h3, h4, h5, h6, h7, h8, h9]
        have h10 : ((IntKind.u64.wrap ((IntKind.u64.wrap ((f17 (13 : Int) (5 : Int) (f13 (5 : Int) x1) (f13 (5 : Int) x2)) + (f17 (15 : Int) (5 : Int) (f13 (5 : Int) x1) (f13 (5 : Int) x2)))) + (f17 (11 : Int) (5 : Int) (f13 (5 : Int) x1) (f13 (5 : Int) x2)))) == (1 : Int)) = true := o9 h0 h8 h9
        refine RunO.pre 7 ?_
        simp only [List.drop_zero, List.take_succ_cons, List.take_zero, List.drop_succ_cons, List.drop_zero, exOps_nil, exOps_cons, bindO_some, put_some, ev_t, ev_c, List.getD_cons_zero, List.getD_cons_succ, List.set_cons_zero, List.set_cons_succ, optB_some, mapQ_some, x_bin, binV, intB, x_mov, x_pick, if_true, if_false, Bool.false_eq_true, if_true, if_false, reduceCtorEq, Bool.false_eq_true, Int.reduceBEq, Int.reduceBNe, Int.reduceLT, Int.reduceLE, Int.reduceGT, Int.reduceGE, decide_true, decide_false, beq_self_eq_true, bne_self_eq_false, not_false_eq_true, exOp_gt, exOp_gf, exOp_gf2, exOp_gs, h0, h1, h2, h3, h4, h5, h6, h7, h8, h9, h10]
        have h11 : ((f17 (14 : Int) (5 : Int) (f13 (5 : Int) x1) (f13 (5 : Int) x2)) == (IntKind.u64.wrap ((f17 (13 : Int) (5 : Int) (f13 (5 : Int) x1) (f13 (5 : Int) x2)) + (f17 (11 : Int) (5 : Int) (f13 (5 : Int) x1) (f13 (5 : Int) x2))))) = true := o10 h0 h8 h9
        refine RunO.all ?_
        simp only [List.drop_zero, exOps_nil, exOps_cons, bindO_some, put_some, ev_t, ev_c, List.getD_cons_zero, List.getD_cons_succ, List.set_cons_zero, List.set_cons_succ, optB_some, mapQ_some, x_bin, binV, intB, x_mov, x_pick, if_true, if_false, Bool.false_eq_true, if_true, if_false, reduceCtorEq, Bool.false_eq_true, Int.reduceBEq, Int.reduceBNe, Int.reduceLT, Int.reduceLE, Int.reduceGT, Int.reduceGE, decide_true, decide_false, beq_self_eq_true, bne_self_eq_false, not_false_eq_true, exOp_gt, exOp_gf, exOp_gf2, exOp_gs, h0, h1, h2, h3, h4, h5, h6, h7, h8, h9, h10, h11]
        show Run T _ _ _ _
        refine Run.ret ⟨?_, rfl⟩
        exact congrArg V.bool (o11 h0 h8 h9)
  · skip
    refine Run.skip ?_
    show Run T _ _ _ _
    refine Run.seq ?_
    refine Run.rgn ?_
    refine RunO.pre 2 ?_
    simp only [i4r11, List.take_succ_cons, List.take_zero, List.drop_succ_cons, List.drop_zero, exOps_nil, exOps_cons, bindO_some, put_some, ev_t, ev_c, List.getD_cons_zero, List.getD_cons_succ, List.set_cons_zero, List.set_cons_succ, optB_some, mapQ_some, x_mov, h0]
    refine RunO.c (c13 (f16 x0) x1 _) ?_
    refine RunO.pre 2 ?_
    simp only [List.take_succ_cons, List.take_zero, List.drop_succ_cons, List.drop_zero, exOps_nil, exOps_cons, bindO_some, put_some, ev_t, ev_c, List.getD_cons_zero, List.getD_cons_succ, List.set_cons_zero, List.set_cons_succ, optB_some, mapQ_some, x_mov, h0]
    refine RunO.c (c13 (f16 x0) x2 _) ?_
    refine RunO.all ?_
    simp only [exOps_nil, exOps_cons, bindO_some, put_some, ev_t, ev_c, List.getD_cons_zero, List.getD_cons_succ, List.set_cons_zero, List.set_cons_succ, optB_some, mapQ_some, x_mov, h0]
    show Run T _ _ _ _
    refine Run.seq ?_
    refine Run.rgn ?_
    refine RunO.pre 3 ?_
    simp only [i4r12, List.take_succ_cons, List.take_zero, List.drop_succ_cons, List.drop_zero, exOps_nil, exOps_cons, bindO_some, put_some, ev_t, ev_c, List.getD_cons_zero, List.getD_cons_succ, List.set_cons_zero, List.set_cons_succ, optB_some, mapQ_some, x_mov, h0]
    refine RunO.c (c17 (13 : Int) (f16 x0) (f13 (f16 x0) x1) (f13 (f16 x0) x2) _) ?_
    refine RunO.pre 3 ?_
    simp only [List.take_succ_cons, List.take_zero, List.drop_succ_cons, List.drop_zero, exOps_nil, exOps_cons, bindO_some, put_some, ev_t, ev_c, List.getD_cons_zero, List.getD_cons_succ, List.set_cons_zero, List.set_cons_succ, optB_some, mapQ_some, x_mov, h0]
    refine RunO.c (c17 (14 : Int) (f16 x0) (f13 (f16 x0) x1) (f13 (f16 x0) x2) _) ?_
    refine RunO.pre 3 ?_
    simp only [List.take_succ_cons, List.take_zero, List.drop_succ_cons, List.drop_zero, exOps_nil, exOps_cons, bindO_some, put_some, ev_t, ev_c, List.getD_cons_zero, List.getD_cons_succ, List.set_cons_zero, List.set_cons_succ, optB_some, mapQ_some, x_mov, h0]
    refine RunO.c (c17 (15 : Int) (f16 x0) (f13 (f16 x0) x1) (f13 (f16 x0) x2) _) ?_
    refine RunO.pre 3 ?_
    simp only [List.take_succ_cons, List.take_zero, List.drop_succ_cons, List.drop_zero, exOps_nil, exOps_cons, bindO_some, put_some, ev_t, ev_c, List.getD_cons_zero, List.getD_cons_succ, List.set_cons_zero, List.set_cons_succ, optB_some, mapQ_some, x_mov, h0]
    refine RunO.c (c17 (16 : Int) (f16 x0) (f13 (f16 x0) x1) (f13 (f16 x0) x2) _) ?_
    refine RunO.pre 3 ?_
    simp only [List.take_succ_cons, List.take_zero, List.drop_succ_cons, List.drop_zero, exOps_nil, exOps_cons, bindO_some, put_some, ev_t, ev_c, List.getD_cons_zero, List.getD_cons_succ, List.set_cons_zero, List.set_cons_succ, optB_some, mapQ_some, x_mov, h0]
    refine RunO.c (c17 (11 : Int) (f16 x0) (f13 (f16 x0) x1) (f13 (f16 x0) x2) _) ?_
    refine RunO.pre 3 ?_
    simp only [List.take_succ_cons, List.take_zero, List.drop_succ_cons, List.drop_zero, exOps_nil, exOps_cons, bindO_some, put_some, ev_t, ev_c, List.getD_cons_zero, List.getD_cons_succ, List.set_cons_zero, List.set_cons_succ, optB_some, mapQ_some, x_mov, h0]
    refine RunO.c (c17 (12 : Int) (f16 x0) (f13 (f16 x0) x1) (f13 (f16 x0) x2) _) ?_
    refine RunO.all ?_
    simp only [exOps_nil, exOps_cons, bindO_some, put_some, ev_t, ev_c, List.getD_cons_zero, List.getD_cons_succ, List.set_cons_zero, List.set_cons_succ, optB_some, mapQ_some, x_mov, h0]
    show Run T _ _ _ _
    refine Run.seq ?_
    refine Run.seq ?_
    refine Run.rgn ?_
    refine RunO.pre 5 ?_
    simp only [i4r13, List.take_succ_cons, List.take_zero, List.drop_succ_cons, List.drop_zero, exOps_nil, exOps_cons, bindO_some, put_some, ev_t, ev_c, List.getD_cons_zero, List.getD_cons_succ, List.set_cons_zero, List.set_cons_succ, optB_some, mapQ_some, x_bin, binV, intB, x_mov, if_true, if_false, reduceCtorEq, Bool.false_eq_true, Int.reduceBEq, Int.reduceBNe, Int.reduceLT, Int.reduceLE, Int.reduceGT, Int.reduceGE, decide_true, decide_false, beq_self_eq_true, bne_self_eq_false, not_false_eq_true, h0]
    have h12 : ((IntKind.u64.wrap ((f17 (11 : Int) (f16 x0) (f13 (f16 x0) x1) (f13 (f16 x0) x2)) + (f17 (12 : Int) (f16 x0) (f13 (f16 x0) x1) (f13 (f16 x0) x2)))) != (1 : Int)) = false := o12 h0
    refine RunO.pre 4 ?_
    simp only [List.drop_zero, List.take_succ_cons, List.take_zero, List.drop_succ_cons, List.drop_zero, exOps_nil, exOps_cons, bindO_some, put_some, ev_t, ev_c, List.getD_cons_zero, List.getD_cons_succ, List.set_cons_zero, List.set_cons_succ, optB_some, mapQ_some, x_bin, binV, intB, x_mov, x_pick, if_true, if_false, Bool.false_eq_true, if_true, if_false, reduceCtorEq, Bool.false_eq_true, Int.reduceBEq, Int.reduceBNe, Int.reduceLT, Int.reduceLE, Int.reduceGT, Int.reduceGE, decide_true, decide_false, beq_self_eq_true, bne_self_eq_false, not_false_eq_true, exOp_gt, exOp_gf, exOp_gf2, exOp_gs, h0, h12]
    have h13 : (decide ((f17 (13 : Int) (f16 x0) (f13 (f16 x0) x1) (f13 (f16 x0) x2)) > (1 : Int))) = false := o13 h0
    refine RunO.pre 4 ?_
    simp only [List.drop_zero, List.take_succ_cons, List.take_zero, List.drop_succ_cons, List.drop_zero, exOps_nil, exOps_cons, bindO_some, put_some, ev_t, ev_c, List.getD_cons_zero, List.getD_cons_succ, List.set_cons_zero, List.set_cons_succ, optB_some, mapQ_some, x_bin, binV, intB, x_mov, x_pick, if_true, if_false, Bool.false_eq_true, if_true, if_false, reduceCtorEq, Bool.false_eq_true, Int.reduceBEq, Int.reduceBNe, Int.reduceLT, Int.reduceLE, Int.reduceGT, Int.reduceGE, decide_true, decide_false, beq_self_eq_true, bne_self_eq_false, not_false_eq_true, exOp_gt, exOp_gf, exOp_gf2, exOp_gs, h0, h12, h13]
    have h14 : (decide ((f17 (15 : Int) (f16 x0) (f13 (f16 x0) x1) (f13 (f16 x0) x2)) > (1 : Int))) = false := o14 h0
    refine RunO.pre 4 ?_
    simp only [List.drop_zero, List.take_succ_cons, List.take_zero, List.drop_succ_cons, List.drop_zero, exOps_nil, exOps_cons, bindO_some, put_some, ev_t, ev_c, List.getD_cons_zero, List.getD_cons_succ, List.set_cons_zero, List.set_cons_succ, optB_some, mapQ_some, x_bin, binV, intB, x_mov, x_pick, if_true, if_false, Bool.false_eq_true, if_true, if_false, reduceCtorEq, Bool.false_eq_true, Int.reduceBEq, Int.reduceBNe, Int.reduceLT, Int.reduceLE, Int.reduceGT, Int.reduceGE, decide_true, decide_false, beq_self_eq_true, bne_self_eq_false, not_false_eq_true, exOp_gt, exOp_gf, exOp_gf2, exOp_gs, h0, h12, h13, h14]
    have h15 : (decide ((f17 (14 : Int) (f16 x0) (f13 (f16 x0) x1) (f13 (f16 x0) x2)) > (1 : Int))) = false := o15 h0
    refine RunO.pre 4 ?_
    simp only [List.drop_zero, List.take_succ_cons, List.take_zero, List.drop_succ_cons, List.drop_zero, exOps_nil, exOps_cons, bindO_some, put_some, ev_t, ev_c, List.getD_cons_zero, List.getD_cons_succ, List.set_cons_zero, List.set_cons_succ, optB_some, mapQ_some, x_bin, binV, intB, x_mov, x_pick, if_true, if_false, Bool.false_eq_true, if_true, if_false, reduceCtorEq, Bool.false_eq_true, Int.reduceBEq, Int.reduceBNe, Int.reduceLT, Int.reduceLE, Int.reduceGT, Int.reduceGE, decide_true, decide_false, beq_self_eq_true, bne_self_eq_false, not_false_eq_true, exOp_gt, exOp_gf, exOp_gf2, exOp_gs, h0, h12, h13, h14, h15]
    have h16 : (decide ((f17 (16 : Int) (f16 x0) (f13 (f16 x0) x1) (f13 (f16 x0) x2)) > (1 : Int))) = false := o16 h0
    refine RunO.pre 3 ?_
    simp only [List.drop_zero, List.take_succ_cons, List.take_zero, List.drop_succ_cons, List.drop_zero, exOps_nil, exOps_cons, bindO_some, put_some, ev_t, ev_c, List.getD_cons_zero, List.getD_cons_succ, List.set_cons_zero, List.set_cons_succ, optB_some, mapQ_some, x_mov, exOp_gt, exOp_gf, exOp_gf2, exOp_gs, h0, h12, h13, h14, h15, h16]
    refine RunO.cg (by rfl) (c17 (13 : Int) (f16 x0) (f13 (f16 x0) x2) (f13 (f16 x0) x1) _) ?_
    refine RunO.pre 4 ?_
    simp only [List.take_succ_cons, List.take_zero, List.drop_succ_cons, List.drop_zero, exOps_nil, exOps_cons, bindO_some, put_some, ev_t, ev_c, List.getD_cons_zero, List.getD_cons_succ, List.set_cons_zero, List.set_cons_succ, optB_some, mapQ_some, x_bin, binV, intB, x_mov, x_pick, if_true, if_false, Bool.false_eq_true, if_true, if_false, reduceCtorEq, Bool.false_eq_true, Int.reduceBEq, Int.reduceBNe, Int.reduceLT, Int.reduceLE, Int.reduceGT, Int.reduceGE, decide_true, decide_false, beq_self_eq_true, bne_self_eq_false, not_false_eq_true, exOp_gt, exOp_gf, exOp_gf2, exOp_gs, h0, h12, h13, h14, h15, h16]
    have h17 : ((f17 (13 : Int) (f16 x0) (f13 (f16 x0) x2) (f13 (f16 x0) x1)) != (f17 (15 : Int) (f16 x0) (f13 (f16 x0) x1) (f13 (f16 x0) x2))) = false := o17 h0
    refine RunO.pre 3 ?_
    simp only [List.drop_zero, List.take_succ_cons, List.take_zero, List.drop_succ_cons, List.drop_zero, exOps_nil, exOps_cons, bindO_some, put_some, ev_t, ev_c, List.getD_cons_zero, List.getD_cons_succ, List.set_cons_zero, List.set_cons_succ, optB_some, mapQ_some, x_mov, exOp_gt, exOp_gf, exOp_gf2, exOp_gs, h0, h12, h13, h14, h15, h16, h17]
    refine RunO.cg (by rfl) (c17 (16 : Int) (f16 x0) (f13 (f16 x0) x2) (f13 (f16 x0) x1) _) ?_
    refine RunO.all ?_
    simp only [exOps_nil, exOps_cons, bindO_some, put_some, ev_t, ev_c, List.getD_cons_zero, List.getD_cons_succ, List.set_cons_zero, List.set_cons_succ, optB_some, mapQ_some, x_bin, binV, intB, x_mov, x_pick, if_true, if_false, Bool.false_eq_true, if_true, if_false, reduceCtorEq, Bool.false_eq_true, Int.reduceBEq, Int.reduceBNe, Int.reduceLT, Int.reduceLE, Int.reduceGT, Int.reduceGE, decide_true, decide_false, beq_self_eq_true, bne_self_eq_false, not_false_eq_true, exOp_gt, exOp_gf, exOp_gf2, exOp_gs, h0, h12, h13, h14, h15, h16, h17]
    show Run T _ _ _ _
    have h18 : ((f17 (16 : Int) (f16 x0) (f13 (f16 x0) x2) (f13 (f16 x0) x1)) != (f17 (14 : Int) (f16 x0) (f13 (f16 x0) x1) (f13 (f16 x0) x2))) = false := o18 h0
    refine Run.ite (by rfl) (fun h => by rw [h18] at h; cases h) (fun _ => ?_)
    refine Run.skip ?_
    show Run T _ _ _ _
    refine Run.seq ?_
    refine Run.rgn ?_
    refine RunO.all ?_
    simp only [i4r18, exOps_nil, exOps_cons, bindO_some, put_some, ev_t, ev_c, List.getD_cons_zero, List.getD_cons_succ, List.set_cons_zero, List.set_cons_succ, optB_some, mapQ_some, x_mov, x_xc, xc_word, xc_from, xc_trunc, wordV_some, h0, h12, h13, h14, h15, h16, h17, h18]
    show Run T _ _ _ _
    refine Run.seq ?_
    refine Run.seq ?_
    refine Run.rgn ?_
    refine RunO.pre 3 ?_
    simp only [i4r19, List.take_succ_cons, List.take_zero, List.drop_succ_cons, List.drop_zero, exOps_nil, exOps_cons, bindO_some, put_some, ev_t, ev_c, List.getD_cons_zero, List.getD_cons_succ, List.set_cons_zero, List.set_cons_succ, optB_some, mapQ_some, x_bin, binV, intB, x_mov, if_true, if_false, reduceCtorEq, Bool.false_eq_true, Int.reduceBEq, Int.reduceBNe, Int.reduceLT, Int.reduceLE, Int.reduceGT, Int.reduceGE, decide_true, decide_false, beq_self_eq_true, bne_self_eq_false, not_false_eq_true, h0, h12, h13, h14, h15, h16, h17, h18]
    rcases Bool.eq_false_or_eq_true ((f16 x0) == (5 : Int)) with h19 | h19
    · skip
      refine RunO.pre 4 ?_
      simp only [List.drop_zero, List.take_succ_cons, List.take_zero, List.drop_succ_cons, List.drop_zero, exOps_nil, exOps_cons, bindO_some, put_some, ev_t, ev_c, List.getD_cons_zero, List.getD_cons_succ, List.set_cons_zero, List.set_cons_succ, optB_some, mapQ_some, x_fbin, fbinV, x_mov, exOp_gt, exOp_gf, exOp_gf2, exOp_gs, h0, h12, h13, h14, h15, h16, h17, h18, h19]
      rcases Bool.eq_false_or_eq_true (flO (some (f13 (f16 x0) x1).toNat) (some (f13 (f16 x0) x1).toNat) != some .eq) with h20 | h20
      · skip
        refine RunO.all ?_
        simp only [List.drop_zero, exOps_nil, exOps_cons, bindO_some, put_some, ev_t, ev_c, List.getD_cons_zero, List.getD_cons_succ, List.set_cons_zero, List.set_cons_succ, optB_some, mapQ_some, x_fbin, fbinV, x_mov, x_pick, if_true, if_false, Bool.false_eq_true, exOp_gt, exOp_gf, exOp_gf2, exOp_gs, h0, h12, h13, h14, h15, h16, h17, h18, h19, h20]
        show Run T _ _ _ _
        refine Run.ite (by rfl) (fun _ => ?_) (fun h => by first | exact absurd h (by decide) | (simp only [h0, h12, h13, h14, h15, h16, h17, h18, h19, h20, reduceCtorEq, Bool.not_true, Bool.not_false, Bool.false_eq_true, Bool.true_eq_false] at h))
        refine Run.seq ?_
        refine Run.rgn ?_
        refine RunO.all ?_
        simp only [i4r20, exOps_nil, exOps_cons, bindO_some, put_some, ev_t, ev_c, List.getD_cons_zero, List.getD_cons_succ, List.set_cons_zero, List.set_cons_succ, optB_some, mapQ_some, x_bin, binV, intB, x_mov, if_true, if_false, reduceCtorEq, Bool.false_eq_true, Int.reduceBEq, Int.reduceBNe, Int.reduceLT, Int.reduceLE, Int.reduceGT, Int.reduceGE, decide_true, decide_false, beq_self_eq_true, bne_self_eq_false, not_false_eq_true, h0, h12, h13, h14, h15, h16, h17, h18, h19, h20]
        show Run T _ _ _ _
        refine Run.ret ⟨?_, rfl⟩
        exact congrArg V.bool (o19 h0 h19 h20)
      · skip
        refine RunO.all ?_
        simp only [List.drop_zero, exOps_nil, exOps_cons, bindO_some, put_some, ev_t, ev_c, List.getD_cons_zero, List.getD_cons_succ, List.set_cons_zero, List.set_cons_succ, optB_some, mapQ_some, x_fbin, fbinV, x_mov, x_pick, if_true, if_false, Bool.false_eq_true, exOp_gt, exOp_gf, exOp_gf2, exOp_gs, h0, h12, h13, h14, h15, h16, h17, h18, h19, h20]
        show Run T _ _ _ _
        refine Run.ite (by rfl) (fun h21 => ?_) (fun h21 => ?_)
        · skip
          refine Run.seq ?_
          refine Run.rgn ?_
          refine RunO.all ?_
          simp only [i4r20, exOps_nil, exOps_cons, bindO_some, put_some, ev_t, ev_c, List.getD_cons_zero, List.getD_cons_succ, List.set_cons_zero, List.set_cons_succ, optB_some, mapQ_some, x_bin, binV, intB, x_mov, if_true, if_false, reduceCtorEq, Bool.false_eq_true, Int.reduceBEq, Int.reduceBNe, Int.reduceLT, Int.reduceLE, Int.reduceGT, Int.reduceGE, decide_true, decide_false, beq_self_eq_true, bne_self_eq_false, not_false_eq_true, h0, h12, h13, h14, h15, h16, h17, h18, h19, h20, h21]
          show Run T _ _ _ _
          refine Run.ret ⟨?_, rfl⟩
          exact congrArg V.bool (o20 h0 h19 h20 h21)
        · skip
          refine Run.skip ?_
          show Run T _ _ _ _
          refine Run.seq ?_
          refine Run.seq ?_
          refine Run.rgn ?_
          refine RunO.pre 3 ?_
          simp only [i4r24, List.take_succ_cons, List.take_zero, List.drop_succ_cons, List.drop_zero, exOps_nil, exOps_cons, bindO_some, put_some, ev_t, ev_c, List.getD_cons_zero, List.getD_cons_succ, List.set_cons_zero, List.set_cons_succ, optB_some, mapQ_some, x_bin, binV, intB, x_mov, if_true, if_false, reduceCtorEq, Bool.false_eq_true, Int.reduceBEq, Int.reduceBNe, Int.reduceLT, Int.reduceLE, Int.reduceGT, Int.reduceGE, decide_true, decide_false, beq_self_eq_true, bne_self_eq_false, not_false_eq_true, h0, h12, h13, h14, h15, h16, h17, h18, h19, h20, h21]
          rcases Bool.eq_false_or_eq_true ((f16 x0) != (5 : Int)) with h22 | h22
          · skip
            refine RunO.all ?_
            simp only [List.drop_zero, exOps_nil, exOps_cons, bindO_some, put_some, ev_t, ev_c, List.getD_cons_zero, List.getD_cons_succ, List.set_cons_zero, List.set_cons_succ, optB_some, mapQ_some, x_bin, binV, intB, x_cvt, x_mov, x_pick, if_true, if_false, Bool.false_eq_true, if_true, if_false, reduceCtorEq, Bool.false_eq_true, Int.reduceBEq, Int.reduceBNe, Int.reduceLT, Int.reduceLE, Int.reduceGT, Int.reduceGE, decide_true, decide_false, beq_self_eq_true, bne_self_eq_false, not_false_eq_true, exOp_gt, exOp_gf, exOp_gf2, exOp_gs, h0, h12, h13, h14, h15, h16, h17, h18, h19, h20, h21, h22]
            show Run T _ _ _ _
            have h23 : (!(((f17 (13 : Int) (f16 x0) (f13 (f16 x0) x1) (f13 (f16 x0) x2)) == (1 : Int)) == (decide ((IntKind.i64.wrap (f13 (f16 x0) x1)) < (IntKind.i64.wrap (f13 (f16 x0) x2)))))) = false := o21 h0 h19 h20 h21 h22
            refine Run.ite (by rfl) (fun h => by rw [h23] at h; cases h) (fun _ => ?_)
            refine Run.skip ?_
            show Run T _ _ _ _
            refine Run.seq ?_
            refine Run.rgn ?_
            refine RunO.pre 7 ?_
            simp only [i4r29, List.take_succ_cons, List.take_zero, List.drop_succ_cons, List.drop_zero, exOps_nil, exOps_cons, bindO_some, put_some, ev_t, ev_c, List.getD_cons_zero, List.getD_cons_succ, List.set_cons_zero, List.set_cons_succ, optB_some, mapQ_some, x_bin, binV, intB, x_mov, if_true, if_false, reduceCtorEq, Bool.false_eq_true, Int.reduceBEq, Int.reduceBNe, Int.reduceLT, Int.reduceLE, Int.reduceGT, Int.reduceGE, decide_true, decide_false, beq_self_eq_true, bne_self_eq_false, not_false_eq_true, h0, h12, h13, h14, h15, h16, h17, h18, h19, h20, h21, h22, h23]
            have h24 : ((IntKind.u64.wrap ((IntKind.u64.wrap ((f17 (13 : Int) (f16 x0) (f13 (f16 x0) x1) (f13 (f16 x0) x2)) + (f17 (15 : Int) (f16 x0) (f13 (f16 x0) x1) (f13 (f16 x0) x2)))) + (f17 (11 : Int) (f16 x0) (f13 (f16 x0) x1) (f13 (f16 x0) x2)))) == (1 : Int)) = true := o22 h0 h19 h20 h21 h22
            refine RunO.pre 7 ?_
            simp only [List.drop_zero, List.take_succ_cons, List.take_zero, List.drop_succ_cons, List.drop_zero, exOps_nil, exOps_cons, bindO_some, put_some, ev_t, ev_c, List.getD_cons_zero, List.getD_cons_succ, List.set_cons_zero, List.set_cons_succ, optB_some, mapQ_some, x_bin, binV, intB, x_mov, x_pick, if_true, if_false, Bool.false_eq_true, if_true, if_false, reduceCtorEq, Bool.false_eq_true, Int.reduceBEq, Int.reduceBNe, Int.reduceLT, Int.reduceLE, Int.reduceGT, Int.reduceGE, decide_true, decide_false, beq_self_eq_true, bne_self_eq_false, not_false_eq_true, exOp_gt, exOp_gf, exOp_gf2, exOp_gs, h0, h12, h13, h14, h15, h16, h17, h18, h19, h20, h21, h22, h23, h24]
            have h25 : ((f17 (14 : Int) (f16 x0) (f13 (f16 x0) x1) (f13 (f16 x0) x2)) == (IntKind.u64.wrap ((f17 (13 : Int) (f16 x0) (f13 (f16 x0) x1) (f13 (f16 x0) x2)) + (f17 (11 : Int) (f16 x0) (f13 (f16 x0) x1) (f13 (f16 x0) x2))))) = true := o23 h0 h19 h20 h21 h22
            refine RunO.all ?_
            simp only [List.drop_zero, exOps_nil, exOps_cons, bindO_some, put_some, ev_t, ev_c, List.getD_cons_zero, List.getD_cons_succ, List.set_cons_zero, List.set_cons_succ, optB_some, mapQ_some, x_bin, binV, intB, x_mov, x_pick, if_true, if_false, Bool.false_eq_true, if_true, if_false, reduceCtorEq, Bool.false_eq_true, Int.reduceBEq, Int.reduceBNe, Int.reduceLT, Int.reduceLE, Int.reduceGT, Int.reduceGE, decide_true, decide_false, beq_self_eq_true, bne_self_eq_false, not_false_eq_true, exOp_gt, exOp_gf, exOp_gf2, exOp_gs, h0, h12, h13, h14, h15, h16, h17, h18, h19, h20, h21, h22, h23, h24, h25]
            show Run T _ _ _ _
            refine Run.ret ⟨?_, rfl⟩
            exact congrArg V.bool (o24 h0 h19 h20 h21 h22)
          · skip
            refine RunO.all ?_
            simp only [List.drop_zero, exOps_nil, exOps_cons, bindO_some, put_some, ev_t, ev_c, List.getD_cons_zero, List.getD_cons_succ, List.set_cons_zero, List.set_cons_succ, optB_some, mapQ_some, x_bin, binV, intB, x_cvt, x_mov, x_pick, if_true, if_false, Bool.false_eq_true, if_true, if_false, reduceCtorEq, Bool.false_eq_true, Int.reduceBEq, Int.reduceBNe, Int.reduceLT, Int.reduceLE, Int.reduceGT, Int.reduceGE, decide_true, decide_false, beq_self_eq_true, bne_self_eq_false, not_false_eq_true, exOp_gt, exOp_gf, exOp_gf2, exOp_gs, h0, h12, h13, h14, h15, h16, h17, h18, h19, h20, h21, h22]
            show Run T _ _ _ _
            refine Run.ite (by rfl) (fun h => by first | exact absurd h (by decide) | (simp only [h0, h12, h13, h14, h15, h16, h17, h18, h19, h20, h21, h22, reduceCtorEq, Bool.not_true, Bool.not_false, Bool.false_eq_true, Bool.true_eq_false] at h)) (fun _ => ?_)
            refine Run.skip ?_
            show Run T _ _ _ _
            refine Run.seq ?_
            refine Run.rgn ?_
            refine RunO.pre 7 ?_
            simp only [i4r29, List.take_succ_cons, List.take_zero, List.drop_succ_cons, List.drop_zero, exOps_nil, exOps_cons, bindO_some, put_some, ev_t, ev_c, List.getD_cons_zero, List.getD_cons_succ, List.set_cons_zero, List.set_cons_succ, optB_some, mapQ_some, x_bin, binV, intB, x_mov, if_true, if_false, reduceCtorEq, Bool.false_eq_true, Int.reduceBEq, Int.reduceBNe, Int.reduceLT, Int.reduceLE, Int.reduceGT, Int.reduceGE, decide_true, decide_false, beq_self_eq_true, bne_self_eq_false, not_false_eq_true, h0, h12, h13, h14, h15, h16, h17, h18, h19, h20, h21, h22]
            have h26 : ((IntKind.u64.wrap ((IntKind.u64.wrap ((f17 (13 : Int) (f16 x0) (f13 (f16 x0) x1) (f13 (f16 x0) x2)) + (f17 (15 : Int) (f16 x0) (f13 (f16 x0) x1) (f13 (f16 x0) x2)))) + (f17 (11 : Int) (f16 x0) (f13 (f16 x0) x1) (f13 (f16 x0) x2)))) == (1 : Int)) = true := o25 h0 h19 h20 h21 h22
            refine RunO.pre 7 ?_
            simp only [List.drop_zero, List.take_succ_cons, List.take_zero, List.drop_succ_cons, List.drop_zero, exOps_nil, exOps_cons, bindO_some, put_some, ev_t, ev_c, List.getD_cons_zero, List.getD_cons_succ, List.set_cons_zero, List.set_cons_succ, optB_some, mapQ_some, x_bin, binV, intB, x_mov, x_pick, if_true, if_false, Bool.false_eq_true, if_true, if_false, reduceCtorEq, Bool.false_eq_true, Int.reduceBEq, Int.reduceBNe, Int.reduceLT, Int.reduceLE, Int.reduceGT, Int.reduceGE, decide_true, decide_false, beq_self_eq_true, bne_self_eq_false, not_false_eq_true, exOp_gt, exOp_gf, exOp_gf2, exOp_gs, h0, h12, h13, h14, h15, h16, h17, h18, h19, h20, h21, h22, h26]
            have h27 : ((f17 (14 : Int) (f16 x0) (f13 (f16 x0) x1) (f13 (f16 x0) x2)) == (IntKind.u64.wrap ((f17 (13 : Int) (f16 x0) (f13 (f16 x0) x1) (f13 (f16 x0) x2)) + (f17 (11 : Int) (f16 x0) (f13 (f16 x0) x1) (f13 (f16 x0) x2))))) = true := o26 h0 h19 h20 h21 h22
            refine RunO.all ?_
            simp only [List.drop_zero, exOps_nil, exOps_cons, bindO_some, put_some, ev_t, ev_c, List.getD_cons_zero, List.getD_cons_succ, List.set_cons_zero, List.set_cons_succ, optB_some, mapQ_some, x_bin, binV, intB, x_mov, x_pick, if_true, if_false, Bool.false_eq_true, if_true, if_false, reduceCtorEq, Bool.false_eq_true, Int.reduceBEq, Int.reduceBNe, Int.reduceLT, Int.reduceLE, Int.reduceGT, Int.reduceGE, decide_true, decide_false, beq_self_eq_true, bne_self_eq_false, not_false_eq_true, exOp_gt, exOp_gf, exOp_gf2, exOp_gs, h0, h12, h13, h14, h15, h16, h17, h18, h19, h20, h21, h22, h26, h27]
            show Run T _ _ _ _
            refine Run.ret ⟨?_, rfl⟩
            exact congrArg V.bool (o27 h0 h19 h20 h21 h22)
    · skip
      refine RunO.all ?_
      simp only [List.drop_zero, exOps_nil, exOps_cons, bindO_some, put_some, ev_t, ev_c, List.getD_cons_zero, List.getD_cons_succ, List.set_cons_zero, List.set_cons_succ, optB_some, mapQ_some, x_fbin, fbinV, x_mov, x_pick, if_true, if_false, Bool.false_eq_true, exOp_gt, exOp_gf, exOp_gf2, exOp_gs, h0, h12, h13, h14, h15, h16, h17, h18, h19]
      show Run T _ _ _ _
      refine Run.ite (by rfl) (fun h => by first | exact absurd h (by decide) | (simp only [h0, h12, h13, h14, h15, h16, h17, h18, h19, reduceCtorEq, Bool.not_true, Bool.not_false, Bool.false_eq_true, Bool.true_eq_false] at h)) (fun _ => ?_)
      refine Run.skip ?_
      show Run T _ _ _ _
      refine Run.seq ?_
      refine Run.seq ?_
      refine Run.rgn ?_
      refine RunO.pre 3 ?_
      simp only [i4r24, List.take_succ_cons, List.take_zero, List.drop_succ_cons, List.drop_zero, exOps_nil, exOps_cons, bindO_some, put_some, ev_t, ev_c, List.getD_cons_zero, List.getD_cons_succ, List.set_cons_zero, List.set_cons_succ, optB_some, mapQ_some, x_bin, binV, intB, x_mov, if_true, if_false, reduceCtorEq, Bool.false_eq_true, Int.reduceBEq, Int.reduceBNe, Int.reduceLT, Int.reduceLE, Int.reduceGT, Int.reduceGE, decide_true, decide_false, beq_self_eq_true, bne_self_eq_false, not_false_eq_true, h0, h12, h13, h14, h15, h16, h17, h18, h19]
      rcases Bool.eq_false_or_eq_true ((f16 x0) != (5 : Int)) with h28 | h28
      · skip
        refine RunO.all ?_
        simp only [List.drop_zero, exOps_nil, exOps_cons, bindO_some, put_some, ev_t, ev_c, List.getD_cons_zero, List.getD_cons_succ, List.set_cons_zero, List.set_cons_succ, optB_some, mapQ_some, x_bin, binV, intB, x_cvt, x_mov, x_pick, if_true, if_false, Bool.false_eq_true, if_true, if_false, reduceCtorEq, Bool.false_eq_true, Int.reduceBEq, Int.reduceBNe, Int.reduceLT, Int.reduceLE, Int.reduceGT, Int.reduceGE, decide_true, decide_false, beq_self_eq_true, bne_self_eq_false, not_false_eq_true, exOp_gt, exOp_gf, exOp_gf2, exOp_gs, h0, h12, h13, h14, h15, h16, h17, h18, h19, h28]
        show Run T _ _ _ _
        have h29 : (!(((f17 (13 : Int) (f16 x0) (f13 (f16 x0) x1) (f13 (f16 x0) x2)) == (1 : Int)) == (decide ((IntKind.i64.wrap (f13 (f16 x0) x1)) < (IntKind.i64.wrap (f13 (f16 x0) x2)))))) = false := o28 h0 h19 h28
        refine Run.ite (by rfl) (fun h => by rw [h29] at h; cases h) (fun _ => ?_)
        refine Run.skip ?_
        show Run T _ _ _ _
        refine Run.seq ?_
        refine Run.rgn ?_
        refine RunO.pre 7 ?_
        simp only [i4r29, List.take_succ_cons, List.take_zero, List.drop_succ_cons, List.drop_zero, exOps_nil, exOps_cons, bindO_some, put_some, ev_t, ev_c, List.getD_cons_zero, List.getD_cons_succ, List.set_cons_zero, List.set_cons_succ, optB_some, mapQ_some, x_bin, binV, intB, x_mov, if_true, if_false, reduceCtorEq, Bool.false_eq_true, Int.reduceBEq, Int.reduceBNe, Int.reduceLT, Int.reduceLE, Int.reduceGT, Int.reduceGE, decide_true, decide_false, beq_self_eq_true, bne_self_eq_false, not_false_eq_true, h0, h12, h13, h14, h15, h16, h17, h18, h19, h28, h29]
        have h30 : ((IntKind.u64.wrap ((IntKind.u64.wrap ((f17 (13 : Int) (f16 x0) (f13 (f16 x0) x1) (f13 (f16 x0) x2)) + (f17 (15 : Int) (f16 x0) (f13 (f16 x0) x1) (f13 (f16 x0) x2)))) + (f17 (11 : Int) (f16 x0) (f13 (f16 x0) x1) (f13 (f16 x0) x2)))) == (1 : Int)) = true := o29 h0 h19 h28
        refine RunO.pre 7 ?_
        simp only [List.drop_zero, List.take_succ_cons, List.take_zero, List.drop_succ_cons, List.drop_zero, exOps_nil, exOps_cons, bindO_some, put_some, ev_t, ev_c, List.getD_cons_zero, List.getD_cons_succ, List.set_cons_zero, List.set_cons_succ, optB_some, mapQ_some, x_bin, binV, intB, x_mov, x_pick, if_true, if_false, Bool.false_eq_true, if_true, if_false, reduceCtorEq, Bool.false_eq_true, Int.reduceBEq, Int.reduceBNe, Int.reduceLT, Int.reduceLE, Int.reduceGT, Int.reduceGE, decide_true, decide_false, beq_self_eq_true, bne_self_eq_false, not_false_eq_true, exOp_gt, exOp_gf, exOp_gf2, exOp_gs, h0, h12, h13, h14, h15, h16, h17, h18, h19, h28, h29, h30]
        have h31 : ((f17 (14 : Int) (f16 x0) (f13 (f16 x0) x1) (f13 (f16 x0) x2)) == (IntKind.u64.wrap ((f17 (13 : Int) (f16 x0) (f13 (f16 x0) x1) (f13 (f16 x0) x2)) + (f17 (11 : Int) (f16 x0) (f13 (f16 x0) x1) (f13 (f16 x0) x2))))) = true := o30 h0 h19 h28
        refine RunO.all ?_
        simp only [List.drop_zero, exOps_nil, exOps_cons, bindO_some, put_some, ev_t, ev_c, List.getD_cons_zero, List.getD_cons_succ, List.set_cons_zero, List.set_cons_succ, optB_some, mapQ_some, x_bin, binV, intB, x_mov, x_pick, if_true, if_false, Bool.false_eq_true, if_true, if_false, reduceCtorEq, Bool.false_eq_true, Int.reduceBEq, Int.reduceBNe, Int.reduceLT, Int.reduceLE, Int.reduceGT, Int.reduceGE, decide_true, decide_false, beq_self_eq_true, bne_self_eq_false, not_false_eq_true, exOp_gt, exOp_gf, exOp_gf2, exOp_gs, h0, h12, h13, h14, h15, h16, h17, h18, h19, h28, h29, h30, h31]
        show Run T _ _ _ _
        refine Run.ret ⟨?_, rfl⟩
        exact congrArg V.bool (o31 h0 h19 h28)
      · skip
        refine RunO.all ?_
        simp only [List.drop_zero, exOps_nil, exOps_cons, bindO_some, put_some, ev_t, ev_c, List.getD_cons_zero, List.getD_cons_succ, List.set_cons_zero, List.set_cons_succ, optB_some, mapQ_some, x_bin, binV, intB, x_cvt, x_mov, x_pick, if_true, if_false, Bool.false_eq_true, if_true, if_false, reduceCtorEq, Bool.false_eq_true, Int.reduceBEq, Int.reduceBNe, Int.reduceLT, Int.reduceLE, Int.reduceGT, Int.reduceGE, decide_true, decide_false, beq_self_eq_true, bne_self_eq_false, not_false_eq_true, exOp_gt, exOp_gf, exOp_gf2, exOp_gs, h0, h12, h13, h14, h15, h16, h17, h18, h19, h28]
        show Run T _ _ _ _
        refine Run.ite (by rfl) (fun h => by first | exact absurd h (by decide) | (simp only [h0, h12, h13, h14, h15, h16, h17, h18, h19, h28, reduceCtorEq, Bool.not_true, Bool.not_false, Bool.false_eq_true, Bool.true_eq_false] at h)) (fun _ => ?_)
        refine Run.skip ?_
        show Run T _ _ _ _
        refine Run.seq ?_
        refine Run.rgn ?_
        refine RunO.pre 7 ?_
        simp only [i4r29, List.take_succ_cons, List.take_zero, List.drop_succ_cons, List.drop_zero, exOps_nil, exOps_cons, bindO_some, put_some, ev_t, ev_c, List.getD_cons_zero, List.getD_cons_succ, List.set_cons_zero, List.set_cons_succ, optB_some, mapQ_some, x_bin, binV, intB, x_mov, if_true, if_false, reduceCtorEq, Bool.false_eq_true, Int.reduceBEq, Int.reduceBNe, Int.reduceLT, Int.reduceLE, Int.reduceGT, Int.reduceGE, decide_true, decide_false, beq_self_eq_true, bne_self_eq_false, not_false_eq_true, h0, h12, h13, h14, h15, h16, h17, h18, h19, h28]
        have h32 : ((IntKind.u64.wrap ((IntKind.u64.wrap ((f17 (13 : Int) (f16 x0) (f13 (f16 x0) x1) (f13 (f16 x0) x2)) + (f17 (15 : Int) (f16 x0) (f13 (f16 x0) x1) (f13 (f16 x0) x2)))) + (f17 (11 : Int) (f16 x0) (f13 (f16 x0) x1) (f13 (f16 x0) x2)))) == (1 : Int)) = true := o32 h0 h19 h28
        refine RunO.pre 7 ?_
        simp only [List.drop_zero, List.take_succ_cons, List.take_zero, List.drop_succ_cons, List.drop_zero, exOps_nil, exOps_cons, bindO_some, put_some, ev_t, ev_c, List.getD_cons_zero, List.getD_cons_succ, List.set_cons_zero, List.set_cons_succ, optB_some, mapQ_some, x_bin, binV, intB, x_mov, x_pick, if_true, if_false, Bool.false_eq_true, if_true, if_false, reduceCtorEq, Bool.false_eq_true, Int.reduceBEq, Int.reduceBNe, Int.reduceLT, Int.reduceLE, Int.reduceGT, Int.reduceGE, decide_true, decide_false, beq_self_eq_true, bne_self_eq_false, not_false_eq_true, exOp_gt, exOp_gf, exOp_gf2, exOp_gs, h0, h12, h13, h14, h15, h16, h17, h18, h19, h28, h32]
        have h33 : ((f17 (14 : Int) (f16 x0) (f13 (f16 x0) x1) (f13 (f16 x0) x2)) == (IntKind.u64.wrap ((f17 (13 : Int) (f16 x0) (f13 (f16 x0) x1) (f13 (f16 x0) x2)) + (f17 (11 : Int) (f16 x0) (f13 (f16 x0) x1) (f13 (f16 x0) x2))))) = true := o33 h0 h19 h28
        refine RunO.all ?_
        simp only [List.drop_zero, exOps_nil, exOps_cons, bindO_some, put_some, ev_t, ev_c, List.getD_cons_zero, List.getD_cons_succ, List.set_cons_zero, List.set_cons_succ, optB_some, mapQ_some, x_bin, binV, intB, x_mov, x_pick, if_true, if_false, Bool.false_eq_true, if_true, if_false, reduceCtorEq, Bool.false_eq_true, Int.reduceBEq, Int.reduceBNe, Int.reduceLT, Int.reduceLE, Int.reduceGT, Int.reduceGE, decide_true, decide_false, beq_self_eq_true, bne_self_eq_false, not_false_eq_true, exOp_gt, exOp_gf, exOp_gf2, exOp_gs, h0, h12, h13, h14, h15, h16, h17, h18, h19, h28, h32, h33]
        show Run T _ _ _ _
        refine Run.ret ⟨?_, rfl⟩
        exact congrArg V.bool (o34 h0 h19 h28)

end Go.Eng.Sca
