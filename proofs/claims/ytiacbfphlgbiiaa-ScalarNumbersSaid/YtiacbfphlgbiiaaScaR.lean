/- Functions of this seat, each with a plain function that gives the same answers (lines written by a program of this session's; no condition beyond those stated). -/
import Derived.Test.YtiacbfphlgbiiaaScaQM
import Derived.Test.YtiacbfphlgbiiaaScaJ
import Derived.Test.YtiacbfphlgbiiaaScaH
namespace Go.Eng.Sca
open Go Go.Eng
set_option linter.unusedVariables false
set_option linter.unusedSimpArgs false
set_option maxRecDepth 20000
set_option maxHeartbeats 4000000

/- smithy/smithyref01.near -/
def f48 (x0 : Int) : Int :=
if ((f60 x0).1 == (0 : Int)) then
  (0 : Int)
else
  if (decide ((IntKind.i64.wrap ((f32 (f60 x0).1) - (53 : Int))) > (0 : Int))) then
    if (decide (((f60 x0).1.tmod (IntKind.u64.wrap ((1 : Int) * 2 ^ (min (IntKind.u64.wrap (IntKind.i64.wrap ((f32 (f60 x0).1) - (53 : Int)))).toNat IntKind.u64.bits)))) > (IntKind.u64.wrap ((1 : Int) * 2 ^ (min (IntKind.u64.wrap (IntKind.i64.wrap ((IntKind.i64.wrap ((f32 (f60 x0).1) - (53 : Int))) - (1 : Int)))).toNat IntKind.u64.bits))))) then
      if (f60 x0).2 then
        ((((ldN (IntKind.u64.wrap (((f60 x0).1.fdiv (2 ^ (min (IntKind.u64.wrap (IntKind.i64.wrap ((f32 (f60 x0).1) - (53 : Int)))).toNat IntKind.u64.bits))) + (1 : Int))) (IntKind.i64.wrap ((f32 (f60 x0).1) - (53 : Int)))) ^^^ 9223372036854775808) : Nat) : Int)
      else
        (((ldN (IntKind.u64.wrap (((f60 x0).1.fdiv (2 ^ (min (IntKind.u64.wrap (IntKind.i64.wrap ((f32 (f60 x0).1) - (53 : Int)))).toNat IntKind.u64.bits))) + (1 : Int))) (IntKind.i64.wrap ((f32 (f60 x0).1) - (53 : Int)))) : Nat) : Int)
    else
      if (((f60 x0).1.tmod (IntKind.u64.wrap ((1 : Int) * 2 ^ (min (IntKind.u64.wrap (IntKind.i64.wrap ((f32 (f60 x0).1) - (53 : Int)))).toNat IntKind.u64.bits)))) == (IntKind.u64.wrap ((1 : Int) * 2 ^ (min (IntKind.u64.wrap (IntKind.i64.wrap ((IntKind.i64.wrap ((f32 (f60 x0).1) - (53 : Int))) - (1 : Int)))).toNat IntKind.u64.bits)))) then
        if ((((f60 x0).1.fdiv (2 ^ (min (IntKind.u64.wrap (IntKind.i64.wrap ((f32 (f60 x0).1) - (53 : Int)))).toNat IntKind.u64.bits))).tmod (2 : Int)) == (1 : Int)) then
          if (f60 x0).2 then
            ((((ldN (IntKind.u64.wrap (((f60 x0).1.fdiv (2 ^ (min (IntKind.u64.wrap (IntKind.i64.wrap ((f32 (f60 x0).1) - (53 : Int)))).toNat IntKind.u64.bits))) + (1 : Int))) (IntKind.i64.wrap ((f32 (f60 x0).1) - (53 : Int)))) ^^^ 9223372036854775808) : Nat) : Int)
          else
            (((ldN (IntKind.u64.wrap (((f60 x0).1.fdiv (2 ^ (min (IntKind.u64.wrap (IntKind.i64.wrap ((f32 (f60 x0).1) - (53 : Int)))).toNat IntKind.u64.bits))) + (1 : Int))) (IntKind.i64.wrap ((f32 (f60 x0).1) - (53 : Int)))) : Nat) : Int)
        else
          if (f60 x0).2 then
            ((((ldN ((f60 x0).1.fdiv (2 ^ (min (IntKind.u64.wrap (IntKind.i64.wrap ((f32 (f60 x0).1) - (53 : Int)))).toNat IntKind.u64.bits))) (IntKind.i64.wrap ((f32 (f60 x0).1) - (53 : Int)))) ^^^ 9223372036854775808) : Nat) : Int)
          else
            (((ldN ((f60 x0).1.fdiv (2 ^ (min (IntKind.u64.wrap (IntKind.i64.wrap ((f32 (f60 x0).1) - (53 : Int)))).toNat IntKind.u64.bits))) (IntKind.i64.wrap ((f32 (f60 x0).1) - (53 : Int)))) : Nat) : Int)
      else
        if (f60 x0).2 then
          ((((ldN ((f60 x0).1.fdiv (2 ^ (min (IntKind.u64.wrap (IntKind.i64.wrap ((f32 (f60 x0).1) - (53 : Int)))).toNat IntKind.u64.bits))) (IntKind.i64.wrap ((f32 (f60 x0).1) - (53 : Int)))) ^^^ 9223372036854775808) : Nat) : Int)
        else
          (((ldN ((f60 x0).1.fdiv (2 ^ (min (IntKind.u64.wrap (IntKind.i64.wrap ((f32 (f60 x0).1) - (53 : Int)))).toNat IntKind.u64.bits))) (IntKind.i64.wrap ((f32 (f60 x0).1) - (53 : Int)))) : Nat) : Int)
  else
    if (f60 x0).2 then
      ((((ldN (IntKind.u64.wrap ((f60 x0).1 * 2 ^ (min (IntKind.u64.wrap (IntKind.i64.wrap (0 - (IntKind.i64.wrap ((f32 (f60 x0).1) - (53 : Int)))))).toNat IntKind.u64.bits))) (IntKind.i64.wrap ((f32 (f60 x0).1) - (53 : Int)))) ^^^ 9223372036854775808) : Nat) : Int)
    else
      (((ldN (IntKind.u64.wrap ((f60 x0).1 * 2 ^ (min (IntKind.u64.wrap (IntKind.i64.wrap (0 - (IntKind.i64.wrap ((f32 (f60 x0).1) - (53 : Int)))))).toNat IntKind.u64.bits))) (IntKind.i64.wrap ((f32 (f60 x0).1) - (53 : Int)))) : Nat) : Int)
theorem w48 (x0 : Int) (b0 : (decide ((IntKind.i64.wrap ((f32 (f60 x0).1) - (53 : Int))) > (0 : Int))) = true → ¬ (IntKind.u64.wrap ((1 : Int) * 2 ^ (min (IntKind.u64.wrap (IntKind.i64.wrap ((f32 (f60 x0).1) - (53 : Int)))).toNat IntKind.u64.bits))) = 0)
    (o0 : ((f60 x0).1 == (0 : Int)) = false → (decide ((IntKind.i64.wrap ((f32 (f60 x0).1) - (53 : Int))) > (0 : Int))) = true → (decide (((f60 x0).1.tmod (IntKind.u64.wrap ((1 : Int) * 2 ^ (min (IntKind.u64.wrap (IntKind.i64.wrap ((f32 (f60 x0).1) - (53 : Int)))).toNat IntKind.u64.bits)))) > (IntKind.u64.wrap ((1 : Int) * 2 ^ (min (IntKind.u64.wrap (IntKind.i64.wrap ((IntKind.i64.wrap ((f32 (f60 x0).1) - (53 : Int))) - (1 : Int)))).toNat IntKind.u64.bits))))) = true → LdOk (IntKind.u64.wrap (((f60 x0).1.fdiv (2 ^ (min (IntKind.u64.wrap (IntKind.i64.wrap ((f32 (f60 x0).1) - (53 : Int)))).toNat IntKind.u64.bits))) + (1 : Int))) (IntKind.i64.wrap ((f32 (f60 x0).1) - (53 : Int))))
    (o1 : ((f60 x0).1 == (0 : Int)) = false → (decide ((IntKind.i64.wrap ((f32 (f60 x0).1) - (53 : Int))) > (0 : Int))) = true → (decide (((f60 x0).1.tmod (IntKind.u64.wrap ((1 : Int) * 2 ^ (min (IntKind.u64.wrap (IntKind.i64.wrap ((f32 (f60 x0).1) - (53 : Int)))).toNat IntKind.u64.bits)))) > (IntKind.u64.wrap ((1 : Int) * 2 ^ (min (IntKind.u64.wrap (IntKind.i64.wrap ((IntKind.i64.wrap ((f32 (f60 x0).1) - (53 : Int))) - (1 : Int)))).toNat IntKind.u64.bits))))) = false → (((f60 x0).1.tmod (IntKind.u64.wrap ((1 : Int) * 2 ^ (min (IntKind.u64.wrap (IntKind.i64.wrap ((f32 (f60 x0).1) - (53 : Int)))).toNat IntKind.u64.bits)))) == (IntKind.u64.wrap ((1 : Int) * 2 ^ (min (IntKind.u64.wrap (IntKind.i64.wrap ((IntKind.i64.wrap ((f32 (f60 x0).1) - (53 : Int))) - (1 : Int)))).toNat IntKind.u64.bits)))) = true → ((((f60 x0).1.fdiv (2 ^ (min (IntKind.u64.wrap (IntKind.i64.wrap ((f32 (f60 x0).1) - (53 : Int)))).toNat IntKind.u64.bits))).tmod (2 : Int)) == (1 : Int)) = true → LdOk (IntKind.u64.wrap (((f60 x0).1.fdiv (2 ^ (min (IntKind.u64.wrap (IntKind.i64.wrap ((f32 (f60 x0).1) - (53 : Int)))).toNat IntKind.u64.bits))) + (1 : Int))) (IntKind.i64.wrap ((f32 (f60 x0).1) - (53 : Int))))
    (o2 : ((f60 x0).1 == (0 : Int)) = false → (decide ((IntKind.i64.wrap ((f32 (f60 x0).1) - (53 : Int))) > (0 : Int))) = true → (decide (((f60 x0).1.tmod (IntKind.u64.wrap ((1 : Int) * 2 ^ (min (IntKind.u64.wrap (IntKind.i64.wrap ((f32 (f60 x0).1) - (53 : Int)))).toNat IntKind.u64.bits)))) > (IntKind.u64.wrap ((1 : Int) * 2 ^ (min (IntKind.u64.wrap (IntKind.i64.wrap ((IntKind.i64.wrap ((f32 (f60 x0).1) - (53 : Int))) - (1 : Int)))).toNat IntKind.u64.bits))))) = false → (((f60 x0).1.tmod (IntKind.u64.wrap ((1 : Int) * 2 ^ (min (IntKind.u64.wrap (IntKind.i64.wrap ((f32 (f60 x0).1) - (53 : Int)))).toNat IntKind.u64.bits)))) == (IntKind.u64.wrap ((1 : Int) * 2 ^ (min (IntKind.u64.wrap (IntKind.i64.wrap ((IntKind.i64.wrap ((f32 (f60 x0).1) - (53 : Int))) - (1 : Int)))).toNat IntKind.u64.bits)))) = true → ((((f60 x0).1.fdiv (2 ^ (min (IntKind.u64.wrap (IntKind.i64.wrap ((f32 (f60 x0).1) - (53 : Int)))).toNat IntKind.u64.bits))).tmod (2 : Int)) == (1 : Int)) = false → LdOk ((f60 x0).1.fdiv (2 ^ (min (IntKind.u64.wrap (IntKind.i64.wrap ((f32 (f60 x0).1) - (53 : Int)))).toNat IntKind.u64.bits))) (IntKind.i64.wrap ((f32 (f60 x0).1) - (53 : Int))))
    (o3 : ((f60 x0).1 == (0 : Int)) = false → (decide ((IntKind.i64.wrap ((f32 (f60 x0).1) - (53 : Int))) > (0 : Int))) = true → (decide (((f60 x0).1.tmod (IntKind.u64.wrap ((1 : Int) * 2 ^ (min (IntKind.u64.wrap (IntKind.i64.wrap ((f32 (f60 x0).1) - (53 : Int)))).toNat IntKind.u64.bits)))) > (IntKind.u64.wrap ((1 : Int) * 2 ^ (min (IntKind.u64.wrap (IntKind.i64.wrap ((IntKind.i64.wrap ((f32 (f60 x0).1) - (53 : Int))) - (1 : Int)))).toNat IntKind.u64.bits))))) = false → (((f60 x0).1.tmod (IntKind.u64.wrap ((1 : Int) * 2 ^ (min (IntKind.u64.wrap (IntKind.i64.wrap ((f32 (f60 x0).1) - (53 : Int)))).toNat IntKind.u64.bits)))) == (IntKind.u64.wrap ((1 : Int) * 2 ^ (min (IntKind.u64.wrap (IntKind.i64.wrap ((IntKind.i64.wrap ((f32 (f60 x0).1) - (53 : Int))) - (1 : Int)))).toNat IntKind.u64.bits)))) = false → LdOk ((f60 x0).1.fdiv (2 ^ (min (IntKind.u64.wrap (IntKind.i64.wrap ((f32 (f60 x0).1) - (53 : Int)))).toNat IntKind.u64.bits))) (IntKind.i64.wrap ((f32 (f60 x0).1) - (53 : Int))))
    (o4 : ((f60 x0).1 == (0 : Int)) = false → (decide ((IntKind.i64.wrap ((f32 (f60 x0).1) - (53 : Int))) > (0 : Int))) = false → LdOk (IntKind.u64.wrap ((f60 x0).1 * 2 ^ (min (IntKind.u64.wrap (IntKind.i64.wrap (0 - (IntKind.i64.wrap ((f32 (f60 x0).1) - (53 : Int)))))).toNat IntKind.u64.bits))) (IntKind.i64.wrap ((f32 (f60 x0).1) - (53 : Int))))
    (H : Heap) : Fn T 48 [.int .u64 x0] H (fun r h => r = .int .u64 (f48 x0) ∧ h = H) := by
  refine Fn.enter t48 ?_; simp only [i48, List.length_cons, List.length_nil, Nat.reduceAdd, Nat.reduceSub, List.replicate_succ, List.replicate_zero, List.cons_append, List.nil_append]
  refine Run.seq ?_
  refine Run.rgn ?_
  refine RunO.all ?_
  simp only [i48r0, SB, x_mov]
  show Run T _ _ _ _
  refine Run.seq ?_
  refine Run.rgn ?_
  refine RunO.pre 1 ?_
  simp only [i48r1, List.take_succ_cons, List.take_zero, List.drop_succ_cons, List.drop_zero, SB, x_mov]
  refine RunO.c (c60 x0 _) ?_
  refine RunO.all ?_
  simp only [SB, x_ext, extV, List.getElem?_cons_zero, List.getElem?_cons_succ, x_mov]
  show Run T _ _ _ _
  refine Run.seq ?_
  refine Run.seq ?_
  refine Run.rgn ?_
  refine RunO.all ?_
  simp only [i48r2, SB, x_bin, binV, intB, x_mov, if_true, reduceCtorEq, not_false_eq_true]
  show Run T _ _ _ _
  refine Run.ite (by rfl) (fun h0 => ?_) (fun h0 => ?_)
  ·
   refine Run.seq ?_
   refine Run.rgn ?_
   refine RunO.all ?_
   simp only [i48r3, SB, x_mov, h0]
   show Run T _ _ _ _
   refine Run.ret ⟨?_, rfl⟩
   first | (rw [f48, ite_t h0]; rfl) | (rw [f48, ite_t h0]; simp only [resV, ev_t, List.getD_cons_zero, List.getD_cons_succ, List.map_cons, List.map_nil, h0]; done) | (simp only [f48, if_true, Bool.false_eq_true, if_false, h0]; rfl)
  ·
   refine Run.skip ?_
   show Run T _ _ _ _
   refine Run.seq ?_
   refine Run.rgn ?_
   refine RunO.pre 1 ?_
   simp only [i48r7, List.take_succ_cons, List.take_zero, List.drop_succ_cons, List.drop_zero, SB, x_mov, h0, if_neg (beq_no h0)]
   refine RunO.c (c32 (f60 x0).1 _) ?_
   refine RunO.all ?_
   simp only [SB, x_bin, binV, intB, x_mov, if_true, reduceCtorEq, not_false_eq_true, h0, if_neg (beq_no h0)]
   show Run T _ _ _ _
   refine Run.seq ?_
   refine Run.seq ?_
   refine Run.rgn ?_
   refine RunO.all ?_
   simp only [i48r8, SB, x_bin, binV, intB, x_mov, if_true, reduceCtorEq, not_false_eq_true, h0, if_neg (beq_no h0)]
   show Run T _ _ _ _
   refine Run.ite (by rfl) (fun h1 => ?_) (fun h1 => ?_)
   ·
    refine Run.seq ?_
    refine Run.rgn ?_
    refine RunO.all ?_
    simp only [i48r9, SB, x_bin, binV, intB, x_cvt, x_mov, if_true, reduceCtorEq, not_false_eq_true, if_neg_u64, if_neg_one, h0, h1, if_neg (beq_no h0), if_neg (b0 h1)]
    show Run T _ _ _ _
    refine Run.seq ?_
    refine Run.rgn ?_
    refine RunO.all ?_
    simp only [i48r10, SB, x_bin, binV, intB, x_cvt, x_mov, if_true, reduceCtorEq, not_false_eq_true, if_neg_u64, if_neg_one, h0, h1, if_neg (beq_no h0), if_neg (b0 h1)]
    show Run T _ _ _ _
    refine Run.seq ?_
    refine Run.rgn ?_
    refine RunO.all ?_
    simp only [i48r11, SB, x_bin, binV, intB, x_cvt, x_mov, if_true, reduceCtorEq, not_false_eq_true, if_neg_u64, if_neg_one, h0, h1, if_neg (beq_no h0), if_neg (b0 h1)]
    show Run T _ _ _ _
    refine Run.seq ?_
    refine Run.rgn ?_
    refine RunO.pre 4 ?_
    simp only [i48r12, List.take_succ_cons, List.take_zero, List.drop_succ_cons, List.drop_zero, SB, x_bin, binV, intB, x_mov, if_true, reduceCtorEq, not_false_eq_true, h0, h1, if_neg (beq_no h0), if_neg (b0 h1)]
    rcases Bool.eq_false_or_eq_true (decide (((f60 x0).1.tmod (IntKind.u64.wrap ((1 : Int) * 2 ^ (min (IntKind.u64.wrap (IntKind.i64.wrap ((f32 (f60 x0).1) - (53 : Int)))).toNat IntKind.u64.bits)))) > (IntKind.u64.wrap ((1 : Int) * 2 ^ (min (IntKind.u64.wrap (IntKind.i64.wrap ((IntKind.i64.wrap ((f32 (f60 x0).1) - (53 : Int))) - (1 : Int)))).toNat IntKind.u64.bits))))) with h2 | h2
    ·
     refine RunO.all ?_
     simp only [List.drop_zero, SB, x_bin, binV, intB, x_mov, x_pick, if_true, if_false, Bool.false_eq_true, if_true, reduceCtorEq, not_false_eq_true, exOp_gt, exOp_gf, exOp_gf2, exOp_gs, h0, h1, h2, if_neg (beq_no h0), if_neg (b0 h1)]
     show Run T _ _ _ _
     refine Run.ite (by rfl) (fun _ => ?_) (fun h => by first | exact absurd h (by decide) | (simp only [h0, h1, h2, reduceCtorEq, Bool.not_true, Bool.not_false, Bool.false_eq_true, Bool.true_eq_false] at h))
     refine Run.rgn ?_
     refine RunO.all ?_
     simp only [i48r13, SB, x_bin, binV, intB, x_mov, if_true, reduceCtorEq, not_false_eq_true, h0, h1, h2, if_neg (beq_no h0), if_neg (b0 h1)]
     show Run T _ _ _ _
     refine Run.seq ?_
     refine Run.rgn ?_
     refine RunO.pre 3 ?_
     simp only [i48r22, List.take_succ_cons, List.take_zero, List.drop_succ_cons, List.drop_zero, SB, x_i2f, i2fV, x_mov, h0, h1, h2, if_neg (beq_no h0), if_neg (b0 h1)]
     refine RunO.c (c61n (IntKind.u64.wrap (((f60 x0).1.fdiv (2 ^ (min (IntKind.u64.wrap (IntKind.i64.wrap ((f32 (f60 x0).1) - (53 : Int)))).toNat IntKind.u64.bits))) + (1 : Int))) (IntKind.i64.wrap ((f32 (f60 x0).1) - (53 : Int))) (o0 h0 h1 h2) _) ?_
     refine RunO.all ?_
     simp only [SB, x_mov, h0, h1, h2, if_neg (beq_no h0), if_neg (b0 h1)]
     show Run T _ _ _ _
     refine Run.seq ?_
     refine Run.seq ?_
     refine Run.rgn ?_
     refine RunO.all ?_
     simp only [i48r23, SB, x_mov, h0, h1, h2, if_neg (beq_no h0), if_neg (b0 h1)]
     show Run T _ _ _ _
     refine Run.ite (by rfl) (fun h3 => ?_) (fun h3 => ?_)
     ·
      refine Run.rgn ?_
      refine RunO.all ?_
      simp only [i48r24, SB, x_fneg, fnegV, x_mov, h0, h1, h2, h3, if_neg (beq_no h0), if_neg (b0 h1)]
      show Run T _ _ _ _
      refine Run.seq ?_
      refine Run.rgn ?_
      refine RunO.all ?_
      simp only [i48r27, SB, x_mov, x_xc, xc_word, xc_from, xc_trunc, wordV_some, h0, h1, h2, h3, if_neg (beq_no h0), if_neg (b0 h1)]
      show Run T _ _ _ _
      refine Run.ret ⟨?_, rfl⟩
      first | (rw [f48, ite_f h0, ite_t h1, ite_t h2, ite_t h3]; rfl) | (rw [f48, ite_f h0, ite_t h1, ite_t h2, ite_t h3]; simp only [resV, ev_t, List.getD_cons_zero, List.getD_cons_succ, List.map_cons, List.map_nil, h0, h1, h2, h3]; done) | (simp only [f48, if_true, Bool.false_eq_true, if_false, h0, h1, h2, h3]; rfl)
     ·
      refine Run.skip ?_
      show Run T _ _ _ _
      refine Run.seq ?_
      refine Run.rgn ?_
      refine RunO.all ?_
      simp only [i48r27, SB, x_mov, x_xc, xc_word, xc_from, xc_trunc, wordV_some, h0, h1, h2, h3, if_neg (beq_no h0), if_neg (b0 h1)]
      show Run T _ _ _ _
      refine Run.ret ⟨?_, rfl⟩
      first | (rw [f48, ite_f h0, ite_t h1, ite_t h2, ite_f h3]; rfl) | (rw [f48, ite_f h0, ite_t h1, ite_t h2, ite_f h3]; simp only [resV, ev_t, List.getD_cons_zero, List.getD_cons_succ, List.map_cons, List.map_nil, h0, h1, h2, h3]; done) | (simp only [f48, if_true, Bool.false_eq_true, if_false, h0, h1, h2, h3]; rfl)
    ·
     refine RunO.pre 4 ?_
     simp only [List.drop_zero, List.take_succ_cons, List.take_zero, List.drop_succ_cons, List.drop_zero, SB, x_bin, binV, intB, x_mov, if_true, reduceCtorEq, not_false_eq_true, exOp_gt, exOp_gf, exOp_gf2, exOp_gs, h0, h1, h2, if_neg (beq_no h0), if_neg (b0 h1)]
     rcases Bool.eq_false_or_eq_true (((f60 x0).1.tmod (IntKind.u64.wrap ((1 : Int) * 2 ^ (min (IntKind.u64.wrap (IntKind.i64.wrap ((f32 (f60 x0).1) - (53 : Int)))).toNat IntKind.u64.bits)))) == (IntKind.u64.wrap ((1 : Int) * 2 ^ (min (IntKind.u64.wrap (IntKind.i64.wrap ((IntKind.i64.wrap ((f32 (f60 x0).1) - (53 : Int))) - (1 : Int)))).toNat IntKind.u64.bits)))) with h4 | h4
     ·
      refine RunO.all ?_
      simp only [List.drop_zero, SB, x_bin, binV, intB, x_mov, x_pick, if_true, if_false, Bool.false_eq_true, if_true, reduceCtorEq, not_false_eq_true, exOp_gt, exOp_gf, exOp_gf2, exOp_gs, h0, h1, h2, h4, if_neg (beq_no h0), if_neg (show ¬ ((2 : Int) = 0) by decide), if_neg (b0 h1)]
      show Run T _ _ _ _
      refine Run.ite (by rfl) (fun h5 => ?_) (fun h5 => ?_)
      ·
       refine Run.rgn ?_
       refine RunO.all ?_
       simp only [i48r13, SB, x_bin, binV, intB, x_mov, if_true, reduceCtorEq, not_false_eq_true, h0, h1, h2, h4, h5, if_neg (beq_no h0), if_neg (b0 h1)]
       show Run T _ _ _ _
       refine Run.seq ?_
       refine Run.rgn ?_
       refine RunO.pre 3 ?_
       simp only [i48r22, List.take_succ_cons, List.take_zero, List.drop_succ_cons, List.drop_zero, SB, x_i2f, i2fV, x_mov, h0, h1, h2, h4, h5, if_neg (beq_no h0), if_neg (b0 h1)]
       refine RunO.c (c61n (IntKind.u64.wrap (((f60 x0).1.fdiv (2 ^ (min (IntKind.u64.wrap (IntKind.i64.wrap ((f32 (f60 x0).1) - (53 : Int)))).toNat IntKind.u64.bits))) + (1 : Int))) (IntKind.i64.wrap ((f32 (f60 x0).1) - (53 : Int))) (o1 h0 h1 h2 h4 h5) _) ?_
       refine RunO.all ?_
       simp only [SB, x_mov, h0, h1, h2, h4, h5, if_neg (beq_no h0), if_neg (b0 h1)]
       show Run T _ _ _ _
       refine Run.seq ?_
       refine Run.seq ?_
       refine Run.rgn ?_
       refine RunO.all ?_
       simp only [i48r23, SB, x_mov, h0, h1, h2, h4, h5, if_neg (beq_no h0), if_neg (b0 h1)]
       show Run T _ _ _ _
       refine Run.ite (by rfl) (fun h6 => ?_) (fun h6 => ?_)
       ·
        refine Run.rgn ?_
        refine RunO.all ?_
        simp only [i48r24, SB, x_fneg, fnegV, x_mov, h0, h1, h2, h4, h5, h6, if_neg (beq_no h0), if_neg (b0 h1)]
        show Run T _ _ _ _
        refine Run.seq ?_
        refine Run.rgn ?_
        refine RunO.all ?_
        simp only [i48r27, SB, x_mov, x_xc, xc_word, xc_from, xc_trunc, wordV_some, h0, h1, h2, h4, h5, h6, if_neg (beq_no h0), if_neg (b0 h1)]
        show Run T _ _ _ _
        refine Run.ret ⟨?_, rfl⟩
        first | (rw [f48, ite_f h0, ite_t h1, ite_f h2, ite_t h4, ite_t h5, ite_t h6]; rfl) | (rw [f48, ite_f h0, ite_t h1, ite_f h2, ite_t h4, ite_t h5, ite_t h6]; simp only [resV, ev_t, List.getD_cons_zero, List.getD_cons_succ, List.map_cons, List.map_nil, h0, h1, h2, h4, h5, h6]; done) | (simp only [f48, if_true, Bool.false_eq_true, if_false, h0, h1, h2, h4, h5, h6]; rfl)
       ·
        refine Run.skip ?_
        show Run T _ _ _ _
        refine Run.seq ?_
        refine Run.rgn ?_
        refine RunO.all ?_
        simp only [i48r27, SB, x_mov, x_xc, xc_word, xc_from, xc_trunc, wordV_some, h0, h1, h2, h4, h5, h6, if_neg (beq_no h0), if_neg (b0 h1)]
        show Run T _ _ _ _
        refine Run.ret ⟨?_, rfl⟩
        first | (rw [f48, ite_f h0, ite_t h1, ite_f h2, ite_t h4, ite_t h5, ite_f h6]; rfl) | (rw [f48, ite_f h0, ite_t h1, ite_f h2, ite_t h4, ite_t h5, ite_f h6]; simp only [resV, ev_t, List.getD_cons_zero, List.getD_cons_succ, List.map_cons, List.map_nil, h0, h1, h2, h4, h5, h6]; done) | (simp only [f48, if_true, Bool.false_eq_true, if_false, h0, h1, h2, h4, h5, h6]; rfl)
      ·
       refine Run.skip ?_
       show Run T _ _ _ _
       refine Run.seq ?_
       refine Run.rgn ?_
       refine RunO.pre 3 ?_
       simp only [i48r22, List.take_succ_cons, List.take_zero, List.drop_succ_cons, List.drop_zero, SB, x_i2f, i2fV, x_mov, h0, h1, h2, h4, h5, if_neg (beq_no h0), if_neg (b0 h1)]
       refine RunO.c (c61n ((f60 x0).1.fdiv (2 ^ (min (IntKind.u64.wrap (IntKind.i64.wrap ((f32 (f60 x0).1) - (53 : Int)))).toNat IntKind.u64.bits))) (IntKind.i64.wrap ((f32 (f60 x0).1) - (53 : Int))) (o2 h0 h1 h2 h4 h5) _) ?_
       refine RunO.all ?_
       simp only [SB, x_mov, h0, h1, h2, h4, h5, if_neg (beq_no h0), if_neg (b0 h1)]
       show Run T _ _ _ _
       refine Run.seq ?_
       refine Run.seq ?_
       refine Run.rgn ?_
       refine RunO.all ?_
       simp only [i48r23, SB, x_mov, h0, h1, h2, h4, h5, if_neg (beq_no h0), if_neg (b0 h1)]
       show Run T _ _ _ _
       refine Run.ite (by rfl) (fun h7 => ?_) (fun h7 => ?_)
       ·
        refine Run.rgn ?_
        refine RunO.all ?_
        simp only [i48r24, SB, x_fneg, fnegV, x_mov, h0, h1, h2, h4, h5, h7, if_neg (beq_no h0), if_neg (b0 h1)]
        show Run T _ _ _ _
        refine Run.seq ?_
        refine Run.rgn ?_
        refine RunO.all ?_
        simp only [i48r27, SB, x_mov, x_xc, xc_word, xc_from, xc_trunc, wordV_some, h0, h1, h2, h4, h5, h7, if_neg (beq_no h0), if_neg (b0 h1)]
        show Run T _ _ _ _
        refine Run.ret ⟨?_, rfl⟩
        first | (rw [f48, ite_f h0, ite_t h1, ite_f h2, ite_t h4, ite_f h5, ite_t h7]; rfl) | (rw [f48, ite_f h0, ite_t h1, ite_f h2, ite_t h4, ite_f h5, ite_t h7]; simp only [resV, ev_t, List.getD_cons_zero, List.getD_cons_succ, List.map_cons, List.map_nil, h0, h1, h2, h4, h5, h7]; done) | (simp only [f48, if_true, Bool.false_eq_true, if_false, h0, h1, h2, h4, h5, h7]; rfl)
       ·
        refine Run.skip ?_
        show Run T _ _ _ _
        refine Run.seq ?_
        refine Run.rgn ?_
        refine RunO.all ?_
        simp only [i48r27, SB, x_mov, x_xc, xc_word, xc_from, xc_trunc, wordV_some, h0, h1, h2, h4, h5, h7, if_neg (beq_no h0), if_neg (b0 h1)]
        show Run T _ _ _ _
        refine Run.ret ⟨?_, rfl⟩
        first | (rw [f48, ite_f h0, ite_t h1, ite_f h2, ite_t h4, ite_f h5, ite_f h7]; rfl) | (rw [f48, ite_f h0, ite_t h1, ite_f h2, ite_t h4, ite_f h5, ite_f h7]; simp only [resV, ev_t, List.getD_cons_zero, List.getD_cons_succ, List.map_cons, List.map_nil, h0, h1, h2, h4, h5, h7]; done) | (simp only [f48, if_true, Bool.false_eq_true, if_false, h0, h1, h2, h4, h5, h7]; rfl)
     ·
      refine RunO.all ?_
      simp only [List.drop_zero, SB, x_bin, binV, intB, x_mov, x_pick, if_true, if_false, Bool.false_eq_true, if_true, reduceCtorEq, not_false_eq_true, exOp_gt, exOp_gf, exOp_gf2, exOp_gs, h0, h1, h2, h4, if_neg (beq_no h0), if_neg (b0 h1)]
      show Run T _ _ _ _
      refine Run.ite (by rfl) (fun h => by first | exact absurd h (by decide) | (simp only [h0, h1, h2, h4, reduceCtorEq, Bool.not_true, Bool.not_false, Bool.false_eq_true, Bool.true_eq_false] at h)) (fun _ => ?_)
      refine Run.skip ?_
      show Run T _ _ _ _
      refine Run.seq ?_
      refine Run.rgn ?_
      refine RunO.pre 3 ?_
      simp only [i48r22, List.take_succ_cons, List.take_zero, List.drop_succ_cons, List.drop_zero, SB, x_i2f, i2fV, x_mov, h0, h1, h2, h4, if_neg (beq_no h0), if_neg (b0 h1)]
      refine RunO.c (c61n ((f60 x0).1.fdiv (2 ^ (min (IntKind.u64.wrap (IntKind.i64.wrap ((f32 (f60 x0).1) - (53 : Int)))).toNat IntKind.u64.bits))) (IntKind.i64.wrap ((f32 (f60 x0).1) - (53 : Int))) (o3 h0 h1 h2 h4) _) ?_
      refine RunO.all ?_
      simp only [SB, x_mov, h0, h1, h2, h4, if_neg (beq_no h0), if_neg (b0 h1)]
      show Run T _ _ _ _
      refine Run.seq ?_
      refine Run.seq ?_
      refine Run.rgn ?_
      refine RunO.all ?_
      simp only [i48r23, SB, x_mov, h0, h1, h2, h4, if_neg (beq_no h0), if_neg (b0 h1)]
      show Run T _ _ _ _
      refine Run.ite (by rfl) (fun h8 => ?_) (fun h8 => ?_)
      ·
       refine Run.rgn ?_
       refine RunO.all ?_
       simp only [i48r24, SB, x_fneg, fnegV, x_mov, h0, h1, h2, h4, h8, if_neg (beq_no h0), if_neg (b0 h1)]
       show Run T _ _ _ _
       refine Run.seq ?_
       refine Run.rgn ?_
       refine RunO.all ?_
       simp only [i48r27, SB, x_mov, x_xc, xc_word, xc_from, xc_trunc, wordV_some, h0, h1, h2, h4, h8, if_neg (beq_no h0), if_neg (b0 h1)]
       show Run T _ _ _ _
       refine Run.ret ⟨?_, rfl⟩
       first | (rw [f48, ite_f h0, ite_t h1, ite_f h2, ite_f h4, ite_t h8]; rfl) | (rw [f48, ite_f h0, ite_t h1, ite_f h2, ite_f h4, ite_t h8]; simp only [resV, ev_t, List.getD_cons_zero, List.getD_cons_succ, List.map_cons, List.map_nil, h0, h1, h2, h4, h8]; done) | (simp only [f48, if_true, Bool.false_eq_true, if_false, h0, h1, h2, h4, h8]; rfl)
      ·
       refine Run.skip ?_
       show Run T _ _ _ _
       refine Run.seq ?_
       refine Run.rgn ?_
       refine RunO.all ?_
       simp only [i48r27, SB, x_mov, x_xc, xc_word, xc_from, xc_trunc, wordV_some, h0, h1, h2, h4, h8, if_neg (beq_no h0), if_neg (b0 h1)]
       show Run T _ _ _ _
       refine Run.ret ⟨?_, rfl⟩
       first | (rw [f48, ite_f h0, ite_t h1, ite_f h2, ite_f h4, ite_f h8]; rfl) | (rw [f48, ite_f h0, ite_t h1, ite_f h2, ite_f h4, ite_f h8]; simp only [resV, ev_t, List.getD_cons_zero, List.getD_cons_succ, List.map_cons, List.map_nil, h0, h1, h2, h4, h8]; done) | (simp only [f48, if_true, Bool.false_eq_true, if_false, h0, h1, h2, h4, h8]; rfl)
   ·
    refine Run.rgn ?_
    refine RunO.all ?_
    simp only [i48r19, SB, x_bin, binV, intB, x_cvt, x_mov, x_un, unV, intB, if_true, reduceCtorEq, not_false_eq_true, if_neg_u64, if_neg_one, h0, h1, if_neg (beq_no h0)]
    show Run T _ _ _ _
    refine Run.seq ?_
    refine Run.rgn ?_
    refine RunO.pre 3 ?_
    simp only [i48r22, List.take_succ_cons, List.take_zero, List.drop_succ_cons, List.drop_zero, SB, x_i2f, i2fV, x_mov, h0, h1, if_neg (beq_no h0)]
    refine RunO.c (c61n (IntKind.u64.wrap ((f60 x0).1 * 2 ^ (min (IntKind.u64.wrap (IntKind.i64.wrap (0 - (IntKind.i64.wrap ((f32 (f60 x0).1) - (53 : Int)))))).toNat IntKind.u64.bits))) (IntKind.i64.wrap ((f32 (f60 x0).1) - (53 : Int))) (o4 h0 h1) _) ?_
    refine RunO.all ?_
    simp only [SB, x_mov, h0, h1, if_neg (beq_no h0)]
    show Run T _ _ _ _
    refine Run.seq ?_
    refine Run.seq ?_
    refine Run.rgn ?_
    refine RunO.all ?_
    simp only [i48r23, SB, x_mov, h0, h1, if_neg (beq_no h0)]
    show Run T _ _ _ _
    refine Run.ite (by rfl) (fun h9 => ?_) (fun h9 => ?_)
    ·
     refine Run.rgn ?_
     refine RunO.all ?_
     simp only [i48r24, SB, x_fneg, fnegV, x_mov, h0, h1, h9, if_neg (beq_no h0)]
     show Run T _ _ _ _
     refine Run.seq ?_
     refine Run.rgn ?_
     refine RunO.all ?_
     simp only [i48r27, SB, x_mov, x_xc, xc_word, xc_from, xc_trunc, wordV_some, h0, h1, h9, if_neg (beq_no h0)]
     show Run T _ _ _ _
     refine Run.ret ⟨?_, rfl⟩
     first | (rw [f48, ite_f h0, ite_f h1, ite_t h9]; rfl) | (rw [f48, ite_f h0, ite_f h1, ite_t h9]; simp only [resV, ev_t, List.getD_cons_zero, List.getD_cons_succ, List.map_cons, List.map_nil, h0, h1, h9]; done) | (simp only [f48, if_true, Bool.false_eq_true, if_false, h0, h1, h9]; rfl)
    ·
     refine Run.skip ?_
     show Run T _ _ _ _
     refine Run.seq ?_
     refine Run.rgn ?_
     refine RunO.all ?_
     simp only [i48r27, SB, x_mov, x_xc, xc_word, xc_from, xc_trunc, wordV_some, h0, h1, h9, if_neg (beq_no h0)]
     show Run T _ _ _ _
     refine Run.ret ⟨?_, rfl⟩
     first | (rw [f48, ite_f h0, ite_f h1, ite_f h9]; rfl) | (rw [f48, ite_f h0, ite_f h1, ite_f h9]; simp only [resV, ev_t, List.getD_cons_zero, List.getD_cons_succ, List.map_cons, List.map_nil, h0, h1, h9]; done) | (simp only [f48, if_true, Bool.false_eq_true, if_false, h0, h1, h9]; rfl)
theorem c48 (x0 : Int) (b0 : (decide ((IntKind.i64.wrap ((f32 (f60 x0).1) - (53 : Int))) > (0 : Int))) = true → ¬ (IntKind.u64.wrap ((1 : Int) * 2 ^ (min (IntKind.u64.wrap (IntKind.i64.wrap ((f32 (f60 x0).1) - (53 : Int)))).toNat IntKind.u64.bits))) = 0)
    (o0 : ((f60 x0).1 == (0 : Int)) = false → (decide ((IntKind.i64.wrap ((f32 (f60 x0).1) - (53 : Int))) > (0 : Int))) = true → (decide (((f60 x0).1.tmod (IntKind.u64.wrap ((1 : Int) * 2 ^ (min (IntKind.u64.wrap (IntKind.i64.wrap ((f32 (f60 x0).1) - (53 : Int)))).toNat IntKind.u64.bits)))) > (IntKind.u64.wrap ((1 : Int) * 2 ^ (min (IntKind.u64.wrap (IntKind.i64.wrap ((IntKind.i64.wrap ((f32 (f60 x0).1) - (53 : Int))) - (1 : Int)))).toNat IntKind.u64.bits))))) = true → LdOk (IntKind.u64.wrap (((f60 x0).1.fdiv (2 ^ (min (IntKind.u64.wrap (IntKind.i64.wrap ((f32 (f60 x0).1) - (53 : Int)))).toNat IntKind.u64.bits))) + (1 : Int))) (IntKind.i64.wrap ((f32 (f60 x0).1) - (53 : Int))))
    (o1 : ((f60 x0).1 == (0 : Int)) = false → (decide ((IntKind.i64.wrap ((f32 (f60 x0).1) - (53 : Int))) > (0 : Int))) = true → (decide (((f60 x0).1.tmod (IntKind.u64.wrap ((1 : Int) * 2 ^ (min (IntKind.u64.wrap (IntKind.i64.wrap ((f32 (f60 x0).1) - (53 : Int)))).toNat IntKind.u64.bits)))) > (IntKind.u64.wrap ((1 : Int) * 2 ^ (min (IntKind.u64.wrap (IntKind.i64.wrap ((IntKind.i64.wrap ((f32 (f60 x0).1) - (53 : Int))) - (1 : Int)))).toNat IntKind.u64.bits))))) = false → (((f60 x0).1.tmod (IntKind.u64.wrap ((1 : Int) * 2 ^ (min (IntKind.u64.wrap (IntKind.i64.wrap ((f32 (f60 x0).1) - (53 : Int)))).toNat IntKind.u64.bits)))) == (IntKind.u64.wrap ((1 : Int) * 2 ^ (min (IntKind.u64.wrap (IntKind.i64.wrap ((IntKind.i64.wrap ((f32 (f60 x0).1) - (53 : Int))) - (1 : Int)))).toNat IntKind.u64.bits)))) = true → ((((f60 x0).1.fdiv (2 ^ (min (IntKind.u64.wrap (IntKind.i64.wrap ((f32 (f60 x0).1) - (53 : Int)))).toNat IntKind.u64.bits))).tmod (2 : Int)) == (1 : Int)) = true → LdOk (IntKind.u64.wrap (((f60 x0).1.fdiv (2 ^ (min (IntKind.u64.wrap (IntKind.i64.wrap ((f32 (f60 x0).1) - (53 : Int)))).toNat IntKind.u64.bits))) + (1 : Int))) (IntKind.i64.wrap ((f32 (f60 x0).1) - (53 : Int))))
    (o2 : ((f60 x0).1 == (0 : Int)) = false → (decide ((IntKind.i64.wrap ((f32 (f60 x0).1) - (53 : Int))) > (0 : Int))) = true → (decide (((f60 x0).1.tmod (IntKind.u64.wrap ((1 : Int) * 2 ^ (min (IntKind.u64.wrap (IntKind.i64.wrap ((f32 (f60 x0).1) - (53 : Int)))).toNat IntKind.u64.bits)))) > (IntKind.u64.wrap ((1 : Int) * 2 ^ (min (IntKind.u64.wrap (IntKind.i64.wrap ((IntKind.i64.wrap ((f32 (f60 x0).1) - (53 : Int))) - (1 : Int)))).toNat IntKind.u64.bits))))) = false → (((f60 x0).1.tmod (IntKind.u64.wrap ((1 : Int) * 2 ^ (min (IntKind.u64.wrap (IntKind.i64.wrap ((f32 (f60 x0).1) - (53 : Int)))).toNat IntKind.u64.bits)))) == (IntKind.u64.wrap ((1 : Int) * 2 ^ (min (IntKind.u64.wrap (IntKind.i64.wrap ((IntKind.i64.wrap ((f32 (f60 x0).1) - (53 : Int))) - (1 : Int)))).toNat IntKind.u64.bits)))) = true → ((((f60 x0).1.fdiv (2 ^ (min (IntKind.u64.wrap (IntKind.i64.wrap ((f32 (f60 x0).1) - (53 : Int)))).toNat IntKind.u64.bits))).tmod (2 : Int)) == (1 : Int)) = false → LdOk ((f60 x0).1.fdiv (2 ^ (min (IntKind.u64.wrap (IntKind.i64.wrap ((f32 (f60 x0).1) - (53 : Int)))).toNat IntKind.u64.bits))) (IntKind.i64.wrap ((f32 (f60 x0).1) - (53 : Int))))
    (o3 : ((f60 x0).1 == (0 : Int)) = false → (decide ((IntKind.i64.wrap ((f32 (f60 x0).1) - (53 : Int))) > (0 : Int))) = true → (decide (((f60 x0).1.tmod (IntKind.u64.wrap ((1 : Int) * 2 ^ (min (IntKind.u64.wrap (IntKind.i64.wrap ((f32 (f60 x0).1) - (53 : Int)))).toNat IntKind.u64.bits)))) > (IntKind.u64.wrap ((1 : Int) * 2 ^ (min (IntKind.u64.wrap (IntKind.i64.wrap ((IntKind.i64.wrap ((f32 (f60 x0).1) - (53 : Int))) - (1 : Int)))).toNat IntKind.u64.bits))))) = false → (((f60 x0).1.tmod (IntKind.u64.wrap ((1 : Int) * 2 ^ (min (IntKind.u64.wrap (IntKind.i64.wrap ((f32 (f60 x0).1) - (53 : Int)))).toNat IntKind.u64.bits)))) == (IntKind.u64.wrap ((1 : Int) * 2 ^ (min (IntKind.u64.wrap (IntKind.i64.wrap ((IntKind.i64.wrap ((f32 (f60 x0).1) - (53 : Int))) - (1 : Int)))).toNat IntKind.u64.bits)))) = false → LdOk ((f60 x0).1.fdiv (2 ^ (min (IntKind.u64.wrap (IntKind.i64.wrap ((f32 (f60 x0).1) - (53 : Int)))).toNat IntKind.u64.bits))) (IntKind.i64.wrap ((f32 (f60 x0).1) - (53 : Int))))
    (o4 : ((f60 x0).1 == (0 : Int)) = false → (decide ((IntKind.i64.wrap ((f32 (f60 x0).1) - (53 : Int))) > (0 : Int))) = false → LdOk (IntKind.u64.wrap ((f60 x0).1 * 2 ^ (min (IntKind.u64.wrap (IntKind.i64.wrap (0 - (IntKind.i64.wrap ((f32 (f60 x0).1) - (53 : Int)))))).toNat IntKind.u64.bits))) (IntKind.i64.wrap ((f32 (f60 x0).1) - (53 : Int))))
    (H : Heap) : PC T H 48 [.int .u64 x0] (.int .u64 (f48 x0)) := PC.now rfl rfl (w48 x0 b0 o0 o1 o2 o3 o4)

end Go.Eng.Sca
