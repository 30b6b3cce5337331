/- Functions of this seat, each with a plain function that gives the same answers (lines written by a program of this session's; no condition beyond those stated). -/
import Derived.Test.YtiacbfphlgbiiaaScaH
namespace Go.Eng.Sca
open Go Go.Eng
set_option linter.unusedVariables false
set_option linter.unusedSimpArgs false
set_option maxRecDepth 20000
set_option maxHeartbeats 4000000

theorem bne_t {a b : Int} (h : (a == b) = true) : (a != b) = false := by rw [bne, h]; rfl
theorem bne_f {a b : Int} (h : (a == b) = false) : (a != b) = true := by rw [bne, h]; rfl
theorem beq_f {a b : Int} (h : (a != b) = true) : (a == b) = false := by simpa [bne] using h
theorem beq_t {a b : Int} (h : (a != b) = false) : (a == b) = true := by simpa [bne] using h

/- smithy/smithyref01.part -/
def f59 (x0 : Int) : Int × Bool :=
if (decide ((IntKind.i64.wrap ((IntKind.i64.wrap ((x0.fdiv (2 ^ (min (52 : Int).toNat IntKind.u64.bits))).tmod (2048 : Int))) - (1075 : Int))) < (-1074 : Int))) then
  ((0 : Int), true)
else
  if (decide ((IntKind.i64.wrap ((IntKind.i64.wrap ((x0.fdiv (2 ^ (min (52 : Int).toNat IntKind.u64.bits))).tmod (2048 : Int))) - (1075 : Int))) ≤ (-53 : Int))) then
    ((0 : Int), true)
  else
    if (decide ((IntKind.i64.wrap ((IntKind.i64.wrap ((x0.fdiv (2 ^ (min (52 : Int).toNat IntKind.u64.bits))).tmod (2048 : Int))) - (1075 : Int))) ≤ (0 : Int))) then
      (((IntKind.u64.wrap ((x0.tmod (4503599627370496 : Int)) + (4503599627370496 : Int))).fdiv (2 ^ (min (IntKind.u64.wrap (IntKind.i64.wrap (0 - (IntKind.i64.wrap ((IntKind.i64.wrap ((x0.fdiv (2 ^ (min (52 : Int).toNat IntKind.u64.bits))).tmod (2048 : Int))) - (1075 : Int)))))).toNat IntKind.u64.bits))), true)
    else
      if (decide ((IntKind.i64.wrap ((IntKind.i64.wrap ((x0.fdiv (2 ^ (min (52 : Int).toNat IntKind.u64.bits))).tmod (2048 : Int))) - (1075 : Int))) > (11 : Int))) then
        ((0 : Int), false)
      else
        ((IntKind.u64.wrap ((IntKind.u64.wrap ((x0.tmod (4503599627370496 : Int)) + (4503599627370496 : Int))) * 2 ^ (min (IntKind.u64.wrap (IntKind.i64.wrap ((IntKind.i64.wrap ((x0.fdiv (2 ^ (min (52 : Int).toNat IntKind.u64.bits))).tmod (2048 : Int))) - (1075 : Int)))).toNat IntKind.u64.bits))), true)
theorem w59 (x0 : Int) (H : Heap) : Fn T 59 [.int .u64 x0] H (fun r h => r = .tup [.int .u64 (f59 x0).1, .bool (f59 x0).2] ∧ h = H) := by
  refine Fn.enter t59 ?_; simp only [i59, List.length_cons, List.length_nil, Nat.reduceAdd, Nat.reduceSub, List.replicate_succ, List.replicate_zero, List.cons_append, List.nil_append]
  refine Run.seq ?_
  refine Run.rgn ?_
  refine RunO.all ?_
  simp only [i59r0, SB, x_mov]
  show Run T _ _ _ _
  refine Run.seq ?_
  refine Run.rgn ?_
  refine RunO.all ?_
  simp only [i59r1, SB, x_bin, binV, intB, x_cvt, x_mov, if_true, reduceCtorEq, not_false_eq_true, if_neg_u64, if_neg_one, if_neg (show ¬ ((52 : Int) < 0) by decide), if_neg (show ¬ ((2048 : Int) = 0) by decide)]
  show Run T _ _ _ _
  refine Run.seq ?_
  refine Run.rgn ?_
  refine RunO.all ?_
  simp only [i59r2, SB, x_bin, binV, intB, x_mov, if_true, reduceCtorEq, not_false_eq_true, if_neg (show ¬ ((4503599627370496 : Int) = 0) by decide)]
  show Run T _ _ _ _
  refine Run.seq ?_
  refine Run.seq ?_
  refine Run.rgn ?_
  refine RunO.pre 3 ?_
  simp only [i59r3, List.take_succ_cons, List.take_zero, List.drop_succ_cons, List.drop_zero, SB, x_bin, binV, intB, x_mov, if_true, reduceCtorEq, not_false_eq_true]
  rcases Bool.eq_false_or_eq_true (decide ((IntKind.i64.wrap ((IntKind.i64.wrap ((x0.fdiv (2 ^ (min (52 : Int).toNat IntKind.u64.bits))).tmod (2048 : Int))) - (1075 : Int))) < (-1074 : Int))) with h0 | h0
  ·
   refine RunO.all ?_
   simp only [List.drop_zero, SB, x_bin, binV, intB, x_mov, x_pick, if_true, if_false, Bool.false_eq_true, if_true, reduceCtorEq, not_false_eq_true, exOp_gt, exOp_gf, exOp_gf2, exOp_gs, h0]
   show Run T _ _ _ _
   refine Run.ite (by rfl) (fun _ => ?_) (fun h => by first | exact absurd h (by decide) | (simp only [h0, reduceCtorEq, Bool.not_true, Bool.not_false, Bool.false_eq_true, Bool.true_eq_false] at h))
   refine Run.seq ?_
   refine Run.rgn ?_
   refine RunO.all ?_
   simp only [i59r4, SB, x_mov, h0]
   show Run T _ _ _ _
   refine Run.ret ⟨?_, rfl⟩
   first | (rw [f59, ite_t h0]; rfl) | (rw [f59, ite_t h0]; simp only [resV, ev_t, List.getD_cons_zero, List.getD_cons_succ, List.map_cons, List.map_nil, h0]; done) | (simp only [f59, if_true, Bool.false_eq_true, if_false, h0]; rfl)
  ·
   refine RunO.all ?_
   simp only [List.drop_zero, SB, x_bin, binV, intB, x_mov, x_pick, if_true, if_false, Bool.false_eq_true, if_true, reduceCtorEq, not_false_eq_true, exOp_gt, exOp_gf, exOp_gf2, exOp_gs, h0]
   show Run T _ _ _ _
   refine Run.ite (by rfl) (fun h1 => ?_) (fun h1 => ?_)
   ·
    refine Run.seq ?_
    refine Run.rgn ?_
    refine RunO.all ?_
    simp only [i59r4, SB, x_mov, h0, h1]
    show Run T _ _ _ _
    refine Run.ret ⟨?_, rfl⟩
    first | (rw [f59, ite_f h0, ite_t h1]; rfl) | (rw [f59, ite_f h0, ite_t h1]; simp only [resV, ev_t, List.getD_cons_zero, List.getD_cons_succ, List.map_cons, List.map_nil, h0, h1]; done) | (simp only [f59, if_true, Bool.false_eq_true, if_false, h0, h1]; rfl)
   ·
    refine Run.skip ?_
    show Run T _ _ _ _
    refine Run.seq ?_
    refine Run.seq ?_
    refine Run.rgn ?_
    refine RunO.all ?_
    simp only [i59r8, SB, x_bin, binV, intB, x_mov, if_true, reduceCtorEq, not_false_eq_true, h0, h1]
    show Run T _ _ _ _
    refine Run.ite (by rfl) (fun h2 => ?_) (fun h2 => ?_)
    ·
     refine Run.seq ?_
     refine Run.rgn ?_
     refine RunO.all ?_
     simp only [i59r9, SB, x_bin, binV, intB, x_cvt, x_mov, x_un, unV, intB, if_true, reduceCtorEq, not_false_eq_true, if_neg_u64, if_neg_one, h0, h1, h2]
     show Run T _ _ _ _
     refine Run.ret ⟨?_, rfl⟩
     first | (rw [f59, ite_f h0, ite_f h1, ite_t h2]; rfl) | (rw [f59, ite_f h0, ite_f h1, ite_t h2]; simp only [resV, ev_t, List.getD_cons_zero, List.getD_cons_succ, List.map_cons, List.map_nil, h0, h1, h2]; done) | (simp only [f59, if_true, Bool.false_eq_true, if_false, h0, h1, h2]; rfl)
    ·
     refine Run.skip ?_
     show Run T _ _ _ _
     refine Run.seq ?_
     refine Run.seq ?_
     refine Run.rgn ?_
     refine RunO.all ?_
     simp only [i59r13, SB, x_bin, binV, intB, x_mov, if_true, reduceCtorEq, not_false_eq_true, h0, h1, h2]
     show Run T _ _ _ _
     refine Run.ite (by rfl) (fun h3 => ?_) (fun h3 => ?_)
     ·
      refine Run.seq ?_
      refine Run.rgn ?_
      refine RunO.all ?_
      simp only [i59r14, SB, x_mov, h0, h1, h2, h3]
      show Run T _ _ _ _
      refine Run.ret ⟨?_, rfl⟩
      first | (rw [f59, ite_f h0, ite_f h1, ite_f h2, ite_t h3]; rfl) | (rw [f59, ite_f h0, ite_f h1, ite_f h2, ite_t h3]; simp only [resV, ev_t, List.getD_cons_zero, List.getD_cons_succ, List.map_cons, List.map_nil, h0, h1, h2, h3]; done) | (simp only [f59, if_true, Bool.false_eq_true, if_false, h0, h1, h2, h3]; rfl)
     ·
      refine Run.skip ?_
      show Run T _ _ _ _
      refine Run.seq ?_
      refine Run.rgn ?_
      refine RunO.all ?_
      simp only [i59r18, SB, x_bin, binV, intB, x_cvt, x_mov, if_true, reduceCtorEq, not_false_eq_true, if_neg_u64, if_neg_one, h0, h1, h2, h3]
      show Run T _ _ _ _
      refine Run.ret ⟨?_, rfl⟩
      first | (rw [f59, ite_f h0, ite_f h1, ite_f h2, ite_f h3]; rfl) | (rw [f59, ite_f h0, ite_f h1, ite_f h2, ite_f h3]; simp only [resV, ev_t, List.getD_cons_zero, List.getD_cons_succ, List.map_cons, List.map_nil, h0, h1, h2, h3]; done) | (simp only [f59, if_true, Bool.false_eq_true, if_false, h0, h1, h2, h3]; rfl)
theorem c59 (x0 : Int) (H : Heap) : PC T H 59 [.int .u64 x0] (.tup [.int .u64 (f59 x0).1, .bool (f59 x0).2]) := PC.now rfl rfl (w59 x0 )

/- smithy/smithyref01.fits -/
def f47 (x0 : Int) (x1 : Int) : Int × Bool :=
if (!(f59 x1).2) then
  ((0 : Int), false)
else
  if (f37 x1) then
    ((0 : Int), false)
  else
    if (x0 == (2 : Int)) then
      if (decide (x1 ≥ (9223372036854775808 : Int))) then
        if (decide ((f59 x1).1 > (0 : Int))) then
          ((0 : Int), false)
        else
          ((IntKind.u64.wrap (0 - (f59 x1).1)), true)
      else
        if (x0 == (3 : Int)) then
          if (decide ((f59 x1).1 > (2147483647 : Int))) then
            ((0 : Int), false)
          else
            ((f59 x1).1, true)
        else
          if (x0 == (4 : Int)) then
            if (decide ((f59 x1).1 > (9223372036854775807 : Int))) then
              ((0 : Int), false)
            else
              ((f59 x1).1, true)
          else
            if (decide ((f59 x1).1 > (255 : Int))) then
              ((0 : Int), false)
            else
              ((f59 x1).1, true)
    else
      if (x0 == (3 : Int)) then
        if (decide (x1 ≥ (9223372036854775808 : Int))) then
          if (decide ((f59 x1).1 > (IntKind.u64.wrap ((2147483647 : Int) + (1 : Int))))) then
            ((0 : Int), false)
          else
            ((IntKind.u64.wrap (0 - (f59 x1).1)), true)
        else
          if (decide ((f59 x1).1 > (2147483647 : Int))) then
            ((0 : Int), false)
          else
            ((f59 x1).1, true)
      else
        if (x0 == (4 : Int)) then
          if (decide (x1 ≥ (9223372036854775808 : Int))) then
            if (decide ((f59 x1).1 > (IntKind.u64.wrap ((9223372036854775807 : Int) + (1 : Int))))) then
              ((0 : Int), false)
            else
              ((IntKind.u64.wrap (0 - (f59 x1).1)), true)
          else
            if (decide ((f59 x1).1 > (9223372036854775807 : Int))) then
              ((0 : Int), false)
            else
              ((f59 x1).1, true)
        else
          if (decide (x1 ≥ (9223372036854775808 : Int))) then
            if (decide ((f59 x1).1 > (IntKind.u64.wrap ((255 : Int) + (1 : Int))))) then
              ((0 : Int), false)
            else
              ((IntKind.u64.wrap (0 - (f59 x1).1)), true)
          else
            if (decide ((f59 x1).1 > (255 : Int))) then
              ((0 : Int), false)
            else
              ((f59 x1).1, true)
theorem w47 (x0 : Int) (x1 : Int) (H : Heap) : Fn T 47 [.int .u8 x0, .int .u64 x1] H (fun r h => r = .tup [.int .u64 (f47 x0 x1).1, .bool (f47 x0 x1).2] ∧ h = H) := by
  refine Fn.enter t47 ?_; simp only [i47, List.length_cons, List.length_nil, Nat.reduceAdd, Nat.reduceSub, List.replicate_succ, List.replicate_zero, List.cons_append, List.nil_append]
  refine Run.seq ?_
  refine Run.rgn ?_
  refine RunO.all ?_
  simp only [i47r0, SB, x_mov]
  show Run T _ _ _ _
  refine Run.seq ?_
  refine Run.rgn ?_
  refine RunO.pre 1 ?_
  simp only [i47r1, List.take_succ_cons, List.take_zero, List.drop_succ_cons, List.drop_zero, SB, x_mov]
  refine RunO.c (c59 x1 _) ?_
  refine RunO.all ?_
  simp only [SB, x_ext, extV, List.getElem?_cons_zero, List.getElem?_cons_succ, x_mov]
  show Run T _ _ _ _
  refine Run.seq ?_
  refine Run.seq ?_
  refine Run.rgn ?_
  refine RunO.pre 3 ?_
  simp only [i47r2, List.take_succ_cons, List.take_zero, List.drop_succ_cons, List.drop_zero, SB, x_mov, x_un, unV, intB]
  rcases Bool.eq_false_or_eq_true (!(f59 x1).2) with h0 | h0
  ·
   refine RunO.pre 1 ?_
   simp only [List.drop_zero, List.take_succ_cons, List.take_zero, List.drop_succ_cons, List.drop_zero, SB, x_mov, exOp_gt, exOp_gf, exOp_gf2, exOp_gs, h0]
   refine RunO.cs (b := true) (by rfl) (by decide) ?_
   refine RunO.all ?_
   simp only [SB, x_pick, if_true, if_false, Bool.false_eq_true, h0]
   show Run T _ _ _ _
   refine Run.ite (by rfl) (fun _ => ?_) (fun h => by first | exact absurd h (by decide) | (simp only [h0, reduceCtorEq, Bool.not_true, Bool.not_false, Bool.false_eq_true, Bool.true_eq_false] at h))
   refine Run.seq ?_
   refine Run.rgn ?_
   refine RunO.all ?_
   simp only [i47r3, SB, x_mov, h0]
   show Run T _ _ _ _
   refine Run.ret ⟨?_, rfl⟩
   first | (rw [f47, ite_t h0]; rfl) | (rw [f47, ite_t h0]; simp only [resV, ev_t, List.getD_cons_zero, List.getD_cons_succ, List.map_cons, List.map_nil, h0]; done) | (simp only [f47, if_true, Bool.false_eq_true, if_false, h0]; rfl)
  ·
   refine RunO.pre 1 ?_
   simp only [List.drop_zero, List.take_succ_cons, List.take_zero, List.drop_succ_cons, List.drop_zero, SB, x_mov, exOp_gt, exOp_gf, exOp_gf2, exOp_gs, h0]
   refine RunO.cg (by rfl) (c37 x1 _) ?_
   refine RunO.all ?_
   simp only [SB, x_pick, if_true, if_false, Bool.false_eq_true, h0]
   show Run T _ _ _ _
   refine Run.ite (by rfl) (fun h1 => ?_) (fun h1 => ?_)
   ·
    refine Run.seq ?_
    refine Run.rgn ?_
    refine RunO.all ?_
    simp only [i47r3, SB, x_mov, h0, h1]
    show Run T _ _ _ _
    refine Run.ret ⟨?_, rfl⟩
    first | (rw [f47, ite_f h0, ite_t h1]; rfl) | (rw [f47, ite_f h0, ite_t h1]; simp only [resV, ev_t, List.getD_cons_zero, List.getD_cons_succ, List.map_cons, List.map_nil, h0, h1]; done) | (simp only [f47, if_true, Bool.false_eq_true, if_false, h0, h1]; rfl)
   ·
    refine Run.skip ?_
    show Run T _ _ _ _
    refine Run.seq ?_
    refine Run.rgn ?_
    refine RunO.all ?_
    simp only [i47r7, SB, x_bin, binV, intB, x_mov, if_true, reduceCtorEq, not_false_eq_true, h0, h1]
    show Run T _ _ _ _
    refine Run.seq ?_
    refine Run.rgn ?_
    refine RunO.all ?_
    simp only [i47r8, SB, x_mov, h0, h1]
    show Run T _ _ _ _
    refine Run.seq ?_
    refine Run.block ?_
    refine Run.seq ?_
    refine Run.rgn ?_
    refine RunO.pre 3 ?_
    simp only [i47r9, List.take_succ_cons, List.take_zero, List.drop_succ_cons, List.drop_zero, SB, x_bin, binV, intB, x_mov, if_true, reduceCtorEq, not_false_eq_true, h0, h1]
    rcases Bool.eq_false_or_eq_true (x0 == (2 : Int)) with h2 | h2
    ·
     refine RunO.all ?_
     simp only [List.drop_zero, SB, x_mov, x_pick, if_true, if_false, Bool.false_eq_true, exOp_gt, exOp_gf, exOp_gf2, exOp_gs, h0, h1, h2, bne_t h2]
     show Run T _ _ _ _
     refine Run.ite (by rfl) (fun h3 => ?_) (fun h3 => ?_)
     ·
      refine Run.rgn ?_
      refine RunO.all ?_
      simp only [i47r10, SB, x_mov, h0, h1, h2, bne_t h2, h3]
      show Run T _ _ _ _
      refine Run.seq ?_
      refine Run.seq ?_
      refine Run.rgn ?_
      refine RunO.all ?_
      simp only [i47r22, SB, x_bin, binV, intB, x_mov, x_pick, if_true, if_false, Bool.false_eq_true, if_true, reduceCtorEq, not_false_eq_true, exOp_gt, exOp_gf, exOp_gf2, exOp_gs, h0, h1, h2, bne_t h2, h3]
      show Run T _ _ _ _
      refine Run.ite (by rfl) (fun h => by first | exact absurd h (by decide) | (simp only [h0, h1, h2, bne_t h2, h3, reduceCtorEq, Bool.not_true, Bool.not_false, Bool.false_eq_true, Bool.true_eq_false] at h)) (fun _ => ?_)
      refine Run.skip ?_
      show Run T _ _ _ _
      refine Run.seq ?_
      refine Run.seq ?_
      refine Run.rgn ?_
      refine RunO.all ?_
      simp only [i47r26, SB, x_bin, binV, intB, x_mov, if_true, reduceCtorEq, not_false_eq_true, h0, h1, h2, bne_t h2, h3]
      show Run T _ _ _ _
      refine Run.ite (by rfl) (fun h4 => ?_) (fun h4 => ?_)
      ·
       refine Run.seq ?_
       refine Run.rgn ?_
       refine RunO.all ?_
       simp only [i47r27, SB, x_mov, h0, h1, h2, bne_t h2, h3, h4]
       show Run T _ _ _ _
       refine Run.ret ⟨?_, rfl⟩
       first | (rw [f47, ite_f h0, ite_f h1, ite_t h2, ite_t h3, ite_t h4]; rfl) | (rw [f47, ite_f h0, ite_f h1, ite_t h2, ite_t h3, ite_t h4]; simp only [resV, ev_t, List.getD_cons_zero, List.getD_cons_succ, List.map_cons, List.map_nil, h0, h1, h2, bne_t h2, h3, h4]; done) | (simp only [f47, if_true, Bool.false_eq_true, if_false, h0, h1, h2, bne_t h2, h3, h4]; rfl)
      ·
       refine Run.skip ?_
       show Run T _ _ _ _
       refine Run.seq ?_
       refine Run.seq ?_
       refine Run.rgn ?_
       refine RunO.all ?_
       simp only [i47r31, SB, x_mov, h0, h1, h2, bne_t h2, h3, h4]
       show Run T _ _ _ _
       refine Run.ite (by rfl) (fun _ => ?_) (fun h => by first | exact absurd h (by decide) | (simp only [h0, h1, h2, bne_t h2, h3, h4, reduceCtorEq, Bool.not_true, Bool.not_false, Bool.false_eq_true, Bool.true_eq_false] at h))
       refine Run.rgn ?_
       refine RunO.all ?_
       simp only [i47r32, SB, x_mov, x_un, unV, intB, h0, h1, h2, bne_t h2, h3, h4]
       show Run T _ _ _ _
       refine Run.seq ?_
       refine Run.rgn ?_
       refine RunO.all ?_
       simp only [i47r35, SB, x_mov, h0, h1, h2, bne_t h2, h3, h4]
       show Run T _ _ _ _
       refine Run.ret ⟨?_, rfl⟩
       first | (rw [f47, ite_f h0, ite_f h1, ite_t h2, ite_t h3, ite_f h4]; rfl) | (rw [f47, ite_f h0, ite_f h1, ite_t h2, ite_t h3, ite_f h4]; simp only [resV, ev_t, List.getD_cons_zero, List.getD_cons_succ, List.map_cons, List.map_nil, h0, h1, h2, bne_t h2, h3, h4]; done) | (simp only [f47, if_true, Bool.false_eq_true, if_false, h0, h1, h2, bne_t h2, h3, h4]; rfl)
     ·
      refine Run.seq ?_
      refine Run.rgn ?_
      refine RunO.all ?_
      simp only [i47r11, SB, x_bin, binV, intB, x_mov, if_true, reduceCtorEq, not_false_eq_true, h0, h1, h2, bne_t h2, h3]
      show Run T _ _ _ _
      refine Run.ite (by rfl) (fun h5 => ?_) (fun h5 => ?_)
      ·
       refine Run.rgn ?_
       refine RunO.all ?_
       simp only [i47r12, SB, x_mov, h0, h1, h2, bne_t h2, h3, h5, bne_t h5]
       show Run T _ _ _ _
       refine Run.seq ?_
       refine Run.seq ?_
       refine Run.rgn ?_
       refine RunO.all ?_
       simp only [i47r22, SB, x_bin, binV, intB, x_mov, x_pick, if_true, if_false, Bool.false_eq_true, if_true, reduceCtorEq, not_false_eq_true, exOp_gt, exOp_gf, exOp_gf2, exOp_gs, h0, h1, h2, bne_t h2, h3, h5, bne_t h5]
       show Run T _ _ _ _
       refine Run.ite (by rfl) (fun h => by first | exact absurd h (by decide) | (simp only [h0, h1, h2, bne_t h2, h3, h5, bne_t h5, reduceCtorEq, Bool.not_true, Bool.not_false, Bool.false_eq_true, Bool.true_eq_false] at h)) (fun _ => ?_)
       refine Run.skip ?_
       show Run T _ _ _ _
       refine Run.seq ?_
       refine Run.seq ?_
       refine Run.rgn ?_
       refine RunO.all ?_
       simp only [i47r26, SB, x_bin, binV, intB, x_mov, if_true, reduceCtorEq, not_false_eq_true, h0, h1, h2, bne_t h2, h3, h5, bne_t h5]
       show Run T _ _ _ _
       refine Run.ite (by rfl) (fun h6 => ?_) (fun h6 => ?_)
       ·
        refine Run.seq ?_
        refine Run.rgn ?_
        refine RunO.all ?_
        simp only [i47r27, SB, x_mov, h0, h1, h2, bne_t h2, h3, h5, bne_t h5, h6]
        show Run T _ _ _ _
        refine Run.ret ⟨?_, rfl⟩
        first | (rw [f47, ite_f h0, ite_f h1, ite_t h2, ite_f h3, ite_t h5, ite_t h6]; rfl) | (rw [f47, ite_f h0, ite_f h1, ite_t h2, ite_f h3, ite_t h5, ite_t h6]; simp only [resV, ev_t, List.getD_cons_zero, List.getD_cons_succ, List.map_cons, List.map_nil, h0, h1, h2, bne_t h2, h3, h5, bne_t h5, h6]; done) | (simp only [f47, if_true, Bool.false_eq_true, if_false, h0, h1, h2, bne_t h2, h3, h5, bne_t h5, h6]; rfl)
       ·
        refine Run.skip ?_
        show Run T _ _ _ _
        refine Run.seq ?_
        refine Run.seq ?_
        refine Run.rgn ?_
        refine RunO.all ?_
        simp only [i47r31, SB, x_mov, h0, h1, h2, bne_t h2, h3, h5, bne_t h5, h6]
        show Run T _ _ _ _
        refine Run.ite (by rfl) (fun h => by first | exact absurd h (by decide) | (simp only [h0, h1, h2, bne_t h2, h3, h5, bne_t h5, h6, reduceCtorEq, Bool.not_true, Bool.not_false, Bool.false_eq_true, Bool.true_eq_false] at h)) (fun _ => ?_)
        refine Run.skip ?_
        show Run T _ _ _ _
        refine Run.seq ?_
        refine Run.rgn ?_
        refine RunO.all ?_
        simp only [i47r35, SB, x_mov, h0, h1, h2, bne_t h2, h3, h5, bne_t h5, h6]
        show Run T _ _ _ _
        refine Run.ret ⟨?_, rfl⟩
        first | (rw [f47, ite_f h0, ite_f h1, ite_t h2, ite_f h3, ite_t h5, ite_f h6]; rfl) | (rw [f47, ite_f h0, ite_f h1, ite_t h2, ite_f h3, ite_t h5, ite_f h6]; simp only [resV, ev_t, List.getD_cons_zero, List.getD_cons_succ, List.map_cons, List.map_nil, h0, h1, h2, bne_t h2, h3, h5, bne_t h5, h6]; done) | (simp only [f47, if_true, Bool.false_eq_true, if_false, h0, h1, h2, bne_t h2, h3, h5, bne_t h5, h6]; rfl)
      ·
       refine Run.seq ?_
       refine Run.rgn ?_
       refine RunO.all ?_
       simp only [i47r13, SB, x_bin, binV, intB, x_mov, if_true, reduceCtorEq, not_false_eq_true, h0, h1, h2, bne_t h2, h3, h5, bne_f h5]
       show Run T _ _ _ _
       refine Run.ite (by rfl) (fun h7 => ?_) (fun h7 => ?_)
       ·
        refine Run.rgn ?_
        refine RunO.all ?_
        simp only [i47r14, SB, x_mov, h0, h1, h2, bne_t h2, h3, h5, bne_f h5, h7, bne_t h7]
        show Run T _ _ _ _
        refine Run.seq ?_
        refine Run.seq ?_
        refine Run.rgn ?_
        refine RunO.all ?_
        simp only [i47r22, SB, x_bin, binV, intB, x_mov, x_pick, if_true, if_false, Bool.false_eq_true, if_true, reduceCtorEq, not_false_eq_true, exOp_gt, exOp_gf, exOp_gf2, exOp_gs, h0, h1, h2, bne_t h2, h3, h5, bne_f h5, h7, bne_t h7]
        show Run T _ _ _ _
        refine Run.ite (by rfl) (fun h => by first | exact absurd h (by decide) | (simp only [h0, h1, h2, bne_t h2, h3, h5, bne_f h5, h7, bne_t h7, reduceCtorEq, Bool.not_true, Bool.not_false, Bool.false_eq_true, Bool.true_eq_false] at h)) (fun _ => ?_)
        refine Run.skip ?_
        show Run T _ _ _ _
        refine Run.seq ?_
        refine Run.seq ?_
        refine Run.rgn ?_
        refine RunO.all ?_
        simp only [i47r26, SB, x_bin, binV, intB, x_mov, if_true, reduceCtorEq, not_false_eq_true, h0, h1, h2, bne_t h2, h3, h5, bne_f h5, h7, bne_t h7]
        show Run T _ _ _ _
        refine Run.ite (by rfl) (fun h8 => ?_) (fun h8 => ?_)
        ·
         refine Run.seq ?_
         refine Run.rgn ?_
         refine RunO.all ?_
         simp only [i47r27, SB, x_mov, h0, h1, h2, bne_t h2, h3, h5, bne_f h5, h7, bne_t h7, h8]
         show Run T _ _ _ _
         refine Run.ret ⟨?_, rfl⟩
         first | (rw [f47, ite_f h0, ite_f h1, ite_t h2, ite_f h3, ite_f h5, ite_t h7, ite_t h8]; rfl) | (rw [f47, ite_f h0, ite_f h1, ite_t h2, ite_f h3, ite_f h5, ite_t h7, ite_t h8]; simp only [resV, ev_t, List.getD_cons_zero, List.getD_cons_succ, List.map_cons, List.map_nil, h0, h1, h2, bne_t h2, h3, h5, bne_f h5, h7, bne_t h7, h8]; done) | (simp only [f47, if_true, Bool.false_eq_true, if_false, h0, h1, h2, bne_t h2, h3, h5, bne_f h5, h7, bne_t h7, h8]; rfl)
        ·
         refine Run.skip ?_
         show Run T _ _ _ _
         refine Run.seq ?_
         refine Run.seq ?_
         refine Run.rgn ?_
         refine RunO.all ?_
         simp only [i47r31, SB, x_mov, h0, h1, h2, bne_t h2, h3, h5, bne_f h5, h7, bne_t h7, h8]
         show Run T _ _ _ _
         refine Run.ite (by rfl) (fun h => by first | exact absurd h (by decide) | (simp only [h0, h1, h2, bne_t h2, h3, h5, bne_f h5, h7, bne_t h7, h8, reduceCtorEq, Bool.not_true, Bool.not_false, Bool.false_eq_true, Bool.true_eq_false] at h)) (fun _ => ?_)
         refine Run.skip ?_
         show Run T _ _ _ _
         refine Run.seq ?_
         refine Run.rgn ?_
         refine RunO.all ?_
         simp only [i47r35, SB, x_mov, h0, h1, h2, bne_t h2, h3, h5, bne_f h5, h7, bne_t h7, h8]
         show Run T _ _ _ _
         refine Run.ret ⟨?_, rfl⟩
         first | (rw [f47, ite_f h0, ite_f h1, ite_t h2, ite_f h3, ite_f h5, ite_t h7, ite_f h8]; rfl) | (rw [f47, ite_f h0, ite_f h1, ite_t h2, ite_f h3, ite_f h5, ite_t h7, ite_f h8]; simp only [resV, ev_t, List.getD_cons_zero, List.getD_cons_succ, List.map_cons, List.map_nil, h0, h1, h2, bne_t h2, h3, h5, bne_f h5, h7, bne_t h7, h8]; done) | (simp only [f47, if_true, Bool.false_eq_true, if_false, h0, h1, h2, bne_t h2, h3, h5, bne_f h5, h7, bne_t h7, h8]; rfl)
       ·
        refine Run.skip ?_
        show Run T _ _ _ _
        refine Run.seq ?_
        refine Run.seq ?_
        refine Run.rgn ?_
        refine RunO.all ?_
        simp only [i47r22, SB, x_bin, binV, intB, x_mov, x_pick, if_true, if_false, Bool.false_eq_true, if_true, reduceCtorEq, not_false_eq_true, exOp_gt, exOp_gf, exOp_gf2, exOp_gs, h0, h1, h2, bne_t h2, h3, h5, bne_f h5, h7, bne_f h7]
        show Run T _ _ _ _
        refine Run.ite (by rfl) (fun h => by first | exact absurd h (by decide) | (simp only [h0, h1, h2, bne_t h2, h3, h5, bne_f h5, h7, bne_f h7, reduceCtorEq, Bool.not_true, Bool.not_false, Bool.false_eq_true, Bool.true_eq_false] at h)) (fun _ => ?_)
        refine Run.skip ?_
        show Run T _ _ _ _
        refine Run.seq ?_
        refine Run.seq ?_
        refine Run.rgn ?_
        refine RunO.all ?_
        simp only [i47r26, SB, x_bin, binV, intB, x_mov, if_true, reduceCtorEq, not_false_eq_true, h0, h1, h2, bne_t h2, h3, h5, bne_f h5, h7, bne_f h7]
        show Run T _ _ _ _
        refine Run.ite (by rfl) (fun h9 => ?_) (fun h9 => ?_)
        ·
         refine Run.seq ?_
         refine Run.rgn ?_
         refine RunO.all ?_
         simp only [i47r27, SB, x_mov, h0, h1, h2, bne_t h2, h3, h5, bne_f h5, h7, bne_f h7, h9]
         show Run T _ _ _ _
         refine Run.ret ⟨?_, rfl⟩
         first | (rw [f47, ite_f h0, ite_f h1, ite_t h2, ite_f h3, ite_f h5, ite_f h7, ite_t h9]; rfl) | (rw [f47, ite_f h0, ite_f h1, ite_t h2, ite_f h3, ite_f h5, ite_f h7, ite_t h9]; simp only [resV, ev_t, List.getD_cons_zero, List.getD_cons_succ, List.map_cons, List.map_nil, h0, h1, h2, bne_t h2, h3, h5, bne_f h5, h7, bne_f h7, h9]; done) | (simp only [f47, if_true, Bool.false_eq_true, if_false, h0, h1, h2, bne_t h2, h3, h5, bne_f h5, h7, bne_f h7, h9]; rfl)
        ·
         refine Run.skip ?_
         show Run T _ _ _ _
         refine Run.seq ?_
         refine Run.seq ?_
         refine Run.rgn ?_
         refine RunO.all ?_
         simp only [i47r31, SB, x_mov, h0, h1, h2, bne_t h2, h3, h5, bne_f h5, h7, bne_f h7, h9]
         show Run T _ _ _ _
         refine Run.ite (by rfl) (fun h => by first | exact absurd h (by decide) | (simp only [h0, h1, h2, bne_t h2, h3, h5, bne_f h5, h7, bne_f h7, h9, reduceCtorEq, Bool.not_true, Bool.not_false, Bool.false_eq_true, Bool.true_eq_false] at h)) (fun _ => ?_)
         refine Run.skip ?_
         show Run T _ _ _ _
         refine Run.seq ?_
         refine Run.rgn ?_
         refine RunO.all ?_
         simp only [i47r35, SB, x_mov, h0, h1, h2, bne_t h2, h3, h5, bne_f h5, h7, bne_f h7, h9]
         show Run T _ _ _ _
         refine Run.ret ⟨?_, rfl⟩
         first | (rw [f47, ite_f h0, ite_f h1, ite_t h2, ite_f h3, ite_f h5, ite_f h7, ite_f h9]; rfl) | (rw [f47, ite_f h0, ite_f h1, ite_t h2, ite_f h3, ite_f h5, ite_f h7, ite_f h9]; simp only [resV, ev_t, List.getD_cons_zero, List.getD_cons_succ, List.map_cons, List.map_nil, h0, h1, h2, bne_t h2, h3, h5, bne_f h5, h7, bne_f h7, h9]; done) | (simp only [f47, if_true, Bool.false_eq_true, if_false, h0, h1, h2, bne_t h2, h3, h5, bne_f h5, h7, bne_f h7, h9]; rfl)
    ·
     refine RunO.all ?_
     simp only [List.drop_zero, SB, x_mov, x_pick, if_true, if_false, Bool.false_eq_true, exOp_gt, exOp_gf, exOp_gf2, exOp_gs, h0, h1, h2, bne_f h2]
     show Run T _ _ _ _
     refine Run.ite (by rfl) (fun h => by first | exact absurd h (by decide) | (simp only [h0, h1, h2, bne_f h2, reduceCtorEq, Bool.not_true, Bool.not_false, Bool.false_eq_true, Bool.true_eq_false] at h)) (fun _ => ?_)
     refine Run.seq ?_
     refine Run.rgn ?_
     refine RunO.all ?_
     simp only [i47r11, SB, x_bin, binV, intB, x_mov, if_true, reduceCtorEq, not_false_eq_true, h0, h1, h2, bne_f h2]
     show Run T _ _ _ _
     refine Run.ite (by rfl) (fun h10 => ?_) (fun h10 => ?_)
     ·
      refine Run.rgn ?_
      refine RunO.all ?_
      simp only [i47r12, SB, x_mov, h0, h1, h2, bne_f h2, h10, bne_t h10]
      show Run T _ _ _ _
      refine Run.seq ?_
      refine Run.seq ?_
      refine Run.rgn ?_
      refine RunO.pre 2 ?_
      simp only [i47r22, List.take_succ_cons, List.take_zero, List.drop_succ_cons, List.drop_zero, SB, x_mov, h0, h1, h2, bne_f h2, h10, bne_t h10]
      rcases Bool.eq_false_or_eq_true (decide (x1 ≥ (9223372036854775808 : Int))) with h11 | h11
      ·
       refine RunO.all ?_
       simp only [List.drop_zero, SB, x_bin, binV, intB, x_mov, x_pick, if_true, if_false, Bool.false_eq_true, if_true, reduceCtorEq, not_false_eq_true, exOp_gt, exOp_gf, exOp_gf2, exOp_gs, h0, h1, h2, bne_f h2, h10, bne_t h10, h11]
       show Run T _ _ _ _
       refine Run.ite (by rfl) (fun _ => ?_) (fun h => by first | exact absurd h (by decide) | (simp only [h0, h1, h2, bne_f h2, h10, bne_t h10, h11, reduceCtorEq, Bool.not_true, Bool.not_false, Bool.false_eq_true, Bool.true_eq_false] at h))
       refine Run.rgn ?_
       refine RunO.all ?_
       simp only [i47r23, SB, x_bin, binV, intB, x_mov, if_true, reduceCtorEq, not_false_eq_true, if_false, Bool.false_eq_true, Int.reduceBEq, Int.reduceBNe, Int.reduceLT, Int.reduceLE, Int.reduceGT, Int.reduceGE, decide_true, decide_false, beq_self_eq_true, bne_self_eq_false, h0, h1, h2, bne_f h2, h10, bne_t h10, h11]
       show Run T _ _ _ _
       refine Run.seq ?_
       refine Run.seq ?_
       refine Run.rgn ?_
       refine RunO.all ?_
       simp only [i47r26, SB, x_bin, binV, intB, x_mov, if_true, reduceCtorEq, not_false_eq_true, h0, h1, h2, bne_f h2, h10, bne_t h10, h11]
       show Run T _ _ _ _
       refine Run.ite (by rfl) (fun h12 => ?_) (fun h12 => ?_)
       ·
        refine Run.seq ?_
        refine Run.rgn ?_
        refine RunO.all ?_
        simp only [i47r27, SB, x_mov, h0, h1, h2, bne_f h2, h10, bne_t h10, h11, h12]
        show Run T _ _ _ _
        refine Run.ret ⟨?_, rfl⟩
        first | (rw [f47, ite_f h0, ite_f h1, ite_f h2, ite_t h10, ite_t h11, ite_t h12]; rfl) | (rw [f47, ite_f h0, ite_f h1, ite_f h2, ite_t h10, ite_t h11, ite_t h12]; simp only [resV, ev_t, List.getD_cons_zero, List.getD_cons_succ, List.map_cons, List.map_nil, h0, h1, h2, bne_f h2, h10, bne_t h10, h11, h12]; done) | (simp only [f47, if_true, Bool.false_eq_true, if_false, h0, h1, h2, bne_f h2, h10, bne_t h10, h11, h12]; rfl)
       ·
        refine Run.skip ?_
        show Run T _ _ _ _
        refine Run.seq ?_
        refine Run.seq ?_
        refine Run.rgn ?_
        refine RunO.all ?_
        simp only [i47r31, SB, x_mov, h0, h1, h2, bne_f h2, h10, bne_t h10, h11, h12]
        show Run T _ _ _ _
        refine Run.ite (by rfl) (fun _ => ?_) (fun h => by first | exact absurd h (by decide) | (simp only [h0, h1, h2, bne_f h2, h10, bne_t h10, h11, h12, reduceCtorEq, Bool.not_true, Bool.not_false, Bool.false_eq_true, Bool.true_eq_false] at h))
        refine Run.rgn ?_
        refine RunO.all ?_
        simp only [i47r32, SB, x_mov, x_un, unV, intB, h0, h1, h2, bne_f h2, h10, bne_t h10, h11, h12]
        show Run T _ _ _ _
        refine Run.seq ?_
        refine Run.rgn ?_
        refine RunO.all ?_
        simp only [i47r35, SB, x_mov, h0, h1, h2, bne_f h2, h10, bne_t h10, h11, h12]
        show Run T _ _ _ _
        refine Run.ret ⟨?_, rfl⟩
        first | (rw [f47, ite_f h0, ite_f h1, ite_f h2, ite_t h10, ite_t h11, ite_f h12]; rfl) | (rw [f47, ite_f h0, ite_f h1, ite_f h2, ite_t h10, ite_t h11, ite_f h12]; simp only [resV, ev_t, List.getD_cons_zero, List.getD_cons_succ, List.map_cons, List.map_nil, h0, h1, h2, bne_f h2, h10, bne_t h10, h11, h12]; done) | (simp only [f47, if_true, Bool.false_eq_true, if_false, h0, h1, h2, bne_f h2, h10, bne_t h10, h11, h12]; rfl)
      ·
       refine RunO.all ?_
       simp only [List.drop_zero, SB, x_bin, binV, intB, x_mov, x_pick, if_true, if_false, Bool.false_eq_true, if_true, reduceCtorEq, not_false_eq_true, exOp_gt, exOp_gf, exOp_gf2, exOp_gs, h0, h1, h2, bne_f h2, h10, bne_t h10, h11]
       show Run T _ _ _ _
       refine Run.ite (by rfl) (fun h => by first | exact absurd h (by decide) | (simp only [h0, h1, h2, bne_f h2, h10, bne_t h10, h11, reduceCtorEq, Bool.not_true, Bool.not_false, Bool.false_eq_true, Bool.true_eq_false] at h)) (fun _ => ?_)
       refine Run.skip ?_
       show Run T _ _ _ _
       refine Run.seq ?_
       refine Run.seq ?_
       refine Run.rgn ?_
       refine RunO.all ?_
       simp only [i47r26, SB, x_bin, binV, intB, x_mov, if_true, reduceCtorEq, not_false_eq_true, h0, h1, h2, bne_f h2, h10, bne_t h10, h11]
       show Run T _ _ _ _
       refine Run.ite (by rfl) (fun h13 => ?_) (fun h13 => ?_)
       ·
        refine Run.seq ?_
        refine Run.rgn ?_
        refine RunO.all ?_
        simp only [i47r27, SB, x_mov, h0, h1, h2, bne_f h2, h10, bne_t h10, h11, h13]
        show Run T _ _ _ _
        refine Run.ret ⟨?_, rfl⟩
        first | (rw [f47, ite_f h0, ite_f h1, ite_f h2, ite_t h10, ite_f h11, ite_t h13]; rfl) | (rw [f47, ite_f h0, ite_f h1, ite_f h2, ite_t h10, ite_f h11, ite_t h13]; simp only [resV, ev_t, List.getD_cons_zero, List.getD_cons_succ, List.map_cons, List.map_nil, h0, h1, h2, bne_f h2, h10, bne_t h10, h11, h13]; done) | (simp only [f47, if_true, Bool.false_eq_true, if_false, h0, h1, h2, bne_f h2, h10, bne_t h10, h11, h13]; rfl)
       ·
        refine Run.skip ?_
        show Run T _ _ _ _
        refine Run.seq ?_
        refine Run.seq ?_
        refine Run.rgn ?_
        refine RunO.all ?_
        simp only [i47r31, SB, x_mov, h0, h1, h2, bne_f h2, h10, bne_t h10, h11, h13]
        show Run T _ _ _ _
        refine Run.ite (by rfl) (fun h => by first | exact absurd h (by decide) | (simp only [h0, h1, h2, bne_f h2, h10, bne_t h10, h11, h13, reduceCtorEq, Bool.not_true, Bool.not_false, Bool.false_eq_true, Bool.true_eq_false] at h)) (fun _ => ?_)
        refine Run.skip ?_
        show Run T _ _ _ _
        refine Run.seq ?_
        refine Run.rgn ?_
        refine RunO.all ?_
        simp only [i47r35, SB, x_mov, h0, h1, h2, bne_f h2, h10, bne_t h10, h11, h13]
        show Run T _ _ _ _
        refine Run.ret ⟨?_, rfl⟩
        first | (rw [f47, ite_f h0, ite_f h1, ite_f h2, ite_t h10, ite_f h11, ite_f h13]; rfl) | (rw [f47, ite_f h0, ite_f h1, ite_f h2, ite_t h10, ite_f h11, ite_f h13]; simp only [resV, ev_t, List.getD_cons_zero, List.getD_cons_succ, List.map_cons, List.map_nil, h0, h1, h2, bne_f h2, h10, bne_t h10, h11, h13]; done) | (simp only [f47, if_true, Bool.false_eq_true, if_false, h0, h1, h2, bne_f h2, h10, bne_t h10, h11, h13]; rfl)
     ·
      refine Run.seq ?_
      refine Run.rgn ?_
      refine RunO.all ?_
      simp only [i47r13, SB, x_bin, binV, intB, x_mov, if_true, reduceCtorEq, not_false_eq_true, h0, h1, h2, bne_f h2, h10, bne_f h10]
      show Run T _ _ _ _
      refine Run.ite (by rfl) (fun h14 => ?_) (fun h14 => ?_)
      ·
       refine Run.rgn ?_
       refine RunO.all ?_
       simp only [i47r14, SB, x_mov, h0, h1, h2, bne_f h2, h10, bne_f h10, h14, bne_t h14]
       show Run T _ _ _ _
       refine Run.seq ?_
       refine Run.seq ?_
       refine Run.rgn ?_
       refine RunO.pre 2 ?_
       simp only [i47r22, List.take_succ_cons, List.take_zero, List.drop_succ_cons, List.drop_zero, SB, x_mov, h0, h1, h2, bne_f h2, h10, bne_f h10, h14, bne_t h14]
       rcases Bool.eq_false_or_eq_true (decide (x1 ≥ (9223372036854775808 : Int))) with h15 | h15
       ·
        refine RunO.all ?_
        simp only [List.drop_zero, SB, x_bin, binV, intB, x_mov, x_pick, if_true, if_false, Bool.false_eq_true, if_true, reduceCtorEq, not_false_eq_true, exOp_gt, exOp_gf, exOp_gf2, exOp_gs, h0, h1, h2, bne_f h2, h10, bne_f h10, h14, bne_t h14, h15]
        show Run T _ _ _ _
        refine Run.ite (by rfl) (fun _ => ?_) (fun h => by first | exact absurd h (by decide) | (simp only [h0, h1, h2, bne_f h2, h10, bne_f h10, h14, bne_t h14, h15, reduceCtorEq, Bool.not_true, Bool.not_false, Bool.false_eq_true, Bool.true_eq_false] at h))
        refine Run.rgn ?_
        refine RunO.all ?_
        simp only [i47r23, SB, x_bin, binV, intB, x_mov, if_true, reduceCtorEq, not_false_eq_true, if_false, Bool.false_eq_true, Int.reduceBEq, Int.reduceBNe, Int.reduceLT, Int.reduceLE, Int.reduceGT, Int.reduceGE, decide_true, decide_false, beq_self_eq_true, bne_self_eq_false, h0, h1, h2, bne_f h2, h10, bne_f h10, h14, bne_t h14, h15]
        show Run T _ _ _ _
        refine Run.seq ?_
        refine Run.seq ?_
        refine Run.rgn ?_
        refine RunO.all ?_
        simp only [i47r26, SB, x_bin, binV, intB, x_mov, if_true, reduceCtorEq, not_false_eq_true, h0, h1, h2, bne_f h2, h10, bne_f h10, h14, bne_t h14, h15]
        show Run T _ _ _ _
        refine Run.ite (by rfl) (fun h16 => ?_) (fun h16 => ?_)
        ·
         refine Run.seq ?_
         refine Run.rgn ?_
         refine RunO.all ?_
         simp only [i47r27, SB, x_mov, h0, h1, h2, bne_f h2, h10, bne_f h10, h14, bne_t h14, h15, h16]
         show Run T _ _ _ _
         refine Run.ret ⟨?_, rfl⟩
         first | (rw [f47, ite_f h0, ite_f h1, ite_f h2, ite_f h10, ite_t h14, ite_t h15, ite_t h16]; rfl) | (rw [f47, ite_f h0, ite_f h1, ite_f h2, ite_f h10, ite_t h14, ite_t h15, ite_t h16]; simp only [resV, ev_t, List.getD_cons_zero, List.getD_cons_succ, List.map_cons, List.map_nil, h0, h1, h2, bne_f h2, h10, bne_f h10, h14, bne_t h14, h15, h16]; done) | (simp only [f47, if_true, Bool.false_eq_true, if_false, h0, h1, h2, bne_f h2, h10, bne_f h10, h14, bne_t h14, h15, h16]; rfl)
        ·
         refine Run.skip ?_
         show Run T _ _ _ _
         refine Run.seq ?_
         refine Run.seq ?_
         refine Run.rgn ?_
         refine RunO.all ?_
         simp only [i47r31, SB, x_mov, h0, h1, h2, bne_f h2, h10, bne_f h10, h14, bne_t h14, h15, h16]
         show Run T _ _ _ _
         refine Run.ite (by rfl) (fun _ => ?_) (fun h => by first | exact absurd h (by decide) | (simp only [h0, h1, h2, bne_f h2, h10, bne_f h10, h14, bne_t h14, h15, h16, reduceCtorEq, Bool.not_true, Bool.not_false, Bool.false_eq_true, Bool.true_eq_false] at h))
         refine Run.rgn ?_
         refine RunO.all ?_
         simp only [i47r32, SB, x_mov, x_un, unV, intB, h0, h1, h2, bne_f h2, h10, bne_f h10, h14, bne_t h14, h15, h16]
         show Run T _ _ _ _
         refine Run.seq ?_
         refine Run.rgn ?_
         refine RunO.all ?_
         simp only [i47r35, SB, x_mov, h0, h1, h2, bne_f h2, h10, bne_f h10, h14, bne_t h14, h15, h16]
         show Run T _ _ _ _
         refine Run.ret ⟨?_, rfl⟩
         first | (rw [f47, ite_f h0, ite_f h1, ite_f h2, ite_f h10, ite_t h14, ite_t h15, ite_f h16]; rfl) | (rw [f47, ite_f h0, ite_f h1, ite_f h2, ite_f h10, ite_t h14, ite_t h15, ite_f h16]; simp only [resV, ev_t, List.getD_cons_zero, List.getD_cons_succ, List.map_cons, List.map_nil, h0, h1, h2, bne_f h2, h10, bne_f h10, h14, bne_t h14, h15, h16]; done) | (simp only [f47, if_true, Bool.false_eq_true, if_false, h0, h1, h2, bne_f h2, h10, bne_f h10, h14, bne_t h14, h15, h16]; rfl)
       ·
        refine RunO.all ?_
        simp only [List.drop_zero, SB, x_bin, binV, intB, x_mov, x_pick, if_true, if_false, Bool.false_eq_true, if_true, reduceCtorEq, not_false_eq_true, exOp_gt, exOp_gf, exOp_gf2, exOp_gs, h0, h1, h2, bne_f h2, h10, bne_f h10, h14, bne_t h14, h15]
        show Run T _ _ _ _
        refine Run.ite (by rfl) (fun h => by first | exact absurd h (by decide) | (simp only [h0, h1, h2, bne_f h2, h10, bne_f h10, h14, bne_t h14, h15, reduceCtorEq, Bool.not_true, Bool.not_false, Bool.false_eq_true, Bool.true_eq_false] at h)) (fun _ => ?_)
        refine Run.skip ?_
        show Run T _ _ _ _
        refine Run.seq ?_
        refine Run.seq ?_
        refine Run.rgn ?_
        refine RunO.all ?_
        simp only [i47r26, SB, x_bin, binV, intB, x_mov, if_true, reduceCtorEq, not_false_eq_true, h0, h1, h2, bne_f h2, h10, bne_f h10, h14, bne_t h14, h15]
        show Run T _ _ _ _
        refine Run.ite (by rfl) (fun h17 => ?_) (fun h17 => ?_)
        ·
         refine Run.seq ?_
         refine Run.rgn ?_
         refine RunO.all ?_
         simp only [i47r27, SB, x_mov, h0, h1, h2, bne_f h2, h10, bne_f h10, h14, bne_t h14, h15, h17]
         show Run T _ _ _ _
         refine Run.ret ⟨?_, rfl⟩
         first | (rw [f47, ite_f h0, ite_f h1, ite_f h2, ite_f h10, ite_t h14, ite_f h15, ite_t h17]; rfl) | (rw [f47, ite_f h0, ite_f h1, ite_f h2, ite_f h10, ite_t h14, ite_f h15, ite_t h17]; simp only [resV, ev_t, List.getD_cons_zero, List.getD_cons_succ, List.map_cons, List.map_nil, h0, h1, h2, bne_f h2, h10, bne_f h10, h14, bne_t h14, h15, h17]; done) | (simp only [f47, if_true, Bool.false_eq_true, if_false, h0, h1, h2, bne_f h2, h10, bne_f h10, h14, bne_t h14, h15, h17]; rfl)
        ·
         refine Run.skip ?_
         show Run T _ _ _ _
         refine Run.seq ?_
         refine Run.seq ?_
         refine Run.rgn ?_
         refine RunO.all ?_
         simp only [i47r31, SB, x_mov, h0, h1, h2, bne_f h2, h10, bne_f h10, h14, bne_t h14, h15, h17]
         show Run T _ _ _ _
         refine Run.ite (by rfl) (fun h => by first | exact absurd h (by decide) | (simp only [h0, h1, h2, bne_f h2, h10, bne_f h10, h14, bne_t h14, h15, h17, reduceCtorEq, Bool.not_true, Bool.not_false, Bool.false_eq_true, Bool.true_eq_false] at h)) (fun _ => ?_)
         refine Run.skip ?_
         show Run T _ _ _ _
         refine Run.seq ?_
         refine Run.rgn ?_
         refine RunO.all ?_
         simp only [i47r35, SB, x_mov, h0, h1, h2, bne_f h2, h10, bne_f h10, h14, bne_t h14, h15, h17]
         show Run T _ _ _ _
         refine Run.ret ⟨?_, rfl⟩
         first | (rw [f47, ite_f h0, ite_f h1, ite_f h2, ite_f h10, ite_t h14, ite_f h15, ite_f h17]; rfl) | (rw [f47, ite_f h0, ite_f h1, ite_f h2, ite_f h10, ite_t h14, ite_f h15, ite_f h17]; simp only [resV, ev_t, List.getD_cons_zero, List.getD_cons_succ, List.map_cons, List.map_nil, h0, h1, h2, bne_f h2, h10, bne_f h10, h14, bne_t h14, h15, h17]; done) | (simp only [f47, if_true, Bool.false_eq_true, if_false, h0, h1, h2, bne_f h2, h10, bne_f h10, h14, bne_t h14, h15, h17]; rfl)
      ·
       refine Run.skip ?_
       show Run T _ _ _ _
       refine Run.seq ?_
       refine Run.seq ?_
       refine Run.rgn ?_
       refine RunO.pre 2 ?_
       simp only [i47r22, List.take_succ_cons, List.take_zero, List.drop_succ_cons, List.drop_zero, SB, x_mov, h0, h1, h2, bne_f h2, h10, bne_f h10, h14, bne_f h14]
       rcases Bool.eq_false_or_eq_true (decide (x1 ≥ (9223372036854775808 : Int))) with h18 | h18
       ·
        refine RunO.all ?_
        simp only [List.drop_zero, SB, x_bin, binV, intB, x_mov, x_pick, if_true, if_false, Bool.false_eq_true, if_true, reduceCtorEq, not_false_eq_true, exOp_gt, exOp_gf, exOp_gf2, exOp_gs, h0, h1, h2, bne_f h2, h10, bne_f h10, h14, bne_f h14, h18]
        show Run T _ _ _ _
        refine Run.ite (by rfl) (fun _ => ?_) (fun h => by first | exact absurd h (by decide) | (simp only [h0, h1, h2, bne_f h2, h10, bne_f h10, h14, bne_f h14, h18, reduceCtorEq, Bool.not_true, Bool.not_false, Bool.false_eq_true, Bool.true_eq_false] at h))
        refine Run.rgn ?_
        refine RunO.all ?_
        simp only [i47r23, SB, x_bin, binV, intB, x_mov, if_true, reduceCtorEq, not_false_eq_true, if_false, Bool.false_eq_true, Int.reduceBEq, Int.reduceBNe, Int.reduceLT, Int.reduceLE, Int.reduceGT, Int.reduceGE, decide_true, decide_false, beq_self_eq_true, bne_self_eq_false, h0, h1, h2, bne_f h2, h10, bne_f h10, h14, bne_f h14, h18]
        show Run T _ _ _ _
        refine Run.seq ?_
        refine Run.seq ?_
        refine Run.rgn ?_
        refine RunO.all ?_
        simp only [i47r26, SB, x_bin, binV, intB, x_mov, if_true, reduceCtorEq, not_false_eq_true, h0, h1, h2, bne_f h2, h10, bne_f h10, h14, bne_f h14, h18]
        show Run T _ _ _ _
        refine Run.ite (by rfl) (fun h19 => ?_) (fun h19 => ?_)
        ·
         refine Run.seq ?_
         refine Run.rgn ?_
         refine RunO.all ?_
         simp only [i47r27, SB, x_mov, h0, h1, h2, bne_f h2, h10, bne_f h10, h14, bne_f h14, h18, h19]
         show Run T _ _ _ _
         refine Run.ret ⟨?_, rfl⟩
         first | (rw [f47, ite_f h0, ite_f h1, ite_f h2, ite_f h10, ite_f h14, ite_t h18, ite_t h19]; rfl) | (rw [f47, ite_f h0, ite_f h1, ite_f h2, ite_f h10, ite_f h14, ite_t h18, ite_t h19]; simp only [resV, ev_t, List.getD_cons_zero, List.getD_cons_succ, List.map_cons, List.map_nil, h0, h1, h2, bne_f h2, h10, bne_f h10, h14, bne_f h14, h18, h19]; done) | (simp only [f47, if_true, Bool.false_eq_true, if_false, h0, h1, h2, bne_f h2, h10, bne_f h10, h14, bne_f h14, h18, h19]; rfl)
        ·
         refine Run.skip ?_
         show Run T _ _ _ _
         refine Run.seq ?_
         refine Run.seq ?_
         refine Run.rgn ?_
         refine RunO.all ?_
         simp only [i47r31, SB, x_mov, h0, h1, h2, bne_f h2, h10, bne_f h10, h14, bne_f h14, h18, h19]
         show Run T _ _ _ _
         refine Run.ite (by rfl) (fun _ => ?_) (fun h => by first | exact absurd h (by decide) | (simp only [h0, h1, h2, bne_f h2, h10, bne_f h10, h14, bne_f h14, h18, h19, reduceCtorEq, Bool.not_true, Bool.not_false, Bool.false_eq_true, Bool.true_eq_false] at h))
         refine Run.rgn ?_
         refine RunO.all ?_
         simp only [i47r32, SB, x_mov, x_un, unV, intB, h0, h1, h2, bne_f h2, h10, bne_f h10, h14, bne_f h14, h18, h19]
         show Run T _ _ _ _
         refine Run.seq ?_
         refine Run.rgn ?_
         refine RunO.all ?_
         simp only [i47r35, SB, x_mov, h0, h1, h2, bne_f h2, h10, bne_f h10, h14, bne_f h14, h18, h19]
         show Run T _ _ _ _
         refine Run.ret ⟨?_, rfl⟩
         first | (rw [f47, ite_f h0, ite_f h1, ite_f h2, ite_f h10, ite_f h14, ite_t h18, ite_f h19]; rfl) | (rw [f47, ite_f h0, ite_f h1, ite_f h2, ite_f h10, ite_f h14, ite_t h18, ite_f h19]; simp only [resV, ev_t, List.getD_cons_zero, List.getD_cons_succ, List.map_cons, List.map_nil, h0, h1, h2, bne_f h2, h10, bne_f h10, h14, bne_f h14, h18, h19]; done) | (simp only [f47, if_true, Bool.false_eq_true, if_false, h0, h1, h2, bne_f h2, h10, bne_f h10, h14, bne_f h14, h18, h19]; rfl)
       ·
        refine RunO.all ?_
        simp only [List.drop_zero, SB, x_bin, binV, intB, x_mov, x_pick, if_true, if_false, Bool.false_eq_true, if_true, reduceCtorEq, not_false_eq_true, exOp_gt, exOp_gf, exOp_gf2, exOp_gs, h0, h1, h2, bne_f h2, h10, bne_f h10, h14, bne_f h14, h18]
        show Run T _ _ _ _
        refine Run.ite (by rfl) (fun h => by first | exact absurd h (by decide) | (simp only [h0, h1, h2, bne_f h2, h10, bne_f h10, h14, bne_f h14, h18, reduceCtorEq, Bool.not_true, Bool.not_false, Bool.false_eq_true, Bool.true_eq_false] at h)) (fun _ => ?_)
        refine Run.skip ?_
        show Run T _ _ _ _
        refine Run.seq ?_
        refine Run.seq ?_
        refine Run.rgn ?_
        refine RunO.all ?_
        simp only [i47r26, SB, x_bin, binV, intB, x_mov, if_true, reduceCtorEq, not_false_eq_true, h0, h1, h2, bne_f h2, h10, bne_f h10, h14, bne_f h14, h18]
        show Run T _ _ _ _
        refine Run.ite (by rfl) (fun h20 => ?_) (fun h20 => ?_)
        ·
         refine Run.seq ?_
         refine Run.rgn ?_
         refine RunO.all ?_
         simp only [i47r27, SB, x_mov, h0, h1, h2, bne_f h2, h10, bne_f h10, h14, bne_f h14, h18, h20]
         show Run T _ _ _ _
         refine Run.ret ⟨?_, rfl⟩
         first | (rw [f47, ite_f h0, ite_f h1, ite_f h2, ite_f h10, ite_f h14, ite_f h18, ite_t h20]; rfl) | (rw [f47, ite_f h0, ite_f h1, ite_f h2, ite_f h10, ite_f h14, ite_f h18, ite_t h20]; simp only [resV, ev_t, List.getD_cons_zero, List.getD_cons_succ, List.map_cons, List.map_nil, h0, h1, h2, bne_f h2, h10, bne_f h10, h14, bne_f h14, h18, h20]; done) | (simp only [f47, if_true, Bool.false_eq_true, if_false, h0, h1, h2, bne_f h2, h10, bne_f h10, h14, bne_f h14, h18, h20]; rfl)
        ·
         refine Run.skip ?_
         show Run T _ _ _ _
         refine Run.seq ?_
         refine Run.seq ?_
         refine Run.rgn ?_
         refine RunO.all ?_
         simp only [i47r31, SB, x_mov, h0, h1, h2, bne_f h2, h10, bne_f h10, h14, bne_f h14, h18, h20]
         show Run T _ _ _ _
         refine Run.ite (by rfl) (fun h => by first | exact absurd h (by decide) | (simp only [h0, h1, h2, bne_f h2, h10, bne_f h10, h14, bne_f h14, h18, h20, reduceCtorEq, Bool.not_true, Bool.not_false, Bool.false_eq_true, Bool.true_eq_false] at h)) (fun _ => ?_)
         refine Run.skip ?_
         show Run T _ _ _ _
         refine Run.seq ?_
         refine Run.rgn ?_
         refine RunO.all ?_
         simp only [i47r35, SB, x_mov, h0, h1, h2, bne_f h2, h10, bne_f h10, h14, bne_f h14, h18, h20]
         show Run T _ _ _ _
         refine Run.ret ⟨?_, rfl⟩
         first | (rw [f47, ite_f h0, ite_f h1, ite_f h2, ite_f h10, ite_f h14, ite_f h18, ite_f h20]; rfl) | (rw [f47, ite_f h0, ite_f h1, ite_f h2, ite_f h10, ite_f h14, ite_f h18, ite_f h20]; simp only [resV, ev_t, List.getD_cons_zero, List.getD_cons_succ, List.map_cons, List.map_nil, h0, h1, h2, bne_f h2, h10, bne_f h10, h14, bne_f h14, h18, h20]; done) | (simp only [f47, if_true, Bool.false_eq_true, if_false, h0, h1, h2, bne_f h2, h10, bne_f h10, h14, bne_f h14, h18, h20]; rfl)
theorem c47 (x0 : Int) (x1 : Int) (H : Heap) : PC T H 47 [.int .u8 x0, .int .u64 x1] (.tup [.int .u64 (f47 x0 x1).1, .bool (f47 x0 x1).2]) := PC.now rfl rfl (w47 x0 x1 )

/- smithy/smithyref01.Fits -/
def f36 (x0 : Int) (x1 : Int) (x2 : Int) : Bool :=
if (!(f35 x0 x1)) then
  false
else
  if (!(f12 x1 x2)) then
    false
  else
    if (x1 != (5 : Int)) then
      true
    else
      if (x0 == (5 : Int)) then
        true
      else
        (f47 x0 x2).2
theorem w36 (x0 : Int) (x1 : Int) (x2 : Int) (H : Heap) : Fn T 36 [.int .u8 x0, .int .u8 x1, .int .u64 x2] H (fun r h => r = .bool (f36 x0 x1 x2) ∧ h = H) := by
  refine Fn.enter t36 ?_; simp only [i36, List.length_cons, List.length_nil, Nat.reduceAdd, Nat.reduceSub, List.replicate_succ, List.replicate_zero, List.cons_append, List.nil_append]
  refine Run.seq ?_
  refine Run.rgn ?_
  refine RunO.all ?_
  simp only [i36r0, SB, x_mov]
  show Run T _ _ _ _
  refine Run.seq ?_
  refine Run.seq ?_
  refine Run.rgn ?_
  refine RunO.pre 2 ?_
  simp only [i36r1, List.take_succ_cons, List.take_zero, List.drop_succ_cons, List.drop_zero, SB, x_mov]
  refine RunO.c (c35 x0 x1 _) ?_
  refine RunO.pre 2 ?_
  simp only [List.take_succ_cons, List.take_zero, List.drop_succ_cons, List.drop_zero, SB, x_mov, x_un, unV, intB]
  rcases Bool.eq_false_or_eq_true (!(f35 x0 x1)) with h0 | h0
  ·
   refine RunO.pre 2 ?_
   simp only [List.drop_zero, List.take_succ_cons, List.take_zero, List.drop_succ_cons, List.drop_zero, SB, x_mov, exOp_gt, exOp_gf, exOp_gf2, exOp_gs, h0]
   refine RunO.cs (b := true) (by rfl) (by decide) ?_
   refine RunO.all ?_
   simp only [SB, x_pick, if_true, if_false, Bool.false_eq_true, x_un, unV, intB, exOp_gt, exOp_gf, exOp_gf2, exOp_gs, h0]
   show Run T _ _ _ _
   refine Run.ite (by rfl) (fun _ => ?_) (fun h => by first | exact absurd h (by decide) | (simp only [h0, reduceCtorEq, Bool.not_true, Bool.not_false, Bool.false_eq_true, Bool.true_eq_false] at h))
   refine Run.seq ?_
   refine Run.rgn ?_
   refine RunO.all ?_
   simp only [i36r2, SB, x_mov, h0]
   show Run T _ _ _ _
   refine Run.ret ⟨?_, rfl⟩
   first | (rw [f36, ite_t h0]; rfl) | (rw [f36, ite_t h0]; simp only [resV, ev_t, List.getD_cons_zero, List.getD_cons_succ, List.map_cons, List.map_nil, h0]; done) | (simp only [f36, if_true, Bool.false_eq_true, if_false, h0]; rfl)
  ·
   refine RunO.pre 2 ?_
   simp only [List.drop_zero, List.take_succ_cons, List.take_zero, List.drop_succ_cons, List.drop_zero, SB, x_mov, exOp_gt, exOp_gf, exOp_gf2, exOp_gs, h0]
   refine RunO.cg (by rfl) (c12 x1 x2 _) ?_
   refine RunO.all ?_
   simp only [SB, x_pick, if_true, if_false, Bool.false_eq_true, x_un, unV, intB, exOp_gt, exOp_gf, exOp_gf2, exOp_gs, h0]
   show Run T _ _ _ _
   refine Run.ite (by rfl) (fun h1 => ?_) (fun h1 => ?_)
   ·
    refine Run.seq ?_
    refine Run.rgn ?_
    refine RunO.all ?_
    simp only [i36r2, SB, x_mov, h0, h1]
    show Run T _ _ _ _
    refine Run.ret ⟨?_, rfl⟩
    first | (rw [f36, ite_f h0, ite_t h1]; rfl) | (rw [f36, ite_f h0, ite_t h1]; simp only [resV, ev_t, List.getD_cons_zero, List.getD_cons_succ, List.map_cons, List.map_nil, h0, h1]; done) | (simp only [f36, if_true, Bool.false_eq_true, if_false, h0, h1]; rfl)
   ·
    refine Run.skip ?_
    show Run T _ _ _ _
    refine Run.seq ?_
    refine Run.seq ?_
    refine Run.rgn ?_
    refine RunO.pre 3 ?_
    simp only [i36r6, List.take_succ_cons, List.take_zero, List.drop_succ_cons, List.drop_zero, SB, x_bin, binV, intB, x_mov, if_true, reduceCtorEq, not_false_eq_true, h0, h1]
    rcases Bool.eq_false_or_eq_true (x1 != (5 : Int)) with h2 | h2
    ·
     refine RunO.all ?_
     simp only [List.drop_zero, SB, x_bin, binV, intB, x_mov, x_pick, if_true, if_false, Bool.false_eq_true, if_true, reduceCtorEq, not_false_eq_true, exOp_gt, exOp_gf, exOp_gf2, exOp_gs, h0, h1, h2, beq_f h2]
     show Run T _ _ _ _
     refine Run.ite (by rfl) (fun _ => ?_) (fun h => by first | exact absurd h (by decide) | (simp only [h0, h1, h2, beq_f h2, reduceCtorEq, Bool.not_true, Bool.not_false, Bool.false_eq_true, Bool.true_eq_false] at h))
     refine Run.seq ?_
     refine Run.rgn ?_
     refine RunO.all ?_
     simp only [i36r7, SB, x_mov, h0, h1, h2, beq_f h2]
     show Run T _ _ _ _
     refine Run.ret ⟨?_, rfl⟩
     first | (rw [f36, ite_f h0, ite_f h1, ite_t h2]; rfl) | (rw [f36, ite_f h0, ite_f h1, ite_t h2]; simp only [resV, ev_t, List.getD_cons_zero, List.getD_cons_succ, List.map_cons, List.map_nil, h0, h1, h2, beq_f h2]; done) | (simp only [f36, if_true, Bool.false_eq_true, if_false, h0, h1, h2, beq_f h2]; rfl)
    ·
     refine RunO.all ?_
     simp only [List.drop_zero, SB, x_bin, binV, intB, x_mov, x_pick, if_true, if_false, Bool.false_eq_true, if_true, reduceCtorEq, not_false_eq_true, exOp_gt, exOp_gf, exOp_gf2, exOp_gs, h0, h1, h2, beq_t h2]
     show Run T _ _ _ _
     refine Run.ite (by rfl) (fun h3 => ?_) (fun h3 => ?_)
     ·
      refine Run.seq ?_
      refine Run.rgn ?_
      refine RunO.all ?_
      simp only [i36r7, SB, x_mov, h0, h1, h2, beq_t h2, h3, bne_t h3]
      show Run T _ _ _ _
      refine Run.ret ⟨?_, rfl⟩
      first | (rw [f36, ite_f h0, ite_f h1, ite_f h2, ite_t h3]; rfl) | (rw [f36, ite_f h0, ite_f h1, ite_f h2, ite_t h3]; simp only [resV, ev_t, List.getD_cons_zero, List.getD_cons_succ, List.map_cons, List.map_nil, h0, h1, h2, beq_t h2, h3, bne_t h3]; done) | (simp only [f36, if_true, Bool.false_eq_true, if_false, h0, h1, h2, beq_t h2, h3, bne_t h3]; rfl)
     ·
      refine Run.skip ?_
      show Run T _ _ _ _
      refine Run.seq ?_
      refine Run.rgn ?_
      refine RunO.pre 2 ?_
      simp only [i36r11, List.take_succ_cons, List.take_zero, List.drop_succ_cons, List.drop_zero, SB, x_mov, h0, h1, h2, beq_t h2, h3, bne_f h3]
      refine RunO.c (c47 x0 x2 _) ?_
      refine RunO.all ?_
      simp only [SB, x_ext, extV, List.getElem?_cons_zero, List.getElem?_cons_succ, x_mov, h0, h1, h2, beq_t h2, h3, bne_f h3]
      show Run T _ _ _ _
      refine Run.seq ?_
      refine Run.rgn ?_
      refine RunO.all ?_
      simp only [i36r12, SB, x_mov, h0, h1, h2, beq_t h2, h3, bne_f h3]
      show Run T _ _ _ _
      refine Run.ret ⟨?_, rfl⟩
      first | (rw [f36, ite_f h0, ite_f h1, ite_f h2, ite_f h3]; rfl) | (rw [f36, ite_f h0, ite_f h1, ite_f h2, ite_f h3]; simp only [resV, ev_t, List.getD_cons_zero, List.getD_cons_succ, List.map_cons, List.map_nil, h0, h1, h2, beq_t h2, h3, bne_f h3]; done) | (simp only [f36, if_true, Bool.false_eq_true, if_false, h0, h1, h2, beq_t h2, h3, bne_f h3]; rfl)
theorem c36 (x0 : Int) (x1 : Int) (x2 : Int) (H : Heap) : PC T H 36 [.int .u8 x0, .int .u8 x1, .int .u64 x2] (.bool (f36 x0 x1 x2)) := PC.now rfl rfl (w36 x0 x1 x2 )

end Go.Eng.Sca
