/- Functions of this seat, each with a plain function that gives the same answers (lines written by a program of this session's; no condition beyond those stated). -/
import Derived.Test.YtiacbfphlgbiiaaScaG
namespace Go.Eng.Sca
open Go Go.Eng
set_option linter.unusedVariables false
set_option linter.unusedSimpArgs false
set_option maxRecDepth 20000
set_option maxHeartbeats 4000000

/- smithy/smithyref01.Two -/
def f22 (x0 : Int) (x1 : Int) (x2 : Int) (x3 : Int) : Int × Bool :=
if (!(f20 x0 x1).2) then
  ((0 : Int), false)
else
  if (decide (x0 > (16 : Int))) then
    ((0 : Int), false)
  else
    if (!(f12 x1 x2)) then
      ((0 : Int), false)
    else
      if (!(f12 x1 x3)) then
        ((0 : Int), false)
      else
        if (x1 == (5 : Int)) then
          ((f42 x0 (some x2.toNat) (some x3.toNat)), true)
        else
          ((f14 (f20 x0 x1).1 (f43 x0 x1 x2 x3)), true)
theorem w22 (x0 : Int) (x1 : Int) (x2 : Int) (x3 : Int) (b0 : 0 ≤ x2) (b1 : x3 < 18446744073709551616) (b2 : 0 ≤ x3) (H : Heap) : Fn T 22 [.int .u8 x0, .int .u8 x1, .int .u64 x2, .int .u64 x3] H (fun r h => r = .tup [.int .u64 (f22 x0 x1 x2 x3).1, .bool (f22 x0 x1 x2 x3).2] ∧ h = H) := by
  refine Fn.enter t22 ?_; simp only [i22, List.length_cons, List.length_nil, Nat.reduceAdd, Nat.reduceSub, List.replicate_succ, List.replicate_zero, List.cons_append, List.nil_append]
  refine Run.seq ?_
  refine Run.rgn ?_
  refine RunO.all ?_
  simp only [i22r0, SB, x_mov]
  show Run T _ _ _ _
  refine Run.seq ?_
  refine Run.rgn ?_
  refine RunO.pre 2 ?_
  simp only [i22r1, List.take_succ_cons, List.take_zero, List.drop_succ_cons, List.drop_zero, SB, x_mov]
  refine RunO.c (c20 x0 x1 _) ?_
  refine RunO.all ?_
  simp only [SB, x_ext, extV, List.getElem?_cons_zero, List.getElem?_cons_succ, x_mov]
  show Run T _ _ _ _
  refine Run.seq ?_
  refine Run.seq ?_
  refine Run.rgn ?_
  refine RunO.pre 3 ?_
  simp only [i22r2, List.take_succ_cons, List.take_zero, List.drop_succ_cons, List.drop_zero, SB, x_mov, x_un, unV, intB]
  rcases Bool.eq_false_or_eq_true (!(f20 x0 x1).2) with h0 | h0
  ·
   refine RunO.pre 6 ?_
   simp only [List.drop_zero, List.take_succ_cons, List.take_zero, List.drop_succ_cons, List.drop_zero, SB, x_bin, binV, intB, x_mov, x_pick, if_true, if_false, Bool.false_eq_true, if_true, reduceCtorEq, not_false_eq_true, exOp_gt, exOp_gf, exOp_gf2, exOp_gs, h0]
   refine RunO.cs (b := true) (by rfl) (by decide) ?_
   refine RunO.pre 5 ?_
   simp only [List.take_succ_cons, List.take_zero, List.drop_succ_cons, List.drop_zero, SB, x_mov, x_pick, if_true, if_false, Bool.false_eq_true, x_un, unV, intB, exOp_gt, exOp_gf, exOp_gf2, exOp_gs, h0]
   refine RunO.cs (b := true) (by rfl) (by decide) ?_
   refine RunO.all ?_
   simp only [SB, x_pick, if_true, if_false, Bool.false_eq_true, x_un, unV, intB, exOp_gt, exOp_gf, exOp_gf2, exOp_gs, h0]
   show Run T _ _ _ _
   refine Run.ite (by rfl) (fun _ => ?_) (fun h => by first | exact absurd h (by decide) | (simp only [h0, reduceCtorEq, Bool.not_true, Bool.not_false, Bool.false_eq_true, Bool.true_eq_false] at h))
   refine Run.seq ?_
   refine Run.rgn ?_
   refine RunO.all ?_
   simp only [i22r3, SB, x_mov, h0]
   show Run T _ _ _ _
   refine Run.ret ⟨?_, rfl⟩
   first | (rw [f22, ite_t h0]; rfl) | (rw [f22, ite_t h0]; simp only [resV, ev_t, List.getD_cons_zero, List.getD_cons_succ, List.map_cons, List.map_nil, h0]; done) | (simp only [f22, if_true, Bool.false_eq_true, if_false, h0]; rfl)
  ·
   refine RunO.pre 4 ?_
   simp only [List.drop_zero, List.take_succ_cons, List.take_zero, List.drop_succ_cons, List.drop_zero, SB, x_bin, binV, intB, x_mov, x_pick, if_true, if_false, Bool.false_eq_true, if_true, reduceCtorEq, not_false_eq_true, exOp_gt, exOp_gf, exOp_gf2, exOp_gs, h0]
   rcases Bool.eq_false_or_eq_true (decide (x0 > (16 : Int))) with h1 | h1
   ·
    refine RunO.pre 2 ?_
    simp only [List.drop_zero, List.take_succ_cons, List.take_zero, List.drop_succ_cons, List.drop_zero, SB, x_mov, exOp_gt, exOp_gf, exOp_gf2, exOp_gs, h0, h1]
    refine RunO.cs (b := true) (by rfl) (by decide) ?_
    refine RunO.pre 5 ?_
    simp only [List.take_succ_cons, List.take_zero, List.drop_succ_cons, List.drop_zero, SB, x_mov, x_pick, if_true, if_false, Bool.false_eq_true, x_un, unV, intB, exOp_gt, exOp_gf, exOp_gf2, exOp_gs, h0, h1]
    refine RunO.cs (b := true) (by rfl) (by decide) ?_
    refine RunO.all ?_
    simp only [SB, x_pick, if_true, if_false, Bool.false_eq_true, x_un, unV, intB, exOp_gt, exOp_gf, exOp_gf2, exOp_gs, h0, h1]
    show Run T _ _ _ _
    refine Run.ite (by rfl) (fun _ => ?_) (fun h => by first | exact absurd h (by decide) | (simp only [h0, h1, reduceCtorEq, Bool.not_true, Bool.not_false, Bool.false_eq_true, Bool.true_eq_false] at h))
    refine Run.seq ?_
    refine Run.rgn ?_
    refine RunO.all ?_
    simp only [i22r3, SB, x_mov, h0, h1]
    show Run T _ _ _ _
    refine Run.ret ⟨?_, rfl⟩
    first | (rw [f22, ite_f h0, ite_t h1]; rfl) | (rw [f22, ite_f h0, ite_t h1]; simp only [resV, ev_t, List.getD_cons_zero, List.getD_cons_succ, List.map_cons, List.map_nil, h0, h1]; done) | (simp only [f22, if_true, Bool.false_eq_true, if_false, h0, h1]; rfl)
   ·
    refine RunO.pre 2 ?_
    simp only [List.drop_zero, List.take_succ_cons, List.take_zero, List.drop_succ_cons, List.drop_zero, SB, x_mov, exOp_gt, exOp_gf, exOp_gf2, exOp_gs, h0, h1]
    refine RunO.cg (by rfl) (c12 x1 x2 _) ?_
    refine RunO.pre 3 ?_
    simp only [List.take_succ_cons, List.take_zero, List.drop_succ_cons, List.drop_zero, SB, x_mov, x_pick, if_true, if_false, Bool.false_eq_true, x_un, unV, intB, exOp_gt, exOp_gf, exOp_gf2, exOp_gs, h0, h1]
    rcases Bool.eq_false_or_eq_true (!(f12 x1 x2)) with h2 | h2
    ·
     refine RunO.pre 2 ?_
     simp only [List.drop_zero, List.take_succ_cons, List.take_zero, List.drop_succ_cons, List.drop_zero, SB, x_mov, exOp_gt, exOp_gf, exOp_gf2, exOp_gs, h0, h1, h2]
     refine RunO.cs (b := true) (by rfl) (by decide) ?_
     refine RunO.all ?_
     simp only [SB, x_pick, if_true, if_false, Bool.false_eq_true, x_un, unV, intB, exOp_gt, exOp_gf, exOp_gf2, exOp_gs, h0, h1, h2]
     show Run T _ _ _ _
     refine Run.ite (by rfl) (fun _ => ?_) (fun h => by first | exact absurd h (by decide) | (simp only [h0, h1, h2, reduceCtorEq, Bool.not_true, Bool.not_false, Bool.false_eq_true, Bool.true_eq_false] at h))
     refine Run.seq ?_
     refine Run.rgn ?_
     refine RunO.all ?_
     simp only [i22r3, SB, x_mov, h0, h1, h2]
     show Run T _ _ _ _
     refine Run.ret ⟨?_, rfl⟩
     first | (rw [f22, ite_f h0, ite_f h1, ite_t h2]; rfl) | (rw [f22, ite_f h0, ite_f h1, ite_t h2]; simp only [resV, ev_t, List.getD_cons_zero, List.getD_cons_succ, List.map_cons, List.map_nil, h0, h1, h2]; done) | (simp only [f22, if_true, Bool.false_eq_true, if_false, h0, h1, h2]; rfl)
    ·
     refine RunO.pre 2 ?_
     simp only [List.drop_zero, List.take_succ_cons, List.take_zero, List.drop_succ_cons, List.drop_zero, SB, x_mov, exOp_gt, exOp_gf, exOp_gf2, exOp_gs, h0, h1, h2]
     refine RunO.cg (by rfl) (c12 x1 x3 _) ?_
     refine RunO.all ?_
     simp only [SB, x_pick, if_true, if_false, Bool.false_eq_true, x_un, unV, intB, exOp_gt, exOp_gf, exOp_gf2, exOp_gs, h0, h1, h2]
     show Run T _ _ _ _
     refine Run.ite (by rfl) (fun h3 => ?_) (fun h3 => ?_)
     ·
      refine Run.seq ?_
      refine Run.rgn ?_
      refine RunO.all ?_
      simp only [i22r3, SB, x_mov, h0, h1, h2, h3]
      show Run T _ _ _ _
      refine Run.ret ⟨?_, rfl⟩
      first | (rw [f22, ite_f h0, ite_f h1, ite_f h2, ite_t h3]; rfl) | (rw [f22, ite_f h0, ite_f h1, ite_f h2, ite_t h3]; simp only [resV, ev_t, List.getD_cons_zero, List.getD_cons_succ, List.map_cons, List.map_nil, h0, h1, h2, h3]; done) | (simp only [f22, if_true, Bool.false_eq_true, if_false, h0, h1, h2, h3]; rfl)
     ·
      refine Run.skip ?_
      show Run T _ _ _ _
      refine Run.seq ?_
      refine Run.seq ?_
      refine Run.rgn ?_
      refine RunO.all ?_
      simp only [i22r7, SB, x_bin, binV, intB, x_mov, if_true, reduceCtorEq, not_false_eq_true, h0, h1, h2, h3]
      show Run T _ _ _ _
      refine Run.ite (by rfl) (fun h4 => ?_) (fun h4 => ?_)
      ·
       refine Run.seq ?_
       refine Run.rgn ?_
       refine RunO.pre 5 ?_
       simp only [i22r8, List.take_succ_cons, List.take_zero, List.drop_succ_cons, List.drop_zero, SB, x_mov, x_xc, xc_word, xc_from, xc_trunc, wordV_some, h0, h1, h2, h3, h4]
       refine RunO.c (c42 x0 (some x2.toNat) (some x3.toNat) _) ?_
       refine RunO.all ?_
       simp only [SB, x_mov, h0, h1, h2, h3, h4]
       show Run T _ _ _ _
       refine Run.ret ⟨?_, rfl⟩
       first | (rw [f22, ite_f h0, ite_f h1, ite_f h2, ite_f h3, ite_t h4]; rfl) | (rw [f22, ite_f h0, ite_f h1, ite_f h2, ite_f h3, ite_t h4]; simp only [resV, ev_t, List.getD_cons_zero, List.getD_cons_succ, List.map_cons, List.map_nil, h0, h1, h2, h3, h4]; done) | (simp only [f22, if_true, Bool.false_eq_true, if_false, h0, h1, h2, h3, h4]; rfl)
      ·
       refine Run.skip ?_
       show Run T _ _ _ _
       refine Run.seq ?_
       refine Run.rgn ?_
       refine RunO.pre 5 ?_
       simp only [i22r12, List.take_succ_cons, List.take_zero, List.drop_succ_cons, List.drop_zero, SB, x_mov, h0, h1, h2, h3, h4]
       refine RunO.c (c43 x0 x1 x2 x3 (by first | assumption | exact f54_lt _ _) (by first | assumption | exact f54_lt _ _) (by first | assumption | exact f54_lt _ _) _) ?_
       refine RunO.c (c14 (f20 x0 x1).1 (f43 x0 x1 x2 x3) _) ?_
       refine RunO.all ?_
       simp only [SB, x_mov, h0, h1, h2, h3, h4]
       show Run T _ _ _ _
       refine Run.ret ⟨?_, rfl⟩
       first | (rw [f22, ite_f h0, ite_f h1, ite_f h2, ite_f h3, ite_f h4]; rfl) | (rw [f22, ite_f h0, ite_f h1, ite_f h2, ite_f h3, ite_f h4]; simp only [resV, ev_t, List.getD_cons_zero, List.getD_cons_succ, List.map_cons, List.map_nil, h0, h1, h2, h3, h4]; done) | (simp only [f22, if_true, Bool.false_eq_true, if_false, h0, h1, h2, h3, h4]; rfl)
theorem c22 (x0 : Int) (x1 : Int) (x2 : Int) (x3 : Int) (b0 : 0 ≤ x2) (b1 : x3 < 18446744073709551616) (b2 : 0 ≤ x3) (H : Heap) : PC T H 22 [.int .u8 x0, .int .u8 x1, .int .u64 x2, .int .u64 x3] (.tup [.int .u64 (f22 x0 x1 x2 x3).1, .bool (f22 x0 x1 x2 x3).2]) := PC.now rfl rfl (w22 x0 x1 x2 x3 b0 b1 b2)

/- smithy/smithyref01.One -/
def f24 (x0 : Int) (x1 : Int) (x2 : Int) : Int × Bool :=
if (!(f20 x0 x1).2) then
  ((0 : Int), false)
else
  if (decide (x0 < (17 : Int))) then
    ((0 : Int), false)
  else
    if (!(f12 x1 x2)) then
      ((0 : Int), false)
    else
      if (x1 == (5 : Int)) then
        ((f14 (5 : Int) (IntKind.u64.wrap ((BitVec.ofInt IntKind.u64.bits x2 ^^^ BitVec.ofInt IntKind.u64.bits (9223372036854775808 : Int)).toNat : Int))), true)
      else
        if (x0 == (17 : Int)) then
          ((f14 x1 (IntKind.u64.wrap (0 - x2))), true)
        else
          ((f14 x1 (IntKind.u64.wrap ((BitVec.ofInt IntKind.u64.bits (if IntKind.u64.signed then -1 else IntKind.u64.max) ^^^ BitVec.ofInt IntKind.u64.bits x2).toNat : Int))), true)
theorem w24 (x0 : Int) (x1 : Int) (x2 : Int) (H : Heap) : Fn T 24 [.int .u8 x0, .int .u8 x1, .int .u64 x2] H (fun r h => r = .tup [.int .u64 (f24 x0 x1 x2).1, .bool (f24 x0 x1 x2).2] ∧ h = H) := by
  refine Fn.enter t24 ?_; simp only [i24, List.length_cons, List.length_nil, Nat.reduceAdd, Nat.reduceSub, List.replicate_succ, List.replicate_zero, List.cons_append, List.nil_append]
  refine Run.seq ?_
  refine Run.rgn ?_
  refine RunO.all ?_
  simp only [i24r0, SB, x_mov]
  show Run T _ _ _ _
  refine Run.seq ?_
  refine Run.rgn ?_
  refine RunO.pre 2 ?_
  simp only [i24r1, List.take_succ_cons, List.take_zero, List.drop_succ_cons, List.drop_zero, SB, x_mov]
  refine RunO.c (c20 x0 x1 _) ?_
  refine RunO.all ?_
  simp only [SB, x_ext, extV, List.getElem?_cons_zero, List.getElem?_cons_succ, x_mov]
  show Run T _ _ _ _
  refine Run.seq ?_
  refine Run.seq ?_
  refine Run.rgn ?_
  refine RunO.pre 3 ?_
  simp only [i24r2, List.take_succ_cons, List.take_zero, List.drop_succ_cons, List.drop_zero, SB, x_mov, x_un, unV, intB]
  rcases Bool.eq_false_or_eq_true (!(f20 x0 x1).2) with h0 | h0
  ·
   refine RunO.pre 6 ?_
   simp only [List.drop_zero, List.take_succ_cons, List.take_zero, List.drop_succ_cons, List.drop_zero, SB, x_bin, binV, intB, x_mov, x_pick, if_true, if_false, Bool.false_eq_true, if_true, reduceCtorEq, not_false_eq_true, exOp_gt, exOp_gf, exOp_gf2, exOp_gs, h0]
   refine RunO.cs (b := true) (by rfl) (by decide) ?_
   refine RunO.all ?_
   simp only [SB, x_pick, if_true, if_false, Bool.false_eq_true, x_un, unV, intB, exOp_gt, exOp_gf, exOp_gf2, exOp_gs, h0]
   show Run T _ _ _ _
   refine Run.ite (by rfl) (fun _ => ?_) (fun h => by first | exact absurd h (by decide) | (simp only [h0, reduceCtorEq, Bool.not_true, Bool.not_false, Bool.false_eq_true, Bool.true_eq_false] at h))
   refine Run.seq ?_
   refine Run.rgn ?_
   refine RunO.all ?_
   simp only [i24r3, SB, x_mov, h0]
   show Run T _ _ _ _
   refine Run.ret ⟨?_, rfl⟩
   first | (rw [f24, ite_t h0]; rfl) | (rw [f24, ite_t h0]; simp only [resV, ev_t, List.getD_cons_zero, List.getD_cons_succ, List.map_cons, List.map_nil, h0]; done) | (simp only [f24, if_true, Bool.false_eq_true, if_false, h0]; rfl)
  ·
   refine RunO.pre 4 ?_
   simp only [List.drop_zero, List.take_succ_cons, List.take_zero, List.drop_succ_cons, List.drop_zero, SB, x_bin, binV, intB, x_mov, x_pick, if_true, if_false, Bool.false_eq_true, if_true, reduceCtorEq, not_false_eq_true, exOp_gt, exOp_gf, exOp_gf2, exOp_gs, h0]
   rcases Bool.eq_false_or_eq_true (decide (x0 < (17 : Int))) with h1 | h1
   ·
    refine RunO.pre 2 ?_
    simp only [List.drop_zero, List.take_succ_cons, List.take_zero, List.drop_succ_cons, List.drop_zero, SB, x_mov, exOp_gt, exOp_gf, exOp_gf2, exOp_gs, h0, h1]
    refine RunO.cs (b := true) (by rfl) (by decide) ?_
    refine RunO.all ?_
    simp only [SB, x_pick, if_true, if_false, Bool.false_eq_true, x_un, unV, intB, exOp_gt, exOp_gf, exOp_gf2, exOp_gs, h0, h1]
    show Run T _ _ _ _
    refine Run.ite (by rfl) (fun _ => ?_) (fun h => by first | exact absurd h (by decide) | (simp only [h0, h1, reduceCtorEq, Bool.not_true, Bool.not_false, Bool.false_eq_true, Bool.true_eq_false] at h))
    refine Run.seq ?_
    refine Run.rgn ?_
    refine RunO.all ?_
    simp only [i24r3, SB, x_mov, h0, h1]
    show Run T _ _ _ _
    refine Run.ret ⟨?_, rfl⟩
    first | (rw [f24, ite_f h0, ite_t h1]; rfl) | (rw [f24, ite_f h0, ite_t h1]; simp only [resV, ev_t, List.getD_cons_zero, List.getD_cons_succ, List.map_cons, List.map_nil, h0, h1]; done) | (simp only [f24, if_true, Bool.false_eq_true, if_false, h0, h1]; rfl)
   ·
    refine RunO.pre 2 ?_
    simp only [List.drop_zero, List.take_succ_cons, List.take_zero, List.drop_succ_cons, List.drop_zero, SB, x_mov, exOp_gt, exOp_gf, exOp_gf2, exOp_gs, h0, h1]
    refine RunO.cg (by rfl) (c12 x1 x2 _) ?_
    refine RunO.all ?_
    simp only [SB, x_pick, if_true, if_false, Bool.false_eq_true, x_un, unV, intB, exOp_gt, exOp_gf, exOp_gf2, exOp_gs, h0, h1]
    show Run T _ _ _ _
    refine Run.ite (by rfl) (fun h2 => ?_) (fun h2 => ?_)
    ·
     refine Run.seq ?_
     refine Run.rgn ?_
     refine RunO.all ?_
     simp only [i24r3, SB, x_mov, h0, h1, h2]
     show Run T _ _ _ _
     refine Run.ret ⟨?_, rfl⟩
     first | (rw [f24, ite_f h0, ite_f h1, ite_t h2]; rfl) | (rw [f24, ite_f h0, ite_f h1, ite_t h2]; simp only [resV, ev_t, List.getD_cons_zero, List.getD_cons_succ, List.map_cons, List.map_nil, h0, h1, h2]; done) | (simp only [f24, if_true, Bool.false_eq_true, if_false, h0, h1, h2]; rfl)
    ·
     refine Run.skip ?_
     show Run T _ _ _ _
     refine Run.seq ?_
     refine Run.seq ?_
     refine Run.rgn ?_
     refine RunO.all ?_
     simp only [i24r7, SB, x_bin, binV, intB, x_mov, if_true, reduceCtorEq, not_false_eq_true, h0, h1, h2]
     show Run T _ _ _ _
     refine Run.ite (by rfl) (fun h3 => ?_) (fun h3 => ?_)
     ·
      refine Run.seq ?_
      refine Run.rgn ?_
      refine RunO.pre 2 ?_
      simp only [i24r8, List.take_succ_cons, List.take_zero, List.drop_succ_cons, List.drop_zero, SB, x_bin, binV, intB, x_mov, if_true, reduceCtorEq, not_false_eq_true, h0, h1, h2, h3]
      refine RunO.c (c14 (5 : Int) (IntKind.u64.wrap ((BitVec.ofInt IntKind.u64.bits x2 ^^^ BitVec.ofInt IntKind.u64.bits (9223372036854775808 : Int)).toNat : Int)) _) ?_
      refine RunO.all ?_
      simp only [SB, x_mov, h0, h1, h2, h3]
      show Run T _ _ _ _
      refine Run.ret ⟨?_, rfl⟩
      first | (rw [f24, ite_f h0, ite_f h1, ite_f h2, ite_t h3]; rfl) | (rw [f24, ite_f h0, ite_f h1, ite_f h2, ite_t h3]; simp only [resV, ev_t, List.getD_cons_zero, List.getD_cons_succ, List.map_cons, List.map_nil, h0, h1, h2, h3]; done) | (simp only [f24, if_true, Bool.false_eq_true, if_false, h0, h1, h2, h3]; rfl)
     ·
      refine Run.skip ?_
      show Run T _ _ _ _
      refine Run.seq ?_
      refine Run.seq ?_
      refine Run.rgn ?_
      refine RunO.all ?_
      simp only [i24r12, SB, x_bin, binV, intB, x_mov, if_true, reduceCtorEq, not_false_eq_true, h0, h1, h2, h3]
      show Run T _ _ _ _
      refine Run.ite (by rfl) (fun h4 => ?_) (fun h4 => ?_)
      ·
       refine Run.seq ?_
       refine Run.rgn ?_
       refine RunO.pre 3 ?_
       simp only [i24r13, List.take_succ_cons, List.take_zero, List.drop_succ_cons, List.drop_zero, SB, x_mov, x_un, unV, intB, h0, h1, h2, h3, h4]
       refine RunO.c (c14 x1 (IntKind.u64.wrap (0 - x2)) _) ?_
       refine RunO.all ?_
       simp only [SB, x_mov, h0, h1, h2, h3, h4]
       show Run T _ _ _ _
       refine Run.ret ⟨?_, rfl⟩
       first | (rw [f24, ite_f h0, ite_f h1, ite_f h2, ite_f h3, ite_t h4]; rfl) | (rw [f24, ite_f h0, ite_f h1, ite_f h2, ite_f h3, ite_t h4]; simp only [resV, ev_t, List.getD_cons_zero, List.getD_cons_succ, List.map_cons, List.map_nil, h0, h1, h2, h3, h4]; done) | (simp only [f24, if_true, Bool.false_eq_true, if_false, h0, h1, h2, h3, h4]; rfl)
      ·
       refine Run.skip ?_
       show Run T _ _ _ _
       refine Run.seq ?_
       refine Run.rgn ?_
       refine RunO.pre 3 ?_
       simp only [i24r17, List.take_succ_cons, List.take_zero, List.drop_succ_cons, List.drop_zero, SB, x_mov, x_un, unV, intB, h0, h1, h2, h3, h4]
       refine RunO.c (c14 x1 (IntKind.u64.wrap ((BitVec.ofInt IntKind.u64.bits (if IntKind.u64.signed then -1 else IntKind.u64.max) ^^^ BitVec.ofInt IntKind.u64.bits x2).toNat : Int)) _) ?_
       refine RunO.all ?_
       simp only [SB, x_mov, h0, h1, h2, h3, h4]
       show Run T _ _ _ _
       refine Run.ret ⟨?_, rfl⟩
       first | (rw [f24, ite_f h0, ite_f h1, ite_f h2, ite_f h3, ite_f h4]; rfl) | (rw [f24, ite_f h0, ite_f h1, ite_f h2, ite_f h3, ite_f h4]; simp only [resV, ev_t, List.getD_cons_zero, List.getD_cons_succ, List.map_cons, List.map_nil, h0, h1, h2, h3, h4]; done) | (simp only [f24, if_true, Bool.false_eq_true, if_false, h0, h1, h2, h3, h4]; rfl)
theorem c24 (x0 : Int) (x1 : Int) (x2 : Int) (H : Heap) : PC T H 24 [.int .u8 x0, .int .u8 x1, .int .u64 x2] (.tup [.int .u64 (f24 x0 x1 x2).1, .bool (f24 x0 x1 x2).2]) := PC.now rfl rfl (w24 x0 x1 x2 )

end Go.Eng.Sca
