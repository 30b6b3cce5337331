/- Functions of this seat, each with a plain function that gives the same answers (lines written by a program of this session's; no condition beyond those stated). -/
import Derived.Test.YtiacbfphlgbiiaaScaPM
namespace Go.Eng.Sca
open Go Go.Eng
set_option linter.unusedVariables false
set_option linter.unusedSimpArgs false
set_option maxRecDepth 20000
set_option maxHeartbeats 4000000

/- smithy/scalar.Turn -/
def f28 (x0 : Int) (x1 : Int) (x2 : Int) : Int × Bool :=
if (!(f34 x0 x1)) then
  ((0 : Int), false)
else
  if (!(f11 x1 x2)) then
    ((0 : Int), false)
  else
    if (x1 == (5 : Int)) then
      if (x0 != (5 : Int)) then
        if (!(f44 x0 (some x2.toNat))) then
          ((0 : Int), true)
        else
          ((IntKind.u64.wrap (f2iI (some x2.toNat))), true)
      else
        if (x0 == (5 : Int)) then
          if (x1 != (5 : Int)) then
            ((((Ieee.double.write (.number ((IntKind.i64.wrap x2) < 0) (IntKind.i64.wrap x2).natAbs 0)) : Nat) : Int), true)
          else
            ((f13 x0 x2), true)
        else
          ((f13 x0 x2), true)
    else
      if (x0 == (5 : Int)) then
        if (x1 != (5 : Int)) then
          ((((Ieee.double.write (.number ((IntKind.i64.wrap x2) < 0) (IntKind.i64.wrap x2).natAbs 0)) : Nat) : Int), true)
        else
          ((f13 x0 x2), true)
      else
        ((f13 x0 x2), true)
theorem w28 (x0 : Int) (x1 : Int) (x2 : Int) (H : Heap) : Fn T 28 [.int .u8 x0, .int .u8 x1, .int .u64 x2] H (fun r h => r = .tup [.int .u64 (f28 x0 x1 x2).1, .bool (f28 x0 x1 x2).2] ∧ h = H) := by
  refine Fn.enter t28 ?_; simp only [i28, List.length_cons, List.length_nil, Nat.reduceAdd, Nat.reduceSub, List.replicate_succ, List.replicate_zero, List.cons_append, List.nil_append]
  refine Run.seq ?_
  refine Run.rgn ?_
  refine RunO.all ?_
  simp only [i28r0, SB, x_mov]
  show Run T _ _ _ _
  refine Run.seq ?_
  refine Run.seq ?_
  refine Run.rgn ?_
  refine RunO.pre 2 ?_
  simp only [i28r1, List.take_succ_cons, List.take_zero, List.drop_succ_cons, List.drop_zero, SB, x_mov]
  refine RunO.c (c34 x0 x1 _) ?_
  refine RunO.pre 2 ?_
  simp only [List.take_succ_cons, List.take_zero, List.drop_succ_cons, List.drop_zero, SB, x_mov, x_un, unV, intB]
  rcases Bool.eq_false_or_eq_true (!(f34 x0 x1)) with h0 | h0
  ·
   refine RunO.pre 2 ?_
   simp only [List.drop_zero, List.take_succ_cons, List.take_zero, List.drop_succ_cons, List.drop_zero, SB, x_mov, exOp_gt, exOp_gf, exOp_gf2, exOp_gs, h0]
   refine RunO.cs (b := true) (by rfl) (by decide) ?_
   refine RunO.all ?_
   simp only [SB, x_pick, if_true, if_false, Bool.false_eq_true, x_un, unV, intB, exOp_gt, exOp_gf, exOp_gf2, exOp_gs, h0]
   show Run T _ _ _ _
   refine Run.ite (by rfl) (fun _ => ?_) (fun h => by first | exact absurd h (by decide) | (simp only [h0, reduceCtorEq, Bool.not_true, Bool.not_false, Bool.false_eq_true, Bool.true_eq_false] at h))
   refine Run.seq ?_
   refine Run.rgn ?_
   refine RunO.all ?_
   simp only [i28r2, SB, x_mov, h0]
   show Run T _ _ _ _
   refine Run.ret ⟨?_, rfl⟩
   first | (rw [f28, ite_t h0]; rfl) | (rw [f28, ite_t h0]; simp only [resV, ev_t, List.getD_cons_zero, List.getD_cons_succ, List.map_cons, List.map_nil, h0]; done) | (simp only [f28, if_true, Bool.false_eq_true, if_false, h0]; rfl)
  ·
   refine RunO.pre 2 ?_
   simp only [List.drop_zero, List.take_succ_cons, List.take_zero, List.drop_succ_cons, List.drop_zero, SB, x_mov, exOp_gt, exOp_gf, exOp_gf2, exOp_gs, h0]
   refine RunO.cg (by rfl) (c11 x1 x2 _) ?_
   refine RunO.all ?_
   simp only [SB, x_pick, if_true, if_false, Bool.false_eq_true, x_un, unV, intB, exOp_gt, exOp_gf, exOp_gf2, exOp_gs, h0]
   show Run T _ _ _ _
   refine Run.ite (by rfl) (fun h1 => ?_) (fun h1 => ?_)
   ·
    refine Run.seq ?_
    refine Run.rgn ?_
    refine RunO.all ?_
    simp only [i28r2, SB, x_mov, h0, h1]
    show Run T _ _ _ _
    refine Run.ret ⟨?_, rfl⟩
    first | (rw [f28, ite_f h0, ite_t h1]; rfl) | (rw [f28, ite_f h0, ite_t h1]; simp only [resV, ev_t, List.getD_cons_zero, List.getD_cons_succ, List.map_cons, List.map_nil, h0, h1]; done) | (simp only [f28, if_true, Bool.false_eq_true, if_false, h0, h1]; rfl)
   ·
    refine Run.skip ?_
    show Run T _ _ _ _
    refine Run.seq ?_
    refine Run.block ?_
    refine Run.seq ?_
    refine Run.rgn ?_
    refine RunO.pre 3 ?_
    simp only [i28r6, List.take_succ_cons, List.take_zero, List.drop_succ_cons, List.drop_zero, SB, x_bin, binV, intB, x_mov, if_true, reduceCtorEq, not_false_eq_true, h0, h1]
    rcases Bool.eq_false_or_eq_true (x1 == (5 : Int)) with h2 | h2
    ·
     refine RunO.all ?_
     simp only [List.drop_zero, SB, x_bin, binV, intB, x_mov, x_pick, if_true, if_false, Bool.false_eq_true, if_true, reduceCtorEq, not_false_eq_true, exOp_gt, exOp_gf, exOp_gf2, exOp_gs, h0, h1, h2]
     show Run T _ _ _ _
     refine Run.ite (by rfl) (fun h3 => ?_) (fun h3 => ?_)
     ·
      refine Run.seq ?_
      refine Run.rgn ?_
      refine RunO.all ?_
      simp only [i28r7, SB, x_mov, x_xc, xc_word, xc_from, xc_trunc, wordV_some, h0, h1, h2, h3]
      show Run T _ _ _ _
      refine Run.seq ?_
      refine Run.seq ?_
      refine Run.rgn ?_
      refine RunO.pre 2 ?_
      simp only [i28r8, List.take_succ_cons, List.take_zero, List.drop_succ_cons, List.drop_zero, SB, x_mov, h0, h1, h2, h3]
      refine RunO.c (c44 x0 (some x2.toNat) _) ?_
      refine RunO.all ?_
      simp only [SB, x_un, unV, intB, h0, h1, h2, h3]
      show Run T _ _ _ _
      refine Run.ite (by rfl) (fun h4 => ?_) (fun h4 => ?_)
      ·
       refine Run.seq ?_
       refine Run.rgn ?_
       refine RunO.all ?_
       simp only [i28r9, SB, x_mov, h0, h1, h2, h3, h4]
       show Run T _ _ _ _
       refine Run.ret ⟨?_, rfl⟩
       first | (rw [f28, ite_f h0, ite_f h1, ite_t h2, ite_t h3, ite_t h4]; rfl) | (rw [f28, ite_f h0, ite_f h1, ite_t h2, ite_t h3, ite_t h4]; simp only [resV, ev_t, List.getD_cons_zero, List.getD_cons_succ, List.map_cons, List.map_nil, h0, h1, h2, h3, h4]; done) | (simp only [f28, if_true, Bool.false_eq_true, if_false, h0, h1, h2, h3, h4]; rfl)
      ·
       refine Run.skip ?_
       show Run T _ _ _ _
       refine Run.seq ?_
       refine Run.rgn ?_
       refine RunO.all ?_
       simp only [i28r13, SB, x_cvt, x_f2i, x_mov, h0, h1, h2, h3, h4, f2i_of (t := x0) (x := some x2.toNat) h4]
       show Run T _ _ _ _
       refine Run.ret ⟨?_, rfl⟩
       first | (rw [f28, ite_f h0, ite_f h1, ite_t h2, ite_t h3, ite_f h4]; rfl) | (rw [f28, ite_f h0, ite_f h1, ite_t h2, ite_t h3, ite_f h4]; simp only [resV, ev_t, List.getD_cons_zero, List.getD_cons_succ, List.map_cons, List.map_nil, h0, h1, h2, h3, h4]; done) | (simp only [f28, if_true, Bool.false_eq_true, if_false, h0, h1, h2, h3, h4]; rfl)
     ·
      refine Run.seq ?_
      refine Run.rgn ?_
      refine RunO.pre 3 ?_
      simp only [i28r17, List.take_succ_cons, List.take_zero, List.drop_succ_cons, List.drop_zero, SB, x_bin, binV, intB, x_mov, if_true, reduceCtorEq, not_false_eq_true, h0, h1, h2, h3]
      rcases Bool.eq_false_or_eq_true (x0 == (5 : Int)) with h5 | h5
      ·
       refine RunO.all ?_
       simp only [List.drop_zero, SB, x_bin, binV, intB, x_mov, x_pick, if_true, if_false, Bool.false_eq_true, if_true, reduceCtorEq, not_false_eq_true, exOp_gt, exOp_gf, exOp_gf2, exOp_gs, h0, h1, h2, h3, h5]
       show Run T _ _ _ _
       refine Run.ite (by rfl) (fun h6 => ?_) (fun h6 => ?_)
       ·
        refine Run.seq ?_
        refine Run.rgn ?_
        refine RunO.all ?_
        simp only [i28r18, SB, x_cvt, x_i2f, i2fV, x_mov, x_xc, xc_word, xc_from, xc_trunc, wordV_some, h0, h1, h2, h3, h5, h6]
        show Run T _ _ _ _
        refine Run.ret ⟨?_, rfl⟩
        first | (rw [f28, ite_f h0, ite_f h1, ite_t h2, ite_f h3, ite_t h5, ite_t h6]; rfl) | (rw [f28, ite_f h0, ite_f h1, ite_t h2, ite_f h3, ite_t h5, ite_t h6]; simp only [resV, ev_t, List.getD_cons_zero, List.getD_cons_succ, List.map_cons, List.map_nil, h0, h1, h2, h3, h5, h6]; done) | (simp only [f28, if_true, Bool.false_eq_true, if_false, h0, h1, h2, h3, h5, h6]; rfl)
       ·
        refine Run.skip ?_
        show Run T _ _ _ _
        refine Run.seq ?_
        refine Run.rgn ?_
        refine RunO.pre 2 ?_
        simp only [i28r25, List.take_succ_cons, List.take_zero, List.drop_succ_cons, List.drop_zero, SB, x_mov, h0, h1, h2, h3, h5, h6]
        refine RunO.c (c13 x0 x2 _) ?_
        refine RunO.all ?_
        simp only [SB, x_mov, h0, h1, h2, h3, h5, h6]
        show Run T _ _ _ _
        refine Run.ret ⟨?_, rfl⟩
        first | (rw [f28, ite_f h0, ite_f h1, ite_t h2, ite_f h3, ite_t h5, ite_f h6]; rfl) | (rw [f28, ite_f h0, ite_f h1, ite_t h2, ite_f h3, ite_t h5, ite_f h6]; simp only [resV, ev_t, List.getD_cons_zero, List.getD_cons_succ, List.map_cons, List.map_nil, h0, h1, h2, h3, h5, h6]; done) | (simp only [f28, if_true, Bool.false_eq_true, if_false, h0, h1, h2, h3, h5, h6]; rfl)
      ·
       refine RunO.all ?_
       simp only [List.drop_zero, SB, x_bin, binV, intB, x_mov, x_pick, if_true, if_false, Bool.false_eq_true, if_true, reduceCtorEq, not_false_eq_true, exOp_gt, exOp_gf, exOp_gf2, exOp_gs, h0, h1, h2, h3, h5]
       show Run T _ _ _ _
       refine Run.ite (by rfl) (fun h => by first | exact absurd h (by decide) | (simp only [h0, h1, h2, h3, h5, reduceCtorEq, Bool.not_true, Bool.not_false, Bool.false_eq_true, Bool.true_eq_false] at h)) (fun _ => ?_)
       refine Run.skip ?_
       show Run T _ _ _ _
       refine Run.seq ?_
       refine Run.rgn ?_
       refine RunO.pre 2 ?_
       simp only [i28r25, List.take_succ_cons, List.take_zero, List.drop_succ_cons, List.drop_zero, SB, x_mov, h0, h1, h2, h3, h5]
       refine RunO.c (c13 x0 x2 _) ?_
       refine RunO.all ?_
       simp only [SB, x_mov, h0, h1, h2, h3, h5]
       show Run T _ _ _ _
       refine Run.ret ⟨?_, rfl⟩
       first | (rw [f28, ite_f h0, ite_f h1, ite_t h2, ite_f h3, ite_f h5]; rfl) | (rw [f28, ite_f h0, ite_f h1, ite_t h2, ite_f h3, ite_f h5]; simp only [resV, ev_t, List.getD_cons_zero, List.getD_cons_succ, List.map_cons, List.map_nil, h0, h1, h2, h3, h5]; done) | (simp only [f28, if_true, Bool.false_eq_true, if_false, h0, h1, h2, h3, h5]; rfl)
    ·
     refine RunO.all ?_
     simp only [List.drop_zero, SB, x_bin, binV, intB, x_mov, x_pick, if_true, if_false, Bool.false_eq_true, if_true, reduceCtorEq, not_false_eq_true, exOp_gt, exOp_gf, exOp_gf2, exOp_gs, h0, h1, h2]
     show Run T _ _ _ _
     refine Run.ite (by rfl) (fun h => by first | exact absurd h (by decide) | (simp only [h0, h1, h2, reduceCtorEq, Bool.not_true, Bool.not_false, Bool.false_eq_true, Bool.true_eq_false] at h)) (fun _ => ?_)
     refine Run.seq ?_
     refine Run.rgn ?_
     refine RunO.pre 3 ?_
     simp only [i28r17, List.take_succ_cons, List.take_zero, List.drop_succ_cons, List.drop_zero, SB, x_bin, binV, intB, x_mov, if_true, reduceCtorEq, not_false_eq_true, h0, h1, h2]
     rcases Bool.eq_false_or_eq_true (x0 == (5 : Int)) with h7 | h7
     ·
      refine RunO.all ?_
      simp only [List.drop_zero, SB, x_bin, binV, intB, x_mov, x_pick, if_true, if_false, Bool.false_eq_true, if_true, reduceCtorEq, not_false_eq_true, exOp_gt, exOp_gf, exOp_gf2, exOp_gs, h0, h1, h2, h7]
      show Run T _ _ _ _
      refine Run.ite (by rfl) (fun h8 => ?_) (fun h8 => ?_)
      ·
       refine Run.seq ?_
       refine Run.rgn ?_
       refine RunO.all ?_
       simp only [i28r18, SB, x_cvt, x_i2f, i2fV, x_mov, x_xc, xc_word, xc_from, xc_trunc, wordV_some, h0, h1, h2, h7, h8]
       show Run T _ _ _ _
       refine Run.ret ⟨?_, rfl⟩
       first | (rw [f28, ite_f h0, ite_f h1, ite_f h2, ite_t h7, ite_t h8]; rfl) | (rw [f28, ite_f h0, ite_f h1, ite_f h2, ite_t h7, ite_t h8]; simp only [resV, ev_t, List.getD_cons_zero, List.getD_cons_succ, List.map_cons, List.map_nil, h0, h1, h2, h7, h8]; done) | (simp only [f28, if_true, Bool.false_eq_true, if_false, h0, h1, h2, h7, h8]; rfl)
      ·
       refine Run.skip ?_
       show Run T _ _ _ _
       refine Run.seq ?_
       refine Run.rgn ?_
       refine RunO.pre 2 ?_
       simp only [i28r25, List.take_succ_cons, List.take_zero, List.drop_succ_cons, List.drop_zero, SB, x_mov, h0, h1, h2, h7, h8]
       refine RunO.c (c13 x0 x2 _) ?_
       refine RunO.all ?_
       simp only [SB, x_mov, h0, h1, h2, h7, h8]
       show Run T _ _ _ _
       refine Run.ret ⟨?_, rfl⟩
       first | (rw [f28, ite_f h0, ite_f h1, ite_f h2, ite_t h7, ite_f h8]; rfl) | (rw [f28, ite_f h0, ite_f h1, ite_f h2, ite_t h7, ite_f h8]; simp only [resV, ev_t, List.getD_cons_zero, List.getD_cons_succ, List.map_cons, List.map_nil, h0, h1, h2, h7, h8]; done) | (simp only [f28, if_true, Bool.false_eq_true, if_false, h0, h1, h2, h7, h8]; rfl)
     ·
      refine RunO.all ?_
      simp only [List.drop_zero, SB, x_bin, binV, intB, x_mov, x_pick, if_true, if_false, Bool.false_eq_true, if_true, reduceCtorEq, not_false_eq_true, exOp_gt, exOp_gf, exOp_gf2, exOp_gs, h0, h1, h2, h7]
      show Run T _ _ _ _
      refine Run.ite (by rfl) (fun h => by first | exact absurd h (by decide) | (simp only [h0, h1, h2, h7, reduceCtorEq, Bool.not_true, Bool.not_false, Bool.false_eq_true, Bool.true_eq_false] at h)) (fun _ => ?_)
      refine Run.skip ?_
      show Run T _ _ _ _
      refine Run.seq ?_
      refine Run.rgn ?_
      refine RunO.pre 2 ?_
      simp only [i28r25, List.take_succ_cons, List.take_zero, List.drop_succ_cons, List.drop_zero, SB, x_mov, h0, h1, h2, h7]
      refine RunO.c (c13 x0 x2 _) ?_
      refine RunO.all ?_
      simp only [SB, x_mov, h0, h1, h2, h7]
      show Run T _ _ _ _
      refine Run.ret ⟨?_, rfl⟩
      first | (rw [f28, ite_f h0, ite_f h1, ite_f h2, ite_f h7]; rfl) | (rw [f28, ite_f h0, ite_f h1, ite_f h2, ite_f h7]; simp only [resV, ev_t, List.getD_cons_zero, List.getD_cons_succ, List.map_cons, List.map_nil, h0, h1, h2, h7]; done) | (simp only [f28, if_true, Bool.false_eq_true, if_false, h0, h1, h2, h7]; rfl)
theorem c28 (x0 : Int) (x1 : Int) (x2 : Int) (H : Heap) : PC T H 28 [.int .u8 x0, .int .u8 x1, .int .u64 x2] (.tup [.int .u64 (f28 x0 x1 x2).1, .bool (f28 x0 x1 x2).2]) := PC.now rfl rfl (w28 x0 x1 x2 )

end Go.Eng.Sca
