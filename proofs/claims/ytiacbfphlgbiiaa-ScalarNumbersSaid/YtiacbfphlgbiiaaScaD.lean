/- Functions of this seat, each with a plain function that gives the same answers (lines written by a program of this session's; no condition beyond those stated). -/
import Derived.Test.YtiacbfphlgbiiaaScaC
namespace Go.Eng.Sca
open Go Go.Eng
set_option linter.unusedVariables false
set_option linter.unusedSimpArgs false
set_option maxRecDepth 20000
set_option maxHeartbeats 4000000

/- smithy/scalar.Two -/
def f21 (x0 : Int) (x1 : Int) (x2 : Int) (x3 : Int) : Int × Bool :=
if (!(f19 x0 x1).2) then
  ((0 : Int), false)
else
  if (x0 == (17 : Int)) then
    ((0 : Int), false)
  else
    if (x0 == (18 : Int)) then
      ((0 : Int), false)
    else
      if (!(f11 x1 x2)) then
        ((0 : Int), false)
      else
        if (!(f11 x1 x3)) then
          ((0 : Int), false)
        else
          if (x1 == (5 : Int)) then
            ((f40 x0 (some x2.toNat) (some x3.toNat)), true)
          else
            ((f13 (f19 x0 x1).1 (f41 x0 x1 x2 x3)), true)
theorem w21 (x0 : Int) (x1 : Int) (x2 : Int) (x3 : Int) (H : Heap) : Fn T 21 [.int .u8 x0, .int .u8 x1, .int .u64 x2, .int .u64 x3] H (fun r h => r = .tup [.int .u64 (f21 x0 x1 x2 x3).1, .bool (f21 x0 x1 x2 x3).2] ∧ h = H) := by
  refine Fn.enter t21 ?_; simp only [i21, List.length_cons, List.length_nil, Nat.reduceAdd, Nat.reduceSub, List.replicate_succ, List.replicate_zero, List.cons_append, List.nil_append]
  refine Run.seq ?_
  refine Run.rgn ?_
  refine RunO.all ?_
  simp only [i21r0, SB, x_mov]
  show Run T _ _ _ _
  refine Run.seq ?_
  refine Run.rgn ?_
  refine RunO.pre 2 ?_
  simp only [i21r1, List.take_succ_cons, List.take_zero, List.drop_succ_cons, List.drop_zero, SB, x_mov]
  refine RunO.c (c19 x0 x1 _) ?_
  refine RunO.all ?_
  simp only [SB, x_ext, extV, List.getElem?_cons_zero, List.getElem?_cons_succ, x_mov]
  show Run T _ _ _ _
  refine Run.seq ?_
  refine Run.seq ?_
  refine Run.rgn ?_
  refine RunO.pre 3 ?_
  simp only [i21r2, List.take_succ_cons, List.take_zero, List.drop_succ_cons, List.drop_zero, SB, x_mov, x_un, unV, intB]
  rcases Bool.eq_false_or_eq_true (!(f19 x0 x1).2) with h0 | h0
  ·
   refine RunO.pre 10 ?_
   simp only [List.drop_zero, List.take_succ_cons, List.take_zero, List.drop_succ_cons, List.drop_zero, SB, x_bin, binV, intB, x_mov, x_pick, if_true, if_false, Bool.false_eq_true, if_true, reduceCtorEq, not_false_eq_true, exOp_gt, exOp_gf, exOp_gf2, exOp_gs, h0]
   refine RunO.cs (b := true) (by rfl) (by decide) ?_
   refine RunO.pre 5 ?_
   simp only [List.take_succ_cons, List.take_zero, List.drop_succ_cons, List.drop_zero, SB, x_mov, x_pick, if_true, if_false, Bool.false_eq_true, x_un, unV, intB, exOp_gt, exOp_gf, exOp_gf2, exOp_gs, h0]
   refine RunO.cs (b := true) (by rfl) (by decide) ?_
   refine RunO.all ?_
   simp only [SB, x_pick, if_true, if_false, Bool.false_eq_true, x_un, unV, intB, exOp_gt, exOp_gf, exOp_gf2, exOp_gs, h0]
   show Run T _ _ _ _
   refine Run.ite (by rfl) (fun _ => ?_) (fun h => by first | exact absurd h (by decide) | (simp only [h0, reduceCtorEq, Bool.not_true, Bool.not_false, Bool.false_eq_true, Bool.true_eq_false] at h))
   refine Run.seq ?_
   refine Run.rgn ?_
   refine RunO.all ?_
   simp only [i21r3, SB, x_mov, h0]
   show Run T _ _ _ _
   refine Run.ret ⟨?_, rfl⟩
   first | (rw [f21, ite_t h0]; rfl) | (rw [f21, ite_t h0]; simp only [resV, ev_t, List.getD_cons_zero, List.getD_cons_succ, List.map_cons, List.map_nil, h0]; done) | (simp only [f21, if_true, Bool.false_eq_true, if_false, h0]; rfl)
  ·
   refine RunO.pre 4 ?_
   simp only [List.drop_zero, List.take_succ_cons, List.take_zero, List.drop_succ_cons, List.drop_zero, SB, x_bin, binV, intB, x_mov, x_pick, if_true, if_false, Bool.false_eq_true, if_true, reduceCtorEq, not_false_eq_true, exOp_gt, exOp_gf, exOp_gf2, exOp_gs, h0]
   rcases Bool.eq_false_or_eq_true (x0 == (17 : Int)) with h1 | h1
   ·
    refine RunO.pre 6 ?_
    simp only [List.drop_zero, List.take_succ_cons, List.take_zero, List.drop_succ_cons, List.drop_zero, SB, x_bin, binV, intB, x_mov, x_pick, if_true, if_false, Bool.false_eq_true, if_true, reduceCtorEq, not_false_eq_true, exOp_gt, exOp_gf, exOp_gf2, exOp_gs, h0, h1]
    refine RunO.cs (b := true) (by rfl) (by decide) ?_
    refine RunO.pre 5 ?_
    simp only [List.take_succ_cons, List.take_zero, List.drop_succ_cons, List.drop_zero, SB, x_mov, x_pick, if_true, if_false, Bool.false_eq_true, x_un, unV, intB, exOp_gt, exOp_gf, exOp_gf2, exOp_gs, h0, h1]
    refine RunO.cs (b := true) (by rfl) (by decide) ?_
    refine RunO.all ?_
    simp only [SB, x_pick, if_true, if_false, Bool.false_eq_true, x_un, unV, intB, exOp_gt, exOp_gf, exOp_gf2, exOp_gs, h0, h1]
    show Run T _ _ _ _
    refine Run.ite (by rfl) (fun _ => ?_) (fun h => by first | exact absurd h (by decide) | (simp only [h0, h1, reduceCtorEq, Bool.not_true, Bool.not_false, Bool.false_eq_true, Bool.true_eq_false] at h))
    refine Run.seq ?_
    refine Run.rgn ?_
    refine RunO.all ?_
    simp only [i21r3, SB, x_mov, h0, h1]
    show Run T _ _ _ _
    refine Run.ret ⟨?_, rfl⟩
    first | (rw [f21, ite_f h0, ite_t h1]; rfl) | (rw [f21, ite_f h0, ite_t h1]; simp only [resV, ev_t, List.getD_cons_zero, List.getD_cons_succ, List.map_cons, List.map_nil, h0, h1]; done) | (simp only [f21, if_true, Bool.false_eq_true, if_false, h0, h1]; rfl)
   ·
    refine RunO.pre 4 ?_
    simp only [List.drop_zero, List.take_succ_cons, List.take_zero, List.drop_succ_cons, List.drop_zero, SB, x_bin, binV, intB, x_mov, x_pick, if_true, if_false, Bool.false_eq_true, if_true, reduceCtorEq, not_false_eq_true, exOp_gt, exOp_gf, exOp_gf2, exOp_gs, h0, h1]
    rcases Bool.eq_false_or_eq_true (x0 == (18 : Int)) with h2 | h2
    ·
     refine RunO.pre 2 ?_
     simp only [List.drop_zero, List.take_succ_cons, List.take_zero, List.drop_succ_cons, List.drop_zero, SB, x_mov, exOp_gt, exOp_gf, exOp_gf2, exOp_gs, h0, h1, h2]
     refine RunO.cs (b := true) (by rfl) (by decide) ?_
     refine RunO.pre 5 ?_
     simp only [List.take_succ_cons, List.take_zero, List.drop_succ_cons, List.drop_zero, SB, x_mov, x_pick, if_true, if_false, Bool.false_eq_true, x_un, unV, intB, exOp_gt, exOp_gf, exOp_gf2, exOp_gs, h0, h1, h2]
     refine RunO.cs (b := true) (by rfl) (by decide) ?_
     refine RunO.all ?_
     simp only [SB, x_pick, if_true, if_false, Bool.false_eq_true, x_un, unV, intB, exOp_gt, exOp_gf, exOp_gf2, exOp_gs, h0, h1, h2]
     show Run T _ _ _ _
     refine Run.ite (by rfl) (fun _ => ?_) (fun h => by first | exact absurd h (by decide) | (simp only [h0, h1, h2, reduceCtorEq, Bool.not_true, Bool.not_false, Bool.false_eq_true, Bool.true_eq_false] at h))
     refine Run.seq ?_
     refine Run.rgn ?_
     refine RunO.all ?_
     simp only [i21r3, SB, x_mov, h0, h1, h2]
     show Run T _ _ _ _
     refine Run.ret ⟨?_, rfl⟩
     first | (rw [f21, ite_f h0, ite_f h1, ite_t h2]; rfl) | (rw [f21, ite_f h0, ite_f h1, ite_t h2]; simp only [resV, ev_t, List.getD_cons_zero, List.getD_cons_succ, List.map_cons, List.map_nil, h0, h1, h2]; done) | (simp only [f21, if_true, Bool.false_eq_true, if_false, h0, h1, h2]; rfl)
    ·
     refine RunO.pre 2 ?_
     simp only [List.drop_zero, List.take_succ_cons, List.take_zero, List.drop_succ_cons, List.drop_zero, SB, x_mov, exOp_gt, exOp_gf, exOp_gf2, exOp_gs, h0, h1, h2]
     refine RunO.cg (by rfl) (c11 x1 x2 _) ?_
     refine RunO.pre 3 ?_
     simp only [List.take_succ_cons, List.take_zero, List.drop_succ_cons, List.drop_zero, SB, x_mov, x_pick, if_true, if_false, Bool.false_eq_true, x_un, unV, intB, exOp_gt, exOp_gf, exOp_gf2, exOp_gs, h0, h1, h2]
     rcases Bool.eq_false_or_eq_true (!(f11 x1 x2)) with h3 | h3
     ·
      refine RunO.pre 2 ?_
      simp only [List.drop_zero, List.take_succ_cons, List.take_zero, List.drop_succ_cons, List.drop_zero, SB, x_mov, exOp_gt, exOp_gf, exOp_gf2, exOp_gs, h0, h1, h2, h3]
      refine RunO.cs (b := true) (by rfl) (by decide) ?_
      refine RunO.all ?_
      simp only [SB, x_pick, if_true, if_false, Bool.false_eq_true, x_un, unV, intB, exOp_gt, exOp_gf, exOp_gf2, exOp_gs, h0, h1, h2, h3]
      show Run T _ _ _ _
      refine Run.ite (by rfl) (fun _ => ?_) (fun h => by first | exact absurd h (by decide) | (simp only [h0, h1, h2, h3, reduceCtorEq, Bool.not_true, Bool.not_false, Bool.false_eq_true, Bool.true_eq_false] at h))
      refine Run.seq ?_
      refine Run.rgn ?_
      refine RunO.all ?_
      simp only [i21r3, SB, x_mov, h0, h1, h2, h3]
      show Run T _ _ _ _
      refine Run.ret ⟨?_, rfl⟩
      first | (rw [f21, ite_f h0, ite_f h1, ite_f h2, ite_t h3]; rfl) | (rw [f21, ite_f h0, ite_f h1, ite_f h2, ite_t h3]; simp only [resV, ev_t, List.getD_cons_zero, List.getD_cons_succ, List.map_cons, List.map_nil, h0, h1, h2, h3]; done) | (simp only [f21, if_true, Bool.false_eq_true, if_false, h0, h1, h2, h3]; rfl)
     ·
      refine RunO.pre 2 ?_
      simp only [List.drop_zero, List.take_succ_cons, List.take_zero, List.drop_succ_cons, List.drop_zero, SB, x_mov, exOp_gt, exOp_gf, exOp_gf2, exOp_gs, h0, h1, h2, h3]
      refine RunO.cg (by rfl) (c11 x1 x3 _) ?_
      refine RunO.all ?_
      simp only [SB, x_pick, if_true, if_false, Bool.false_eq_true, x_un, unV, intB, exOp_gt, exOp_gf, exOp_gf2, exOp_gs, h0, h1, h2, h3]
      show Run T _ _ _ _
      refine Run.ite (by rfl) (fun h4 => ?_) (fun h4 => ?_)
      ·
       refine Run.seq ?_
       refine Run.rgn ?_
       refine RunO.all ?_
       simp only [i21r3, SB, x_mov, h0, h1, h2, h3, h4]
       show Run T _ _ _ _
       refine Run.ret ⟨?_, rfl⟩
       first | (rw [f21, ite_f h0, ite_f h1, ite_f h2, ite_f h3, ite_t h4]; rfl) | (rw [f21, ite_f h0, ite_f h1, ite_f h2, ite_f h3, ite_t h4]; simp only [resV, ev_t, List.getD_cons_zero, List.getD_cons_succ, List.map_cons, List.map_nil, h0, h1, h2, h3, h4]; done) | (simp only [f21, if_true, Bool.false_eq_true, if_false, h0, h1, h2, h3, h4]; rfl)
      ·
       refine Run.skip ?_
       show Run T _ _ _ _
       refine Run.seq ?_
       refine Run.seq ?_
       refine Run.rgn ?_
       refine RunO.all ?_
       simp only [i21r7, SB, x_bin, binV, intB, x_mov, if_true, reduceCtorEq, not_false_eq_true, h0, h1, h2, h3, h4]
       show Run T _ _ _ _
       refine Run.ite (by rfl) (fun h5 => ?_) (fun h5 => ?_)
       ·
        refine Run.seq ?_
        refine Run.rgn ?_
        refine RunO.pre 5 ?_
        simp only [i21r8, List.take_succ_cons, List.take_zero, List.drop_succ_cons, List.drop_zero, SB, x_mov, x_xc, xc_word, xc_from, xc_trunc, wordV_some, h0, h1, h2, h3, h4, h5]
        refine RunO.c (c40 x0 (some x2.toNat) (some x3.toNat) _) ?_
        refine RunO.all ?_
        simp only [SB, x_mov, h0, h1, h2, h3, h4, h5]
        show Run T _ _ _ _
        refine Run.ret ⟨?_, rfl⟩
        first | (rw [f21, ite_f h0, ite_f h1, ite_f h2, ite_f h3, ite_f h4, ite_t h5]; rfl) | (rw [f21, ite_f h0, ite_f h1, ite_f h2, ite_f h3, ite_f h4, ite_t h5]; simp only [resV, ev_t, List.getD_cons_zero, List.getD_cons_succ, List.map_cons, List.map_nil, h0, h1, h2, h3, h4, h5]; done) | (simp only [f21, if_true, Bool.false_eq_true, if_false, h0, h1, h2, h3, h4, h5]; rfl)
       ·
        refine Run.skip ?_
        show Run T _ _ _ _
        refine Run.seq ?_
        refine Run.rgn ?_
        refine RunO.pre 5 ?_
        simp only [i21r12, List.take_succ_cons, List.take_zero, List.drop_succ_cons, List.drop_zero, SB, x_mov, h0, h1, h2, h3, h4, h5]
        refine RunO.c (c41 x0 x1 x2 x3 _) ?_
        refine RunO.c (c13 (f19 x0 x1).1 (f41 x0 x1 x2 x3) _) ?_
        refine RunO.all ?_
        simp only [SB, x_mov, h0, h1, h2, h3, h4, h5]
        show Run T _ _ _ _
        refine Run.ret ⟨?_, rfl⟩
        first | (rw [f21, ite_f h0, ite_f h1, ite_f h2, ite_f h3, ite_f h4, ite_f h5]; rfl) | (rw [f21, ite_f h0, ite_f h1, ite_f h2, ite_f h3, ite_f h4, ite_f h5]; simp only [resV, ev_t, List.getD_cons_zero, List.getD_cons_succ, List.map_cons, List.map_nil, h0, h1, h2, h3, h4, h5]; done) | (simp only [f21, if_true, Bool.false_eq_true, if_false, h0, h1, h2, h3, h4, h5]; rfl)
theorem c21 (x0 : Int) (x1 : Int) (x2 : Int) (x3 : Int) (H : Heap) : PC T H 21 [.int .u8 x0, .int .u8 x1, .int .u64 x2, .int .u64 x3] (.tup [.int .u64 (f21 x0 x1 x2 x3).1, .bool (f21 x0 x1 x2 x3).2]) := PC.now rfl rfl (w21 x0 x1 x2 x3 )

/- smithy/scalar.One -/
def f23 (x0 : Int) (x1 : Int) (x2 : Int) : Int × Bool :=
if (!(f19 x0 x1).2) then
  ((0 : Int), false)
else
  if (x0 != (17 : Int)) then
    if (x0 != (18 : Int)) then
      ((0 : Int), false)
    else
      if (!(f11 x1 x2)) then
        ((0 : Int), false)
      else
        if (x0 == (18 : Int)) then
          ((f13 x1 (IntKind.u64.wrap ((BitVec.ofInt IntKind.u64.bits (if IntKind.u64.signed then -1 else IntKind.u64.max) ^^^ BitVec.ofInt IntKind.u64.bits x2).toNat : Int))), true)
        else
          if (x1 == (5 : Int)) then
            ((f13 x1 (((x2.toNat ^^^ 9223372036854775808) : Nat) : Int)), true)
          else
            ((f13 x1 (IntKind.u64.wrap (0 - x2))), true)
  else
    if (!(f11 x1 x2)) then
      ((0 : Int), false)
    else
      if (x0 == (18 : Int)) then
        ((f13 x1 (IntKind.u64.wrap ((BitVec.ofInt IntKind.u64.bits (if IntKind.u64.signed then -1 else IntKind.u64.max) ^^^ BitVec.ofInt IntKind.u64.bits x2).toNat : Int))), true)
      else
        if (x1 == (5 : Int)) then
          ((f13 x1 (((x2.toNat ^^^ 9223372036854775808) : Nat) : Int)), true)
        else
          ((f13 x1 (IntKind.u64.wrap (0 - x2))), true)
theorem w23 (x0 : Int) (x1 : Int) (x2 : Int) (H : Heap) : Fn T 23 [.int .u8 x0, .int .u8 x1, .int .u64 x2] H (fun r h => r = .tup [.int .u64 (f23 x0 x1 x2).1, .bool (f23 x0 x1 x2).2] ∧ h = H) := by
  refine Fn.enter t23 ?_; simp only [i23, List.length_cons, List.length_nil, Nat.reduceAdd, Nat.reduceSub, List.replicate_succ, List.replicate_zero, List.cons_append, List.nil_append]
  refine Run.seq ?_
  refine Run.rgn ?_
  refine RunO.all ?_
  simp only [i23r0, SB, x_mov]
  show Run T _ _ _ _
  refine Run.seq ?_
  refine Run.seq ?_
  refine Run.rgn ?_
  refine RunO.pre 2 ?_
  simp only [i23r1, List.take_succ_cons, List.take_zero, List.drop_succ_cons, List.drop_zero, SB, x_mov]
  refine RunO.c (c19 x0 x1 _) ?_
  refine RunO.all ?_
  simp only [SB, x_ext, extV, List.getElem?_cons_zero, List.getElem?_cons_succ, x_mov]
  show Run T _ _ _ _
  refine Run.seq ?_
  refine Run.rgn ?_
  refine RunO.pre 3 ?_
  simp only [i23r2, List.take_succ_cons, List.take_zero, List.drop_succ_cons, List.drop_zero, SB, x_mov, x_un, unV, intB]
  rcases Bool.eq_false_or_eq_true (!(f19 x0 x1).2) with h0 | h0
  ·
   refine RunO.pre 10 ?_
   simp only [List.drop_zero, List.take_succ_cons, List.take_zero, List.drop_succ_cons, List.drop_zero, SB, x_bin, binV, intB, x_mov, x_pick, if_true, if_false, Bool.false_eq_true, if_true, reduceCtorEq, not_false_eq_true, exOp_gt, exOp_gf, exOp_gf2, exOp_gs, h0]
   refine RunO.cs (b := true) (by rfl) (by decide) ?_
   refine RunO.all ?_
   simp only [SB, x_pick, if_true, if_false, Bool.false_eq_true, x_un, unV, intB, exOp_gt, exOp_gf, exOp_gf2, exOp_gs, h0]
   show Run T _ _ _ _
   refine Run.ite (by rfl) (fun _ => ?_) (fun h => by first | exact absurd h (by decide) | (simp only [h0, reduceCtorEq, Bool.not_true, Bool.not_false, Bool.false_eq_true, Bool.true_eq_false] at h))
   refine Run.seq ?_
   refine Run.rgn ?_
   refine RunO.all ?_
   simp only [i23r3, SB, x_mov, h0]
   show Run T _ _ _ _
   refine Run.ret ⟨?_, rfl⟩
   first | (rw [f23, ite_t h0]; rfl) | (rw [f23, ite_t h0]; simp only [resV, ev_t, List.getD_cons_zero, List.getD_cons_succ, List.map_cons, List.map_nil, h0]; done) | (simp only [f23, if_true, Bool.false_eq_true, if_false, h0]; rfl)
  ·
   refine RunO.pre 3 ?_
   simp only [List.drop_zero, List.take_succ_cons, List.take_zero, List.drop_succ_cons, List.drop_zero, SB, x_bin, binV, intB, x_mov, if_true, reduceCtorEq, not_false_eq_true, exOp_gt, exOp_gf, exOp_gf2, exOp_gs, h0]
   rcases Bool.eq_false_or_eq_true (x0 != (17 : Int)) with h1 | h1
   ·
    refine RunO.pre 5 ?_
    simp only [List.drop_zero, List.take_succ_cons, List.take_zero, List.drop_succ_cons, List.drop_zero, SB, x_bin, binV, intB, x_mov, x_pick, if_true, if_false, Bool.false_eq_true, if_true, reduceCtorEq, not_false_eq_true, exOp_gt, exOp_gf, exOp_gf2, exOp_gs, h0, h1]
    rcases Bool.eq_false_or_eq_true (x0 != (18 : Int)) with h2 | h2
    ·
     refine RunO.pre 2 ?_
     simp only [List.drop_zero, List.take_succ_cons, List.take_zero, List.drop_succ_cons, List.drop_zero, SB, x_mov, exOp_gt, exOp_gf, exOp_gf2, exOp_gs, h0, h1, h2]
     refine RunO.cs (b := true) (by rfl) (by decide) ?_
     refine RunO.all ?_
     simp only [SB, x_pick, if_true, if_false, Bool.false_eq_true, x_un, unV, intB, exOp_gt, exOp_gf, exOp_gf2, exOp_gs, h0, h1, h2]
     show Run T _ _ _ _
     refine Run.ite (by rfl) (fun _ => ?_) (fun h => by first | exact absurd h (by decide) | (simp only [h0, h1, h2, reduceCtorEq, Bool.not_true, Bool.not_false, Bool.false_eq_true, Bool.true_eq_false] at h))
     refine Run.seq ?_
     refine Run.rgn ?_
     refine RunO.all ?_
     simp only [i23r3, SB, x_mov, h0, h1, h2]
     show Run T _ _ _ _
     refine Run.ret ⟨?_, rfl⟩
     first | (rw [f23, ite_f h0, ite_t h1, ite_t h2]; rfl) | (rw [f23, ite_f h0, ite_t h1, ite_t h2]; simp only [resV, ev_t, List.getD_cons_zero, List.getD_cons_succ, List.map_cons, List.map_nil, h0, h1, h2]; done) | (simp only [f23, if_true, Bool.false_eq_true, if_false, h0, h1, h2]; rfl)
    ·
     refine RunO.pre 2 ?_
     simp only [List.drop_zero, List.take_succ_cons, List.take_zero, List.drop_succ_cons, List.drop_zero, SB, x_mov, exOp_gt, exOp_gf, exOp_gf2, exOp_gs, h0, h1, h2]
     refine RunO.cg (by rfl) (c11 x1 x2 _) ?_
     refine RunO.all ?_
     simp only [SB, x_pick, if_true, if_false, Bool.false_eq_true, x_un, unV, intB, exOp_gt, exOp_gf, exOp_gf2, exOp_gs, h0, h1, h2]
     show Run T _ _ _ _
     refine Run.ite (by rfl) (fun h3 => ?_) (fun h3 => ?_)
     ·
      refine Run.seq ?_
      refine Run.rgn ?_
      refine RunO.all ?_
      simp only [i23r3, SB, x_mov, h0, h1, h2, h3]
      show Run T _ _ _ _
      refine Run.ret ⟨?_, rfl⟩
      first | (rw [f23, ite_f h0, ite_t h1, ite_f h2, ite_t h3]; rfl) | (rw [f23, ite_f h0, ite_t h1, ite_f h2, ite_t h3]; simp only [resV, ev_t, List.getD_cons_zero, List.getD_cons_succ, List.map_cons, List.map_nil, h0, h1, h2, h3]; done) | (simp only [f23, if_true, Bool.false_eq_true, if_false, h0, h1, h2, h3]; rfl)
     ·
      refine Run.skip ?_
      show Run T _ _ _ _
      refine Run.seq ?_
      refine Run.block ?_
      refine Run.seq ?_
      refine Run.rgn ?_
      refine RunO.all ?_
      simp only [i23r8, SB, x_bin, binV, intB, x_mov, if_true, reduceCtorEq, not_false_eq_true, h0, h1, h2, h3]
      show Run T _ _ _ _
      refine Run.ite (by rfl) (fun h4 => ?_) (fun h4 => ?_)
      ·
       refine Run.seq ?_
       refine Run.rgn ?_
       refine RunO.pre 3 ?_
       simp only [i23r9, List.take_succ_cons, List.take_zero, List.drop_succ_cons, List.drop_zero, SB, x_mov, x_un, unV, intB, h0, h1, h2, h3, h4]
       refine RunO.c (c13 x1 (IntKind.u64.wrap ((BitVec.ofInt IntKind.u64.bits (if IntKind.u64.signed then -1 else IntKind.u64.max) ^^^ BitVec.ofInt IntKind.u64.bits x2).toNat : Int)) _) ?_
       refine RunO.all ?_
       simp only [SB, x_mov, h0, h1, h2, h3, h4]
       show Run T _ _ _ _
       refine Run.ret ⟨?_, rfl⟩
       first | (rw [f23, ite_f h0, ite_t h1, ite_f h2, ite_f h3, ite_t h4]; rfl) | (rw [f23, ite_f h0, ite_t h1, ite_f h2, ite_f h3, ite_t h4]; simp only [resV, ev_t, List.getD_cons_zero, List.getD_cons_succ, List.map_cons, List.map_nil, h0, h1, h2, h3, h4]; done) | (simp only [f23, if_true, Bool.false_eq_true, if_false, h0, h1, h2, h3, h4]; rfl)
      ·
       refine Run.seq ?_
       refine Run.rgn ?_
       refine RunO.all ?_
       simp only [i23r11, SB, x_bin, binV, intB, x_mov, if_true, reduceCtorEq, not_false_eq_true, h0, h1, h2, h3, h4]
       show Run T _ _ _ _
       refine Run.ite (by rfl) (fun h5 => ?_) (fun h5 => ?_)
       ·
        refine Run.seq ?_
        refine Run.rgn ?_
        refine RunO.pre 5 ?_
        simp only [i23r12, List.take_succ_cons, List.take_zero, List.drop_succ_cons, List.drop_zero, SB, x_fneg, fnegV, x_mov, x_xc, xc_word, xc_from, xc_trunc, wordV_some, h0, h1, h2, h3, h4, h5]
        refine RunO.c (c13 x1 (((x2.toNat ^^^ 9223372036854775808) : Nat) : Int) _) ?_
        refine RunO.all ?_
        simp only [SB, x_mov, h0, h1, h2, h3, h4, h5]
        show Run T _ _ _ _
        refine Run.ret ⟨?_, rfl⟩
        first | (rw [f23, ite_f h0, ite_t h1, ite_f h2, ite_f h3, ite_f h4, ite_t h5]; rfl) | (rw [f23, ite_f h0, ite_t h1, ite_f h2, ite_f h3, ite_f h4, ite_t h5]; simp only [resV, ev_t, List.getD_cons_zero, List.getD_cons_succ, List.map_cons, List.map_nil, h0, h1, h2, h3, h4, h5]; done) | (simp only [f23, if_true, Bool.false_eq_true, if_false, h0, h1, h2, h3, h4, h5]; rfl)
       ·
        refine Run.skip ?_
        show Run T _ _ _ _
        refine Run.seq ?_
        refine Run.rgn ?_
        refine RunO.pre 3 ?_
        simp only [i23r19, List.take_succ_cons, List.take_zero, List.drop_succ_cons, List.drop_zero, SB, x_mov, x_un, unV, intB, h0, h1, h2, h3, h4, h5]
        refine RunO.c (c13 x1 (IntKind.u64.wrap (0 - x2)) _) ?_
        refine RunO.all ?_
        simp only [SB, x_mov, h0, h1, h2, h3, h4, h5]
        show Run T _ _ _ _
        refine Run.ret ⟨?_, rfl⟩
        first | (rw [f23, ite_f h0, ite_t h1, ite_f h2, ite_f h3, ite_f h4, ite_f h5]; rfl) | (rw [f23, ite_f h0, ite_t h1, ite_f h2, ite_f h3, ite_f h4, ite_f h5]; simp only [resV, ev_t, List.getD_cons_zero, List.getD_cons_succ, List.map_cons, List.map_nil, h0, h1, h2, h3, h4, h5]; done) | (simp only [f23, if_true, Bool.false_eq_true, if_false, h0, h1, h2, h3, h4, h5]; rfl)
   ·
    refine RunO.pre 7 ?_
    simp only [List.drop_zero, List.take_succ_cons, List.take_zero, List.drop_succ_cons, List.drop_zero, SB, x_bin, binV, intB, x_mov, x_pick, if_true, if_false, Bool.false_eq_true, if_true, reduceCtorEq, not_false_eq_true, exOp_gt, exOp_gf, exOp_gf2, exOp_gs, h0, h1]
    refine RunO.cg (by rfl) (c11 x1 x2 _) ?_
    refine RunO.all ?_
    simp only [SB, x_pick, if_true, if_false, Bool.false_eq_true, x_un, unV, intB, exOp_gt, exOp_gf, exOp_gf2, exOp_gs, h0, h1]
    show Run T _ _ _ _
    refine Run.ite (by rfl) (fun h6 => ?_) (fun h6 => ?_)
    ·
     refine Run.seq ?_
     refine Run.rgn ?_
     refine RunO.all ?_
     simp only [i23r3, SB, x_mov, h0, h1, h6]
     show Run T _ _ _ _
     refine Run.ret ⟨?_, rfl⟩
     first | (rw [f23, ite_f h0, ite_f h1, ite_t h6]; rfl) | (rw [f23, ite_f h0, ite_f h1, ite_t h6]; simp only [resV, ev_t, List.getD_cons_zero, List.getD_cons_succ, List.map_cons, List.map_nil, h0, h1, h6]; done) | (simp only [f23, if_true, Bool.false_eq_true, if_false, h0, h1, h6]; rfl)
    ·
     refine Run.skip ?_
     show Run T _ _ _ _
     refine Run.seq ?_
     refine Run.block ?_
     refine Run.seq ?_
     refine Run.rgn ?_
     refine RunO.all ?_
     simp only [i23r8, SB, x_bin, binV, intB, x_mov, if_true, reduceCtorEq, not_false_eq_true, h0, h1, h6]
     show Run T _ _ _ _
     refine Run.ite (by rfl) (fun h7 => ?_) (fun h7 => ?_)
     ·
      refine Run.seq ?_
      refine Run.rgn ?_
      refine RunO.pre 3 ?_
      simp only [i23r9, List.take_succ_cons, List.take_zero, List.drop_succ_cons, List.drop_zero, SB, x_mov, x_un, unV, intB, h0, h1, h6, h7]
      refine RunO.c (c13 x1 (IntKind.u64.wrap ((BitVec.ofInt IntKind.u64.bits (if IntKind.u64.signed then -1 else IntKind.u64.max) ^^^ BitVec.ofInt IntKind.u64.bits x2).toNat : Int)) _) ?_
      refine RunO.all ?_
      simp only [SB, x_mov, h0, h1, h6, h7]
      show Run T _ _ _ _
      refine Run.ret ⟨?_, rfl⟩
      first | (rw [f23, ite_f h0, ite_f h1, ite_f h6, ite_t h7]; rfl) | (rw [f23, ite_f h0, ite_f h1, ite_f h6, ite_t h7]; simp only [resV, ev_t, List.getD_cons_zero, List.getD_cons_succ, List.map_cons, List.map_nil, h0, h1, h6, h7]; done) | (simp only [f23, if_true, Bool.false_eq_true, if_false, h0, h1, h6, h7]; rfl)
     ·
      refine Run.seq ?_
      refine Run.rgn ?_
      refine RunO.all ?_
      simp only [i23r11, SB, x_bin, binV, intB, x_mov, if_true, reduceCtorEq, not_false_eq_true, h0, h1, h6, h7]
      show Run T _ _ _ _
      refine Run.ite (by rfl) (fun h8 => ?_) (fun h8 => ?_)
      ·
       refine Run.seq ?_
       refine Run.rgn ?_
       refine RunO.pre 5 ?_
       simp only [i23r12, List.take_succ_cons, List.take_zero, List.drop_succ_cons, List.drop_zero, SB, x_fneg, fnegV, x_mov, x_xc, xc_word, xc_from, xc_trunc, wordV_some, h0, h1, h6, h7, h8]
       refine RunO.c (c13 x1 (((x2.toNat ^^^ 9223372036854775808) : Nat) : Int) _) ?_
       refine RunO.all ?_
       simp only [SB, x_mov, h0, h1, h6, h7, h8]
       show Run T _ _ _ _
       refine Run.ret ⟨?_, rfl⟩
       first | (rw [f23, ite_f h0, ite_f h1, ite_f h6, ite_f h7, ite_t h8]; rfl) | (rw [f23, ite_f h0, ite_f h1, ite_f h6, ite_f h7, ite_t h8]; simp only [resV, ev_t, List.getD_cons_zero, List.getD_cons_succ, List.map_cons, List.map_nil, h0, h1, h6, h7, h8]; done) | (simp only [f23, if_true, Bool.false_eq_true, if_false, h0, h1, h6, h7, h8]; rfl)
      ·
       refine Run.skip ?_
       show Run T _ _ _ _
       refine Run.seq ?_
       refine Run.rgn ?_
       refine RunO.pre 3 ?_
       simp only [i23r19, List.take_succ_cons, List.take_zero, List.drop_succ_cons, List.drop_zero, SB, x_mov, x_un, unV, intB, h0, h1, h6, h7, h8]
       refine RunO.c (c13 x1 (IntKind.u64.wrap (0 - x2)) _) ?_
       refine RunO.all ?_
       simp only [SB, x_mov, h0, h1, h6, h7, h8]
       show Run T _ _ _ _
       refine Run.ret ⟨?_, rfl⟩
       first | (rw [f23, ite_f h0, ite_f h1, ite_f h6, ite_f h7, ite_f h8]; rfl) | (rw [f23, ite_f h0, ite_f h1, ite_f h6, ite_f h7, ite_f h8]; simp only [resV, ev_t, List.getD_cons_zero, List.getD_cons_succ, List.map_cons, List.map_nil, h0, h1, h6, h7, h8]; done) | (simp only [f23, if_true, Bool.false_eq_true, if_false, h0, h1, h6, h7, h8]; rfl)
theorem c23 (x0 : Int) (x1 : Int) (x2 : Int) (H : Heap) : PC T H 23 [.int .u8 x0, .int .u8 x1, .int .u64 x2] (.tup [.int .u64 (f23 x0 x1 x2).1, .bool (f23 x0 x1 x2).2]) := PC.now rfl rfl (w23 x0 x1 x2 )

/- smithy/scalar.Turns -/
def f34 (x0 : Int) (x1 : Int) : Bool :=
if (f38 x0) then
  if (f38 x1) then
    true
  else
    (x1 == (5 : Int))
else
  if (x0 == (5 : Int)) then
    if (f38 x1) then
      true
    else
      (x1 == (5 : Int))
  else
    false
theorem w34 (x0 : Int) (x1 : Int) (H : Heap) : Fn T 34 [.int .u8 x0, .int .u8 x1] H (fun r h => r = .bool (f34 x0 x1) ∧ h = H) := by
  refine Fn.enter t34 ?_; simp only [i34, List.length_cons, List.length_nil, Nat.reduceAdd, Nat.reduceSub, List.replicate_succ, List.replicate_zero, List.cons_append, List.nil_append]
  refine Run.seq ?_
  refine Run.rgn ?_
  refine RunO.all ?_
  simp only [i34r0, SB, x_mov]
  show Run T _ _ _ _
  refine Run.seq ?_
  refine Run.rgn ?_
  refine RunO.pre 1 ?_
  simp only [i34r1, List.take_succ_cons, List.take_zero, List.drop_succ_cons, List.drop_zero, SB, x_mov]
  refine RunO.c (c38 x0 _) ?_
  refine RunO.pre 1 ?_
  simp only [List.take_succ_cons, List.take_zero, List.drop_succ_cons, List.drop_zero, SB, x_mov]
  rcases Bool.eq_false_or_eq_true (f38 x0) with h0 | h0
  ·
   refine RunO.pre 5 ?_
   simp only [List.drop_zero, List.take_succ_cons, List.take_zero, List.drop_succ_cons, List.drop_zero, SB, x_bin, binV, intB, x_mov, x_pick, if_true, if_false, Bool.false_eq_true, if_true, reduceCtorEq, not_false_eq_true, exOp_gt, exOp_gf, exOp_gf2, exOp_gs, h0]
   refine RunO.cg (by rfl) (c38 x1 _) ?_
   refine RunO.pre 1 ?_
   simp only [List.take_succ_cons, List.take_zero, List.drop_succ_cons, List.drop_zero, SB, x_mov, exOp_gt, exOp_gf, exOp_gf2, exOp_gs, h0]
   rcases Bool.eq_false_or_eq_true (f38 x1) with h1 | h1
   ·
    refine RunO.all ?_
    simp only [List.drop_zero, SB, x_bin, binV, intB, x_mov, x_pick, if_true, if_false, Bool.false_eq_true, if_true, reduceCtorEq, not_false_eq_true, exOp_gt, exOp_gf, exOp_gf2, exOp_gs, h0, h1]
    show Run T _ _ _ _
    refine Run.ret ⟨?_, rfl⟩
    first | (rw [f34, ite_t h0, ite_t h1]; rfl) | (rw [f34, ite_t h0, ite_t h1]; simp only [resV, ev_t, List.getD_cons_zero, List.getD_cons_succ, List.map_cons, List.map_nil, h0, h1]; done) | (simp only [f34, if_true, Bool.false_eq_true, if_false, h0, h1]; rfl)
   ·
    refine RunO.all ?_
    simp only [List.drop_zero, SB, x_bin, binV, intB, x_mov, x_pick, if_true, if_false, Bool.false_eq_true, if_true, reduceCtorEq, not_false_eq_true, exOp_gt, exOp_gf, exOp_gf2, exOp_gs, h0, h1]
    show Run T _ _ _ _
    refine Run.ret ⟨?_, rfl⟩
    first | (rw [f34, ite_t h0, ite_f h1]; rfl) | (rw [f34, ite_t h0, ite_f h1]; simp only [resV, ev_t, List.getD_cons_zero, List.getD_cons_succ, List.map_cons, List.map_nil, h0, h1]; done) | (simp only [f34, if_true, Bool.false_eq_true, if_false, h0, h1]; rfl)
  ·
   refine RunO.pre 4 ?_
   simp only [List.drop_zero, List.take_succ_cons, List.take_zero, List.drop_succ_cons, List.drop_zero, SB, x_bin, binV, intB, x_mov, x_pick, if_true, if_false, Bool.false_eq_true, if_true, reduceCtorEq, not_false_eq_true, exOp_gt, exOp_gf, exOp_gf2, exOp_gs, h0]
   rcases Bool.eq_false_or_eq_true (x0 == (5 : Int)) with h2 | h2
   ·
    refine RunO.pre 1 ?_
    simp only [List.drop_zero, List.take_succ_cons, List.take_zero, List.drop_succ_cons, List.drop_zero, SB, x_mov, exOp_gt, exOp_gf, exOp_gf2, exOp_gs, h0, h2]
    refine RunO.cg (by rfl) (c38 x1 _) ?_
    refine RunO.pre 1 ?_
    simp only [List.take_succ_cons, List.take_zero, List.drop_succ_cons, List.drop_zero, SB, x_mov, exOp_gt, exOp_gf, exOp_gf2, exOp_gs, h0, h2]
    rcases Bool.eq_false_or_eq_true (f38 x1) with h3 | h3
    ·
     refine RunO.all ?_
     simp only [List.drop_zero, SB, x_bin, binV, intB, x_mov, x_pick, if_true, if_false, Bool.false_eq_true, if_true, reduceCtorEq, not_false_eq_true, exOp_gt, exOp_gf, exOp_gf2, exOp_gs, h0, h2, h3]
     show Run T _ _ _ _
     refine Run.ret ⟨?_, rfl⟩
     first | (rw [f34, ite_f h0, ite_t h2, ite_t h3]; rfl) | (rw [f34, ite_f h0, ite_t h2, ite_t h3]; simp only [resV, ev_t, List.getD_cons_zero, List.getD_cons_succ, List.map_cons, List.map_nil, h0, h2, h3]; done) | (simp only [f34, if_true, Bool.false_eq_true, if_false, h0, h2, h3]; rfl)
    ·
     refine RunO.all ?_
     simp only [List.drop_zero, SB, x_bin, binV, intB, x_mov, x_pick, if_true, if_false, Bool.false_eq_true, if_true, reduceCtorEq, not_false_eq_true, exOp_gt, exOp_gf, exOp_gf2, exOp_gs, h0, h2, h3]
     show Run T _ _ _ _
     refine Run.ret ⟨?_, rfl⟩
     first | (rw [f34, ite_f h0, ite_t h2, ite_f h3]; rfl) | (rw [f34, ite_f h0, ite_t h2, ite_f h3]; simp only [resV, ev_t, List.getD_cons_zero, List.getD_cons_succ, List.map_cons, List.map_nil, h0, h2, h3]; done) | (simp only [f34, if_true, Bool.false_eq_true, if_false, h0, h2, h3]; rfl)
   ·
    refine RunO.pre 1 ?_
    simp only [List.drop_zero, List.take_succ_cons, List.take_zero, List.drop_succ_cons, List.drop_zero, SB, x_mov, exOp_gt, exOp_gf, exOp_gf2, exOp_gs, h0, h2]
    refine RunO.cs (b := false) (by rfl) (by decide) ?_
    refine RunO.all ?_
    simp only [SB, x_bin, binV, intB, x_mov, x_pick, if_true, if_false, Bool.false_eq_true, if_true, reduceCtorEq, not_false_eq_true, exOp_gt, exOp_gf, exOp_gf2, exOp_gs, h0, h2]
    show Run T _ _ _ _
    refine Run.ret ⟨?_, rfl⟩
    first | (rw [f34, ite_f h0, ite_f h2]; rfl) | (rw [f34, ite_f h0, ite_f h2]; simp only [resV, ev_t, List.getD_cons_zero, List.getD_cons_succ, List.map_cons, List.map_nil, h0, h2]; done) | (simp only [f34, if_true, Bool.false_eq_true, if_false, h0, h2]; rfl)
theorem c34 (x0 : Int) (x1 : Int) (H : Heap) : PC T H 34 [.int .u8 x0, .int .u8 x1] (.bool (f34 x0 x1)) := PC.now rfl rfl (w34 x0 x1 )

end Go.Eng.Sca
