/- Functions of this seat, each with a plain function that gives the same answers (lines written by a program of this session's; no condition beyond those stated). -/
import Derived.Test.YtiacbfphlgbiiaaScaD
namespace Go.Eng.Sca
open Go Go.Eng
set_option linter.unusedVariables false
set_option linter.unusedSimpArgs false
set_option maxRecDepth 20000
set_option maxHeartbeats 4000000

/- math.Trunc -/
def f31 (x0 : Option Nat) : Option Nat :=
(x0.bind truncB)
theorem w31 (x0 : Option Nat) (H : Heap) : Fn T 31 [.fl x0] H (fun r h => r = .fl (f31 x0) ∧ h = H) := by
  refine Fn.enter t31 ?_; simp only [i31, List.length_cons, List.length_nil, Nat.reduceAdd, Nat.reduceSub, List.replicate_succ, List.replicate_zero, List.cons_append, List.nil_append]
  refine Run.seq ?_
  refine Run.rgn ?_
  refine RunO.all ?_
  simp only [i31r0, SB, x_mov]
  show Run T _ _ _ _
  refine Run.seq ?_
  refine Run.ite (by rfl) (fun _ => ?_) (fun h => by first | exact absurd h (by decide) | (simp only [reduceCtorEq, Bool.not_true, Bool.not_false, Bool.false_eq_true, Bool.true_eq_false] at h))
  refine Run.seq ?_
  refine Run.rgn ?_
  refine RunO.all ?_
  simp only [i31r1, SB, x_mov, x_xc, xc_word, xc_from, xc_trunc, wordV_some]
  show Run T _ _ _ _
  refine Run.ret ⟨?_, rfl⟩
  first | (rw [f31]; rfl) | (rw [f31]; simp only [resV, ev_t, List.getD_cons_zero, List.getD_cons_succ, List.map_cons, List.map_nil]; done) | (simp only [f31, if_true, Bool.false_eq_true, if_false]; rfl)
theorem c31 (x0 : Option Nat) (H : Heap) : PC T H 31 [.fl x0] (.fl (f31 x0)) := PC.now rfl rfl (w31 x0 )

/- smithy/scalar.within -/
def f44 (x0 : Int) (x1 : Option Nat) : Bool :=
if (x0 == (2 : Int)) then
  if (flO (f31 x1) (some 0) == some .gt || flO (f31 x1) (some 0) == some .eq) then
    (flO (f31 x1) (some 4643176031446892544) == some .lt || flO (f31 x1) (some 4643176031446892544) == some .eq)
  else
    false
else
  if (x0 == (3 : Int)) then
    if (flO (f31 x1) (some 13970166044103278592) == some .gt || flO (f31 x1) (some 13970166044103278592) == some .eq) then
      (flO (f31 x1) (some 4746794007244308480) == some .lt || flO (f31 x1) (some 4746794007244308480) == some .eq)
    else
      false
  else
    if (flO (f31 x1) (some 14114281232179134464) == some .gt || flO (f31 x1) (some 14114281232179134464) == some .eq) then
      (flO (f31 x1) (some 4890909195324358656) == some .lt)
    else
      false
theorem w44 (x0 : Int) (x1 : Option Nat) (H : Heap) : Fn T 44 [.int .u8 x0, .fl x1] H (fun r h => r = .bool (f44 x0 x1) ∧ h = H) := by
  refine Fn.enter t44 ?_; simp only [i44, List.length_cons, List.length_nil, Nat.reduceAdd, Nat.reduceSub, List.replicate_succ, List.replicate_zero, List.cons_append, List.nil_append]
  refine Run.seq ?_
  refine Run.rgn ?_
  refine RunO.all ?_
  simp only [i44r0, SB, x_mov]
  show Run T _ _ _ _
  refine Run.seq ?_
  refine Run.rgn ?_
  refine RunO.pre 1 ?_
  simp only [i44r1, List.take_succ_cons, List.take_zero, List.drop_succ_cons, List.drop_zero, SB, x_mov]
  refine RunO.c (c31 x1 _) ?_
  refine RunO.all ?_
  simp only [SB, x_mov]
  show Run T _ _ _ _
  refine Run.seq ?_
  refine Run.seq ?_
  refine Run.rgn ?_
  refine RunO.all ?_
  simp only [i44r2, SB, x_mov]
  show Run T _ _ _ _
  refine Run.block ?_
  refine Run.seq ?_
  refine Run.rgn ?_
  refine RunO.all ?_
  simp only [i44r3, SB, x_bin, binV, intB, x_mov, if_true, reduceCtorEq, not_false_eq_true]
  show Run T _ _ _ _
  refine Run.ite (by rfl) (fun h0 => ?_) (fun h0 => ?_)
  ·
   refine Run.seq ?_
   refine Run.rgn ?_
   refine RunO.pre 3 ?_
   simp only [i44r4, List.take_succ_cons, List.take_zero, List.drop_succ_cons, List.drop_zero, SB, x_fbin, fbinV, x_mov, h0]
   rcases Bool.eq_false_or_eq_true (flO (f31 x1) (some 0) == some .gt || flO (f31 x1) (some 0) == some .eq) with h1 | h1
   ·
    refine RunO.all ?_
    simp only [List.drop_zero, SB, x_fbin, fbinV, x_mov, x_pick, if_true, if_false, Bool.false_eq_true, exOp_gt, exOp_gf, exOp_gf2, exOp_gs, h0, h1]
    show Run T _ _ _ _
    refine Run.ret ⟨?_, rfl⟩
    first | (rw [f44, ite_t h0, ite_t h1]; rfl) | (rw [f44, ite_t h0, ite_t h1]; simp only [resV, ev_t, List.getD_cons_zero, List.getD_cons_succ, List.map_cons, List.map_nil, h0, h1]; done) | (simp only [f44, if_true, Bool.false_eq_true, if_false, h0, h1]; rfl)
   ·
    refine RunO.all ?_
    simp only [List.drop_zero, SB, x_fbin, fbinV, x_mov, x_pick, if_true, if_false, Bool.false_eq_true, exOp_gt, exOp_gf, exOp_gf2, exOp_gs, h0, h1]
    show Run T _ _ _ _
    refine Run.ret ⟨?_, rfl⟩
    first | (rw [f44, ite_t h0, ite_f h1]; rfl) | (rw [f44, ite_t h0, ite_f h1]; simp only [resV, ev_t, List.getD_cons_zero, List.getD_cons_succ, List.map_cons, List.map_nil, h0, h1]; done) | (simp only [f44, if_true, Bool.false_eq_true, if_false, h0, h1]; rfl)
  ·
   refine Run.seq ?_
   refine Run.rgn ?_
   refine RunO.all ?_
   simp only [i44r6, SB, x_bin, binV, intB, x_mov, if_true, reduceCtorEq, not_false_eq_true, h0]
   show Run T _ _ _ _
   refine Run.ite (by rfl) (fun h2 => ?_) (fun h2 => ?_)
   ·
    refine Run.seq ?_
    refine Run.rgn ?_
    refine RunO.pre 3 ?_
    simp only [i44r7, List.take_succ_cons, List.take_zero, List.drop_succ_cons, List.drop_zero, SB, x_fbin, fbinV, x_mov, h0, h2]
    rcases Bool.eq_false_or_eq_true (flO (f31 x1) (some 13970166044103278592) == some .gt || flO (f31 x1) (some 13970166044103278592) == some .eq) with h3 | h3
    ·
     refine RunO.all ?_
     simp only [List.drop_zero, SB, x_fbin, fbinV, x_mov, x_pick, if_true, if_false, Bool.false_eq_true, exOp_gt, exOp_gf, exOp_gf2, exOp_gs, h0, h2, h3]
     show Run T _ _ _ _
     refine Run.ret ⟨?_, rfl⟩
     first | (rw [f44, ite_f h0, ite_t h2, ite_t h3]; rfl) | (rw [f44, ite_f h0, ite_t h2, ite_t h3]; simp only [resV, ev_t, List.getD_cons_zero, List.getD_cons_succ, List.map_cons, List.map_nil, h0, h2, h3]; done) | (simp only [f44, if_true, Bool.false_eq_true, if_false, h0, h2, h3]; rfl)
    ·
     refine RunO.all ?_
     simp only [List.drop_zero, SB, x_fbin, fbinV, x_mov, x_pick, if_true, if_false, Bool.false_eq_true, exOp_gt, exOp_gf, exOp_gf2, exOp_gs, h0, h2, h3]
     show Run T _ _ _ _
     refine Run.ret ⟨?_, rfl⟩
     first | (rw [f44, ite_f h0, ite_t h2, ite_f h3]; rfl) | (rw [f44, ite_f h0, ite_t h2, ite_f h3]; simp only [resV, ev_t, List.getD_cons_zero, List.getD_cons_succ, List.map_cons, List.map_nil, h0, h2, h3]; done) | (simp only [f44, if_true, Bool.false_eq_true, if_false, h0, h2, h3]; rfl)
   ·
    refine Run.skip ?_
    show Run T _ _ _ _
    refine Run.seq ?_
    refine Run.rgn ?_
    refine RunO.pre 3 ?_
    simp only [i44r15, List.take_succ_cons, List.take_zero, List.drop_succ_cons, List.drop_zero, SB, x_fbin, fbinV, x_mov, h0, h2]
    rcases Bool.eq_false_or_eq_true (flO (f31 x1) (some 14114281232179134464) == some .gt || flO (f31 x1) (some 14114281232179134464) == some .eq) with h4 | h4
    ·
     refine RunO.all ?_
     simp only [List.drop_zero, SB, x_fbin, fbinV, x_mov, x_pick, if_true, if_false, Bool.false_eq_true, exOp_gt, exOp_gf, exOp_gf2, exOp_gs, h0, h2, h4]
     show Run T _ _ _ _
     refine Run.ret ⟨?_, rfl⟩
     first | (rw [f44, ite_f h0, ite_f h2, ite_t h4]; rfl) | (rw [f44, ite_f h0, ite_f h2, ite_t h4]; simp only [resV, ev_t, List.getD_cons_zero, List.getD_cons_succ, List.map_cons, List.map_nil, h0, h2, h4]; done) | (simp only [f44, if_true, Bool.false_eq_true, if_false, h0, h2, h4]; rfl)
    ·
     refine RunO.all ?_
     simp only [List.drop_zero, SB, x_fbin, fbinV, x_mov, x_pick, if_true, if_false, Bool.false_eq_true, exOp_gt, exOp_gf, exOp_gf2, exOp_gs, h0, h2, h4]
     show Run T _ _ _ _
     refine Run.ret ⟨?_, rfl⟩
     first | (rw [f44, ite_f h0, ite_f h2, ite_f h4]; rfl) | (rw [f44, ite_f h0, ite_f h2, ite_f h4]; simp only [resV, ev_t, List.getD_cons_zero, List.getD_cons_succ, List.map_cons, List.map_nil, h0, h2, h4]; done) | (simp only [f44, if_true, Bool.false_eq_true, if_false, h0, h2, h4]; rfl)
theorem c44 (x0 : Int) (x1 : Option Nat) (H : Heap) : PC T H 44 [.int .u8 x0, .fl x1] (.bool (f44 x0 x1)) := PC.now rfl rfl (w44 x0 x1 )

/- smithy/scalar.Fits -/
def f30 (x0 : Int) (x1 : Int) (x2 : Int) : Bool :=
if (!(f34 x0 x1)) then
  false
else
  if (!(f11 x1 x2)) then
    false
  else
    if (x1 != (5 : Int)) then
      true
    else
      if (x0 == (5 : Int)) then
        true
      else
        (f44 x0 (some x2.toNat))
theorem w30 (x0 : Int) (x1 : Int) (x2 : Int) (H : Heap) : Fn T 30 [.int .u8 x0, .int .u8 x1, .int .u64 x2] H (fun r h => r = .bool (f30 x0 x1 x2) ∧ h = H) := by
  refine Fn.enter t30 ?_; simp only [i30, List.length_cons, List.length_nil, Nat.reduceAdd, Nat.reduceSub, List.replicate_succ, List.replicate_zero, List.cons_append, List.nil_append]
  refine Run.seq ?_
  refine Run.rgn ?_
  refine RunO.all ?_
  simp only [i30r0, SB, x_mov]
  show Run T _ _ _ _
  refine Run.seq ?_
  refine Run.seq ?_
  refine Run.rgn ?_
  refine RunO.pre 2 ?_
  simp only [i30r1, List.take_succ_cons, List.take_zero, List.drop_succ_cons, List.drop_zero, SB, x_mov]
  refine RunO.c (c34 x0 x1 _) ?_
  refine RunO.pre 2 ?_
  simp only [List.take_succ_cons, List.take_zero, List.drop_succ_cons, List.drop_zero, SB, x_mov, x_un, unV, intB]
  rcases Bool.eq_false_or_eq_true (!(f34 x0 x1)) with h0 | h0
  ·
   refine RunO.pre 2 ?_
   simp only [List.drop_zero, List.take_succ_cons, List.take_zero, List.drop_succ_cons, List.drop_zero, SB, x_mov, exOp_gt, exOp_gf, exOp_gf2, exOp_gs, h0]
   refine RunO.cs (b := true) (by rfl) (by decide) ?_
   refine RunO.all ?_
   simp only [SB, x_pick, if_true, if_false, Bool.false_eq_true, x_un, unV, intB, exOp_gt, exOp_gf, exOp_gf2, exOp_gs, h0]
   show Run T _ _ _ _
   refine Run.ite (by rfl) (fun _ => ?_) (fun h => by first | exact absurd h (by decide) | (simp only [h0, reduceCtorEq, Bool.not_true, Bool.not_false, Bool.false_eq_true, Bool.true_eq_false] at h))
   refine Run.seq ?_
   refine Run.rgn ?_
   refine RunO.all ?_
   simp only [i30r2, SB, x_mov, h0]
   show Run T _ _ _ _
   refine Run.ret ⟨?_, rfl⟩
   first | (rw [f30, ite_t h0]; rfl) | (rw [f30, ite_t h0]; simp only [resV, ev_t, List.getD_cons_zero, List.getD_cons_succ, List.map_cons, List.map_nil, h0]; done) | (simp only [f30, if_true, Bool.false_eq_true, if_false, h0]; rfl)
  ·
   refine RunO.pre 2 ?_
   simp only [List.drop_zero, List.take_succ_cons, List.take_zero, List.drop_succ_cons, List.drop_zero, SB, x_mov, exOp_gt, exOp_gf, exOp_gf2, exOp_gs, h0]
   refine RunO.cg (by rfl) (c11 x1 x2 _) ?_
   refine RunO.all ?_
   simp only [SB, x_pick, if_true, if_false, Bool.false_eq_true, x_un, unV, intB, exOp_gt, exOp_gf, exOp_gf2, exOp_gs, h0]
   show Run T _ _ _ _
   refine Run.ite (by rfl) (fun h1 => ?_) (fun h1 => ?_)
   ·
    refine Run.seq ?_
    refine Run.rgn ?_
    refine RunO.all ?_
    simp only [i30r2, SB, x_mov, h0, h1]
    show Run T _ _ _ _
    refine Run.ret ⟨?_, rfl⟩
    first | (rw [f30, ite_f h0, ite_t h1]; rfl) | (rw [f30, ite_f h0, ite_t h1]; simp only [resV, ev_t, List.getD_cons_zero, List.getD_cons_succ, List.map_cons, List.map_nil, h0, h1]; done) | (simp only [f30, if_true, Bool.false_eq_true, if_false, h0, h1]; rfl)
   ·
    refine Run.skip ?_
    show Run T _ _ _ _
    refine Run.seq ?_
    refine Run.rgn ?_
    refine RunO.pre 3 ?_
    simp only [i30r6, List.take_succ_cons, List.take_zero, List.drop_succ_cons, List.drop_zero, SB, x_bin, binV, intB, x_mov, if_true, reduceCtorEq, not_false_eq_true, h0, h1]
    rcases Bool.eq_false_or_eq_true (x1 != (5 : Int)) with h2 | h2
    ·
     refine RunO.pre 7 ?_
     simp only [List.drop_zero, List.take_succ_cons, List.take_zero, List.drop_succ_cons, List.drop_zero, SB, x_bin, binV, intB, x_mov, x_pick, if_true, if_false, Bool.false_eq_true, x_xc, xc_word, xc_from, xc_trunc, wordV_some, if_true, reduceCtorEq, not_false_eq_true, exOp_gt, exOp_gf, exOp_gf2, exOp_gs, h0, h1, h2]
     refine RunO.cs (b := true) (by rfl) (by decide) ?_
     refine RunO.all ?_
     simp only [SB, x_mov, x_pick, if_true, if_false, Bool.false_eq_true, h0, h1, h2]
     show Run T _ _ _ _
     refine Run.ret ⟨?_, rfl⟩
     first | (rw [f30, ite_f h0, ite_f h1, ite_t h2]; rfl) | (rw [f30, ite_f h0, ite_f h1, ite_t h2]; simp only [resV, ev_t, List.getD_cons_zero, List.getD_cons_succ, List.map_cons, List.map_nil, h0, h1, h2]; done) | (simp only [f30, if_true, Bool.false_eq_true, if_false, h0, h1, h2]; rfl)
    ·
     refine RunO.pre 4 ?_
     simp only [List.drop_zero, List.take_succ_cons, List.take_zero, List.drop_succ_cons, List.drop_zero, SB, x_bin, binV, intB, x_mov, x_pick, if_true, if_false, Bool.false_eq_true, if_true, reduceCtorEq, not_false_eq_true, exOp_gt, exOp_gf, exOp_gf2, exOp_gs, h0, h1, h2]
     rcases Bool.eq_false_or_eq_true (x0 == (5 : Int)) with h3 | h3
     ·
      refine RunO.pre 3 ?_
      simp only [List.drop_zero, List.take_succ_cons, List.take_zero, List.drop_succ_cons, List.drop_zero, SB, x_mov, x_xc, xc_word, xc_from, xc_trunc, wordV_some, exOp_gt, exOp_gf, exOp_gf2, exOp_gs, h0, h1, h2, h3]
      refine RunO.cs (b := true) (by rfl) (by decide) ?_
      refine RunO.all ?_
      simp only [SB, x_mov, x_pick, if_true, if_false, Bool.false_eq_true, h0, h1, h2, h3]
      show Run T _ _ _ _
      refine Run.ret ⟨?_, rfl⟩
      first | (rw [f30, ite_f h0, ite_f h1, ite_f h2, ite_t h3]; rfl) | (rw [f30, ite_f h0, ite_f h1, ite_f h2, ite_t h3]; simp only [resV, ev_t, List.getD_cons_zero, List.getD_cons_succ, List.map_cons, List.map_nil, h0, h1, h2, h3]; done) | (simp only [f30, if_true, Bool.false_eq_true, if_false, h0, h1, h2, h3]; rfl)
     ·
      refine RunO.pre 3 ?_
      simp only [List.drop_zero, List.take_succ_cons, List.take_zero, List.drop_succ_cons, List.drop_zero, SB, x_mov, x_xc, xc_word, xc_from, xc_trunc, wordV_some, exOp_gt, exOp_gf, exOp_gf2, exOp_gs, h0, h1, h2, h3]
      refine RunO.cg (by rfl) (c44 x0 (some x2.toNat) _) ?_
      refine RunO.all ?_
      simp only [SB, x_mov, x_pick, if_true, if_false, Bool.false_eq_true, h0, h1, h2, h3]
      show Run T _ _ _ _
      refine Run.ret ⟨?_, rfl⟩
      first | (rw [f30, ite_f h0, ite_f h1, ite_f h2, ite_f h3]; rfl) | (rw [f30, ite_f h0, ite_f h1, ite_f h2, ite_f h3]; simp only [resV, ev_t, List.getD_cons_zero, List.getD_cons_succ, List.map_cons, List.map_nil, h0, h1, h2, h3]; done) | (simp only [f30, if_true, Bool.false_eq_true, if_false, h0, h1, h2, h3]; rfl)
theorem c30 (x0 : Int) (x1 : Int) (x2 : Int) (H : Heap) : PC T H 30 [.int .u8 x0, .int .u8 x1, .int .u64 x2] (.bool (f30 x0 x1 x2)) := PC.now rfl rfl (w30 x0 x1 x2 )

/-- a float's whole part -/
def f2iI (x : Option Nat) : Int := match x with | some b => ((Ieee.double.read b).toInt .zero).getD 0 | none => 0

end Go.Eng.Sca
