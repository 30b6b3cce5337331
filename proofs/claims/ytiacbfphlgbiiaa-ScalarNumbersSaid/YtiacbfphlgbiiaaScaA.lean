/- Functions of this seat, each with a plain function that gives the same answers (lines written by a program of this session's; no condition beyond those stated). -/
import Derived.Test.YtiacbfphlgbiiaaScaT
namespace Go.Eng.Sca
open Go Go.Eng
set_option linter.unusedVariables false
set_option linter.unusedSimpArgs false
set_option maxRecDepth 20000
set_option maxHeartbeats 4000000

/- smithy/scalar.Cut -/
def f13 (x0 : Int) (x1 : Int) : Int :=
if (x0 == (1 : Int)) then
  (IntKind.u64.wrap ((BitVec.ofInt IntKind.u64.bits x1 &&& BitVec.ofInt IntKind.u64.bits (1 : Int)).toNat : Int))
else
  if (x0 == (2 : Int)) then
    (IntKind.u64.wrap (IntKind.u8.wrap x1))
  else
    if (x0 == (3 : Int)) then
      (IntKind.u64.wrap (IntKind.i64.wrap (IntKind.i32.wrap x1)))
    else
      if (x0 == (5 : Int)) then
        if (flO (some x1.toNat) (some x1.toNat) != some .eq) then
          (9221120237041090560 : Int)
        else
          x1
      else
        if (x0 == (4 : Int)) then
          x1
        else
          (0 : Int)
theorem w13 (x0 : Int) (x1 : Int) (H : Heap) : Fn T 13 [.int .u8 x0, .int .u64 x1] H (fun r h => r = .int .u64 (f13 x0 x1) ∧ h = H) := by
  refine Fn.enter t13 ?_; simp only [i13, List.length_cons, List.length_nil, Nat.reduceAdd, Nat.reduceSub, List.replicate_succ, List.replicate_zero, List.cons_append, List.nil_append]
  refine Run.seq ?_
  refine Run.rgn ?_
  refine RunO.all ?_
  simp only [i13r0, SB, x_mov]
  show Run T _ _ _ _
  refine Run.seq ?_
  refine Run.seq ?_
  refine Run.rgn ?_
  refine RunO.all ?_
  simp only [i13r1, SB, x_mov]
  show Run T _ _ _ _
  refine Run.block ?_
  refine Run.seq ?_
  refine Run.block ?_
  refine Run.seq ?_
  refine Run.block ?_
  refine Run.seq ?_
  refine Run.block ?_
  refine Run.seq ?_
  refine Run.block ?_
  refine Run.seq ?_
  refine Run.block ?_
  refine Run.seq ?_
  refine Run.seq ?_
  refine Run.seq ?_
  refine Run.rgn ?_
  refine RunO.all ?_
  simp only [i13r2, SB, x_bin, binV, intB, x_mov, if_true, reduceCtorEq, not_false_eq_true]
  show Run T _ _ _ _
  refine Run.ite (by rfl) (fun h0 => ?_) (fun h0 => ?_)
  ·
   refine Run.exit ?_
   show Run T _ _ _ _
   refine Run.seq ?_
   refine Run.seq ?_
   refine Run.rgn ?_
   refine RunO.all ?_
   simp only [i13r23, SB, x_bin, binV, intB, x_mov, if_true, reduceCtorEq, not_false_eq_true, h0]
   show Run T _ _ _ _
   refine Run.ret ⟨?_, rfl⟩
   first | (rw [f13, ite_t h0]; rfl) | (rw [f13, ite_t h0]; simp only [resV, ev_t, List.getD_cons_zero, List.getD_cons_succ, List.map_cons, List.map_nil, h0]; done) | (simp only [f13, if_true, Bool.false_eq_true, if_false, h0]; rfl)
  ·
   refine Run.skip ?_
   show Run T _ _ _ _
   refine Run.seq ?_
   refine Run.seq ?_
   refine Run.rgn ?_
   refine RunO.all ?_
   simp only [i13r5, SB, x_bin, binV, intB, x_mov, if_true, reduceCtorEq, not_false_eq_true, h0]
   show Run T _ _ _ _
   refine Run.ite (by rfl) (fun h1 => ?_) (fun h1 => ?_)
   ·
    refine Run.exit ?_
    show Run T _ _ _ _
    refine Run.seq ?_
    refine Run.seq ?_
    refine Run.rgn ?_
    refine RunO.all ?_
    simp only [i13r28, SB, x_cvt, x_mov, h0, h1]
    show Run T _ _ _ _
    refine Run.ret ⟨?_, rfl⟩
    first | (rw [f13, ite_f h0, ite_t h1]; rfl) | (rw [f13, ite_f h0, ite_t h1]; simp only [resV, ev_t, List.getD_cons_zero, List.getD_cons_succ, List.map_cons, List.map_nil, h0, h1]; done) | (simp only [f13, if_true, Bool.false_eq_true, if_false, h0, h1]; rfl)
   ·
    refine Run.skip ?_
    show Run T _ _ _ _
    refine Run.seq ?_
    refine Run.seq ?_
    refine Run.rgn ?_
    refine RunO.all ?_
    simp only [i13r8, SB, x_bin, binV, intB, x_mov, if_true, reduceCtorEq, not_false_eq_true, h0, h1]
    show Run T _ _ _ _
    refine Run.ite (by rfl) (fun h2 => ?_) (fun h2 => ?_)
    ·
     refine Run.exit ?_
     show Run T _ _ _ _
     refine Run.seq ?_
     refine Run.seq ?_
     refine Run.rgn ?_
     refine RunO.all ?_
     simp only [i13r33, SB, x_cvt, x_mov, h0, h1, h2]
     show Run T _ _ _ _
     refine Run.ret ⟨?_, rfl⟩
     first | (rw [f13, ite_f h0, ite_f h1, ite_t h2]; rfl) | (rw [f13, ite_f h0, ite_f h1, ite_t h2]; simp only [resV, ev_t, List.getD_cons_zero, List.getD_cons_succ, List.map_cons, List.map_nil, h0, h1, h2]; done) | (simp only [f13, if_true, Bool.false_eq_true, if_false, h0, h1, h2]; rfl)
    ·
     refine Run.skip ?_
     show Run T _ _ _ _
     refine Run.seq ?_
     refine Run.seq ?_
     refine Run.rgn ?_
     refine RunO.all ?_
     simp only [i13r11, SB, x_bin, binV, intB, x_mov, if_true, reduceCtorEq, not_false_eq_true, h0, h1, h2]
     show Run T _ _ _ _
     refine Run.ite (by rfl) (fun h3 => ?_) (fun h3 => ?_)
     ·
      refine Run.exit ?_
      show Run T _ _ _ _
      refine Run.seq ?_
      refine Run.rgn ?_
      refine RunO.all ?_
      simp only [i13r38, SB, x_mov, x_xc, xc_word, xc_from, xc_trunc, wordV_some, h0, h1, h2, h3]
      show Run T _ _ _ _
      refine Run.seq ?_
      refine Run.rgn ?_
      refine RunO.all ?_
      simp only [i13r39, SB, x_fbin, fbinV, x_mov, h0, h1, h2, h3]
      show Run T _ _ _ _
      refine Run.ite (by rfl) (fun h4 => ?_) (fun h4 => ?_)
      ·
       refine Run.seq ?_
       refine Run.rgn ?_
       refine RunO.all ?_
       simp only [i13r40, SB, x_mov, h0, h1, h2, h3, h4]
       show Run T _ _ _ _
       refine Run.ret ⟨?_, rfl⟩
       first | (rw [f13, ite_f h0, ite_f h1, ite_f h2, ite_t h3, ite_t h4]; rfl) | (rw [f13, ite_f h0, ite_f h1, ite_f h2, ite_t h3, ite_t h4]; simp only [resV, ev_t, List.getD_cons_zero, List.getD_cons_succ, List.map_cons, List.map_nil, h0, h1, h2, h3, h4]; done) | (simp only [f13, if_true, Bool.false_eq_true, if_false, h0, h1, h2, h3, h4]; rfl)
      ·
       refine Run.skip ?_
       show Run T _ _ _ _
       refine Run.seq ?_
       refine Run.seq ?_
       refine Run.rgn ?_
       refine RunO.all ?_
       simp only [i13r47, SB, x_mov, h0, h1, h2, h3, h4]
       show Run T _ _ _ _
       refine Run.ret ⟨?_, rfl⟩
       first | (rw [f13, ite_f h0, ite_f h1, ite_f h2, ite_t h3, ite_f h4]; rfl) | (rw [f13, ite_f h0, ite_f h1, ite_f h2, ite_t h3, ite_f h4]; simp only [resV, ev_t, List.getD_cons_zero, List.getD_cons_succ, List.map_cons, List.map_nil, h0, h1, h2, h3, h4]; done) | (simp only [f13, if_true, Bool.false_eq_true, if_false, h0, h1, h2, h3, h4]; rfl)
     ·
      refine Run.skip ?_
      show Run T _ _ _ _
      refine Run.seq ?_
      refine Run.rgn ?_
      refine RunO.all ?_
      simp only [i13r14, SB, x_bin, binV, intB, x_mov, if_true, reduceCtorEq, not_false_eq_true, h0, h1, h2, h3]
      show Run T _ _ _ _
      refine Run.ite (by rfl) (fun h5 => ?_) (fun h5 => ?_)
      ·
       refine Run.exit ?_
       show Run T _ _ _ _
       refine Run.seq ?_
       refine Run.seq ?_
       refine Run.rgn ?_
       refine RunO.all ?_
       simp only [i13r47, SB, x_mov, h0, h1, h2, h3, h5]
       show Run T _ _ _ _
       refine Run.ret ⟨?_, rfl⟩
       first | (rw [f13, ite_f h0, ite_f h1, ite_f h2, ite_f h3, ite_t h5]; rfl) | (rw [f13, ite_f h0, ite_f h1, ite_f h2, ite_f h3, ite_t h5]; simp only [resV, ev_t, List.getD_cons_zero, List.getD_cons_succ, List.map_cons, List.map_nil, h0, h1, h2, h3, h5]; done) | (simp only [f13, if_true, Bool.false_eq_true, if_false, h0, h1, h2, h3, h5]; rfl)
      ·
       refine Run.skip ?_
       show Run T _ _ _ _
       refine Run.exit ?_
       show Run T _ _ _ _
       refine Run.seq ?_
       refine Run.rgn ?_
       refine RunO.all ?_
       simp only [i13r53, SB, x_mov, h0, h1, h2, h3, h5]
       show Run T _ _ _ _
       refine Run.ret ⟨?_, rfl⟩
       first | (rw [f13, ite_f h0, ite_f h1, ite_f h2, ite_f h3, ite_f h5]; rfl) | (rw [f13, ite_f h0, ite_f h1, ite_f h2, ite_f h3, ite_f h5]; simp only [resV, ev_t, List.getD_cons_zero, List.getD_cons_succ, List.map_cons, List.map_nil, h0, h1, h2, h3, h5]; done) | (simp only [f13, if_true, Bool.false_eq_true, if_false, h0, h1, h2, h3, h5]; rfl)
theorem c13 (x0 : Int) (x1 : Int) (H : Heap) : PC T H 13 [.int .u8 x0, .int .u64 x1] (.int .u64 (f13 x0 x1)) := PC.now rfl rfl (w13 x0 x1 )

/-- the bits of a float that may be none that is known, cut -/
def canon13 (x : Option Nat) : Int := match x with | some b => f13 5 (b : Int) | none => 9221120237041090560
theorem c13w (x : Option Nat) (H : Heap) : PC T H 13 [.int .u8 (5 : Int), wordV x] (.int .u64 (canon13 x)) := by
  cases x with
  | some b => exact c13 5 (b : Int) H
  | none => exact PC.of rfl ⟨60, .int .u64 9221120237041090560, [], by kernel_rfl, rfl⟩

/- smithy/scalar.Right -/
def f11 (x0 : Int) (x1 : Int) : Bool :=
if (decide (x0 ≥ (1 : Int))) then
  if (decide (x0 ≤ (5 : Int))) then
    ((f13 x0 x1) == x1)
  else
    false
else
  false
theorem w11 (x0 : Int) (x1 : Int) (H : Heap) : Fn T 11 [.int .u8 x0, .int .u64 x1] H (fun r h => r = .bool (f11 x0 x1) ∧ h = H) := by
  refine Fn.enter t11 ?_; simp only [i11, List.length_cons, List.length_nil, Nat.reduceAdd, Nat.reduceSub, List.replicate_succ, List.replicate_zero, List.cons_append, List.nil_append]
  refine Run.seq ?_
  refine Run.rgn ?_
  refine RunO.all ?_
  simp only [i11r0, SB, x_mov]
  show Run T _ _ _ _
  refine Run.seq ?_
  refine Run.rgn ?_
  refine RunO.pre 3 ?_
  simp only [i11r1, List.take_succ_cons, List.take_zero, List.drop_succ_cons, List.drop_zero, SB, x_bin, binV, intB, x_mov, if_true, reduceCtorEq, not_false_eq_true]
  rcases Bool.eq_false_or_eq_true (decide (x0 ≥ (1 : Int))) with h0 | h0
  ·
   refine RunO.pre 4 ?_
   simp only [List.drop_zero, List.take_succ_cons, List.take_zero, List.drop_succ_cons, List.drop_zero, SB, x_bin, binV, intB, x_mov, x_pick, if_true, if_false, Bool.false_eq_true, if_true, reduceCtorEq, not_false_eq_true, exOp_gt, exOp_gf, exOp_gf2, exOp_gs, h0]
   rcases Bool.eq_false_or_eq_true (decide (x0 ≤ (5 : Int))) with h1 | h1
   ·
    refine RunO.pre 2 ?_
    simp only [List.drop_zero, List.take_succ_cons, List.take_zero, List.drop_succ_cons, List.drop_zero, SB, x_mov, exOp_gt, exOp_gf, exOp_gf2, exOp_gs, h0, h1]
    refine RunO.cg (by rfl) (c13 x0 x1 _) ?_
    refine RunO.all ?_
    simp only [SB, x_bin, binV, intB, x_mov, x_pick, if_true, if_false, Bool.false_eq_true, if_true, reduceCtorEq, not_false_eq_true, exOp_gt, exOp_gf, exOp_gf2, exOp_gs, h0, h1]
    show Run T _ _ _ _
    refine Run.ret ⟨?_, rfl⟩
    first | (rw [f11, ite_t h0, ite_t h1]; rfl) | (rw [f11, ite_t h0, ite_t h1]; simp only [resV, ev_t, List.getD_cons_zero, List.getD_cons_succ, List.map_cons, List.map_nil, h0, h1]; done) | (simp only [f11, if_true, Bool.false_eq_true, if_false, h0, h1]; rfl)
   ·
    refine RunO.pre 2 ?_
    simp only [List.drop_zero, List.take_succ_cons, List.take_zero, List.drop_succ_cons, List.drop_zero, SB, x_mov, exOp_gt, exOp_gf, exOp_gf2, exOp_gs, h0, h1]
    refine RunO.cs (b := false) (by rfl) (by decide) ?_
    refine RunO.all ?_
    simp only [SB, x_bin, binV, intB, x_mov, x_pick, if_true, if_false, Bool.false_eq_true, if_true, reduceCtorEq, not_false_eq_true, exOp_gt, exOp_gf, exOp_gf2, exOp_gs, h0, h1]
    show Run T _ _ _ _
    refine Run.ret ⟨?_, rfl⟩
    first | (rw [f11, ite_t h0, ite_f h1]; rfl) | (rw [f11, ite_t h0, ite_f h1]; simp only [resV, ev_t, List.getD_cons_zero, List.getD_cons_succ, List.map_cons, List.map_nil, h0, h1]; done) | (simp only [f11, if_true, Bool.false_eq_true, if_false, h0, h1]; rfl)
  ·
   refine RunO.pre 6 ?_
   simp only [List.drop_zero, List.take_succ_cons, List.take_zero, List.drop_succ_cons, List.drop_zero, SB, x_bin, binV, intB, x_mov, x_pick, if_true, if_false, Bool.false_eq_true, if_true, reduceCtorEq, not_false_eq_true, exOp_gt, exOp_gf, exOp_gf2, exOp_gs, h0]
   refine RunO.cs (b := false) (by rfl) (by decide) ?_
   refine RunO.all ?_
   simp only [SB, x_bin, binV, intB, x_mov, x_pick, if_true, if_false, Bool.false_eq_true, if_true, reduceCtorEq, not_false_eq_true, exOp_gt, exOp_gf, exOp_gf2, exOp_gs, h0]
   show Run T _ _ _ _
   refine Run.ret ⟨?_, rfl⟩
   first | (rw [f11, ite_f h0]; rfl) | (rw [f11, ite_f h0]; simp only [resV, ev_t, List.getD_cons_zero, List.getD_cons_succ, List.map_cons, List.map_nil, h0]; done) | (simp only [f11, if_true, Bool.false_eq_true, if_false, h0]; rfl)
theorem c11 (x0 : Int) (x1 : Int) (H : Heap) : PC T H 11 [.int .u8 x0, .int .u64 x1] (.bool (f11 x0 x1)) := PC.now rfl rfl (w11 x0 x1 )

/- smithy/scalar.whole -/
def f38 (x0 : Int) : Bool :=
if (x0 == (2 : Int)) then
  true
else
  if (x0 == (3 : Int)) then
    true
  else
    (x0 == (4 : Int))
theorem w38 (x0 : Int) (H : Heap) : Fn T 38 [.int .u8 x0] H (fun r h => r = .bool (f38 x0) ∧ h = H) := by
  refine Fn.enter t38 ?_; simp only [i38, List.length_cons, List.length_nil, Nat.reduceAdd, Nat.reduceSub, List.replicate_succ, List.replicate_zero, List.cons_append, List.nil_append]
  refine Run.seq ?_
  refine Run.rgn ?_
  refine RunO.all ?_
  simp only [i38r0, SB, x_mov]
  show Run T _ _ _ _
  refine Run.seq ?_
  refine Run.rgn ?_
  refine RunO.pre 3 ?_
  simp only [i38r1, List.take_succ_cons, List.take_zero, List.drop_succ_cons, List.drop_zero, SB, x_bin, binV, intB, x_mov, if_true, reduceCtorEq, not_false_eq_true]
  rcases Bool.eq_false_or_eq_true (x0 == (2 : Int)) with h0 | h0
  ·
   refine RunO.all ?_
   simp only [List.drop_zero, SB, x_bin, binV, intB, x_mov, x_pick, if_true, if_false, Bool.false_eq_true, if_true, reduceCtorEq, not_false_eq_true, exOp_gt, exOp_gf, exOp_gf2, exOp_gs, h0]
   show Run T _ _ _ _
   refine Run.ret ⟨?_, rfl⟩
   first | (rw [f38, ite_t h0]; rfl) | (rw [f38, ite_t h0]; simp only [resV, ev_t, List.getD_cons_zero, List.getD_cons_succ, List.map_cons, List.map_nil, h0]; done) | (simp only [f38, if_true, Bool.false_eq_true, if_false, h0]; rfl)
  ·
   refine RunO.pre 4 ?_
   simp only [List.drop_zero, List.take_succ_cons, List.take_zero, List.drop_succ_cons, List.drop_zero, SB, x_bin, binV, intB, x_mov, x_pick, if_true, if_false, Bool.false_eq_true, if_true, reduceCtorEq, not_false_eq_true, exOp_gt, exOp_gf, exOp_gf2, exOp_gs, h0]
   rcases Bool.eq_false_or_eq_true (x0 == (3 : Int)) with h1 | h1
   ·
    refine RunO.all ?_
    simp only [List.drop_zero, SB, x_bin, binV, intB, x_mov, x_pick, if_true, if_false, Bool.false_eq_true, if_true, reduceCtorEq, not_false_eq_true, exOp_gt, exOp_gf, exOp_gf2, exOp_gs, h0, h1]
    show Run T _ _ _ _
    refine Run.ret ⟨?_, rfl⟩
    first | (rw [f38, ite_f h0, ite_t h1]; rfl) | (rw [f38, ite_f h0, ite_t h1]; simp only [resV, ev_t, List.getD_cons_zero, List.getD_cons_succ, List.map_cons, List.map_nil, h0, h1]; done) | (simp only [f38, if_true, Bool.false_eq_true, if_false, h0, h1]; rfl)
   ·
    refine RunO.all ?_
    simp only [List.drop_zero, SB, x_bin, binV, intB, x_mov, x_pick, if_true, if_false, Bool.false_eq_true, if_true, reduceCtorEq, not_false_eq_true, exOp_gt, exOp_gf, exOp_gf2, exOp_gs, h0, h1]
    show Run T _ _ _ _
    refine Run.ret ⟨?_, rfl⟩
    first | (rw [f38, ite_f h0, ite_f h1]; rfl) | (rw [f38, ite_f h0, ite_f h1]; simp only [resV, ev_t, List.getD_cons_zero, List.getD_cons_succ, List.map_cons, List.map_nil, h0, h1]; done) | (simp only [f38, if_true, Bool.false_eq_true, if_false, h0, h1]; rfl)
theorem c38 (x0 : Int) (H : Heap) : PC T H 38 [.int .u8 x0] (.bool (f38 x0)) := PC.now rfl rfl (w38 x0 )

/- smithy/scalar.Of -/
def f19 (x0 : Int) (x1 : Int) : Int × Bool :=
if (decide (x1 < (1 : Int))) then
  ((0 : Int), false)
else
  if (decide (x1 > (5 : Int))) then
    ((0 : Int), false)
  else
    if (x0 == (1 : Int)) then
      if (!(x1 != (1 : Int))) then
        ((0 : Int), false)
      else
        (x1, true)
    else
      if (x0 == (2 : Int)) then
        if (!(x1 != (1 : Int))) then
          ((0 : Int), false)
        else
          (x1, true)
      else
        if (x0 == (3 : Int)) then
          if (!(x1 != (1 : Int))) then
            ((0 : Int), false)
          else
            (x1, true)
        else
          if (x0 == (4 : Int)) then
            if (!(x1 != (1 : Int))) then
              ((0 : Int), false)
            else
              (x1, true)
          else
            if (x0 == (17 : Int)) then
              if (!(x1 != (1 : Int))) then
                ((0 : Int), false)
              else
                (x1, true)
            else
              if (x0 == (5 : Int)) then
                if (!(f38 x1)) then
                  ((0 : Int), false)
                else
                  (x1, true)
              else
                if (x0 == (9 : Int)) then
                  if (!(f38 x1)) then
                    ((0 : Int), false)
                  else
                    (x1, true)
                else
                  if (x0 == (10 : Int)) then
                    if (!(f38 x1)) then
                      ((0 : Int), false)
                    else
                      (x1, true)
                  else
                    if (x0 == (6 : Int)) then
                      if (!(x1 != (5 : Int))) then
                        ((0 : Int), false)
                      else
                        (x1, true)
                    else
                      if (x0 == (7 : Int)) then
                        if (!(x1 != (5 : Int))) then
                          ((0 : Int), false)
                        else
                          (x1, true)
                      else
                        if (x0 == (8 : Int)) then
                          if (!(x1 != (5 : Int))) then
                            ((0 : Int), false)
                          else
                            (x1, true)
                        else
                          if (x0 == (18 : Int)) then
                            if (!(x1 != (5 : Int))) then
                              ((0 : Int), false)
                            else
                              (x1, true)
                          else
                            if (x0 == (13 : Int)) then
                              if (x1 == (1 : Int)) then
                                ((0 : Int), false)
                              else
                                ((1 : Int), true)
                            else
                              if (x0 == (14 : Int)) then
                                if (x1 == (1 : Int)) then
                                  ((0 : Int), false)
                                else
                                  ((1 : Int), true)
                              else
                                if (x0 == (15 : Int)) then
                                  if (x1 == (1 : Int)) then
                                    ((0 : Int), false)
                                  else
                                    ((1 : Int), true)
                                else
                                  if (x0 == (16 : Int)) then
                                    if (x1 == (1 : Int)) then
                                      ((0 : Int), false)
                                    else
                                      ((1 : Int), true)
                                  else
                                    if (x0 == (11 : Int)) then
                                      ((1 : Int), true)
                                    else
                                      if (x0 == (12 : Int)) then
                                        ((1 : Int), true)
                                      else
                                        ((0 : Int), false)
theorem w19 (x0 : Int) (x1 : Int) (H : Heap) : Fn T 19 [.int .u8 x0, .int .u8 x1] H (fun r h => r = .tup [.int .u8 (f19 x0 x1).1, .bool (f19 x0 x1).2] ∧ h = H) := by
  refine Fn.enter t19 ?_; simp only [i19, List.length_cons, List.length_nil, Nat.reduceAdd, Nat.reduceSub, List.replicate_succ, List.replicate_zero, List.cons_append, List.nil_append]
  refine Run.seq ?_
  refine Run.rgn ?_
  refine RunO.all ?_
  simp only [i19r0, SB, x_mov]
  show Run T _ _ _ _
  refine Run.seq ?_
  refine Run.seq ?_
  refine Run.rgn ?_
  refine RunO.pre 3 ?_
  simp only [i19r1, List.take_succ_cons, List.take_zero, List.drop_succ_cons, List.drop_zero, SB, x_bin, binV, intB, x_mov, if_true, reduceCtorEq, not_false_eq_true]
  rcases Bool.eq_false_or_eq_true (decide (x1 < (1 : Int))) with h0 | h0
  ·
   refine RunO.all ?_
   simp only [List.drop_zero, SB, x_bin, binV, intB, x_mov, x_pick, if_true, if_false, Bool.false_eq_true, if_true, reduceCtorEq, not_false_eq_true, exOp_gt, exOp_gf, exOp_gf2, exOp_gs, h0]
   show Run T _ _ _ _
   refine Run.ite (by rfl) (fun _ => ?_) (fun h => by first | exact absurd h (by decide) | (simp only [h0, reduceCtorEq, Bool.not_true, Bool.not_false, Bool.false_eq_true, Bool.true_eq_false] at h))
   refine Run.seq ?_
   refine Run.rgn ?_
   refine RunO.all ?_
   simp only [i19r2, SB, x_mov, h0]
   show Run T _ _ _ _
   refine Run.ret ⟨?_, rfl⟩
   first | (rw [f19, ite_t h0]; rfl) | (rw [f19, ite_t h0]; simp only [resV, ev_t, List.getD_cons_zero, List.getD_cons_succ, List.map_cons, List.map_nil, h0]; done) | (simp only [f19, if_true, Bool.false_eq_true, if_false, h0]; rfl)
  ·
   refine RunO.all ?_
   simp only [List.drop_zero, SB, x_bin, binV, intB, x_mov, x_pick, if_true, if_false, Bool.false_eq_true, if_true, reduceCtorEq, not_false_eq_true, exOp_gt, exOp_gf, exOp_gf2, exOp_gs, h0]
   show Run T _ _ _ _
   refine Run.ite (by rfl) (fun h1 => ?_) (fun h1 => ?_)
   ·
    refine Run.seq ?_
    refine Run.rgn ?_
    refine RunO.all ?_
    simp only [i19r2, SB, x_mov, h0, h1]
    show Run T _ _ _ _
    refine Run.ret ⟨?_, rfl⟩
    first | (rw [f19, ite_f h0, ite_t h1]; rfl) | (rw [f19, ite_f h0, ite_t h1]; simp only [resV, ev_t, List.getD_cons_zero, List.getD_cons_succ, List.map_cons, List.map_nil, h0, h1]; done) | (simp only [f19, if_true, Bool.false_eq_true, if_false, h0, h1]; rfl)
   ·
    refine Run.skip ?_
    show Run T _ _ _ _
    refine Run.seq ?_
    refine Run.rgn ?_
    refine RunO.all ?_
    simp only [i19r6, SB, x_mov, h0, h1]
    show Run T _ _ _ _
    refine Run.seq ?_
    refine Run.seq ?_
    refine Run.rgn ?_
    refine RunO.all ?_
    simp only [i19r7, SB, x_mov, h0, h1]
    show Run T _ _ _ _
    refine Run.block ?_
    refine Run.seq ?_
    refine Run.block ?_
    refine Run.seq ?_
    refine Run.block ?_
    refine Run.seq ?_
    refine Run.block ?_
    refine Run.seq ?_
    refine Run.block ?_
    refine Run.seq ?_
    refine Run.block ?_
    refine Run.seq ?_
    refine Run.seq ?_
    refine Run.seq ?_
    refine Run.seq ?_
    refine Run.rgn ?_
    refine RunO.all ?_
    simp only [i19r8, SB, x_bin, binV, intB, x_mov, if_true, reduceCtorEq, not_false_eq_true, h0, h1]
    show Run T _ _ _ _
    refine Run.ite (by rfl) (fun h2 => ?_) (fun h2 => ?_)
    ·
     refine Run.skip ?_
     show Run T _ _ _ _
     refine Run.ite (by rfl) (fun _ => ?_) (fun h => by first | exact absurd h (by decide) | (simp only [h0, h1, h2, reduceCtorEq, Bool.not_true, Bool.not_false, Bool.false_eq_true, Bool.true_eq_false] at h))
     refine Run.exit ?_
     show Run T _ _ _ _
     refine Run.seq ?_
     refine Run.rgn ?_
     refine RunO.all ?_
     simp only [i19r68, SB, x_bin, binV, intB, x_mov, if_true, reduceCtorEq, not_false_eq_true, h0, h1, h2]
     show Run T _ _ _ _
     refine Run.exit ?_
     show Run T _ _ _ _
     refine Run.seq ?_
     refine Run.seq ?_
     refine Run.rgn ?_
     refine RunO.all ?_
     simp only [i19r91, SB, x_mov, x_un, unV, intB, h0, h1, h2]
     show Run T _ _ _ _
     refine Run.ite (by rfl) (fun h3 => ?_) (fun h3 => ?_)
     ·
      refine Run.seq ?_
      refine Run.rgn ?_
      refine RunO.all ?_
      simp only [i19r92, SB, x_mov, h0, h1, h2, h3]
      show Run T _ _ _ _
      refine Run.ret ⟨?_, rfl⟩
      first | (rw [f19, ite_f h0, ite_f h1, ite_t h2, ite_t h3]; rfl) | (rw [f19, ite_f h0, ite_f h1, ite_t h2, ite_t h3]; simp only [resV, ev_t, List.getD_cons_zero, List.getD_cons_succ, List.map_cons, List.map_nil, h0, h1, h2, h3]; done) | (simp only [f19, if_true, Bool.false_eq_true, if_false, h0, h1, h2, h3]; rfl)
     ·
      refine Run.skip ?_
      show Run T _ _ _ _
      refine Run.seq ?_
      refine Run.rgn ?_
      refine RunO.all ?_
      simp only [i19r96, SB, x_mov, h0, h1, h2, h3]
      show Run T _ _ _ _
      refine Run.ret ⟨?_, rfl⟩
      first | (rw [f19, ite_f h0, ite_f h1, ite_t h2, ite_f h3]; rfl) | (rw [f19, ite_f h0, ite_f h1, ite_t h2, ite_f h3]; simp only [resV, ev_t, List.getD_cons_zero, List.getD_cons_succ, List.map_cons, List.map_nil, h0, h1, h2, h3]; done) | (simp only [f19, if_true, Bool.false_eq_true, if_false, h0, h1, h2, h3]; rfl)
    ·
     refine Run.seq ?_
     refine Run.rgn ?_
     refine RunO.all ?_
     simp only [i19r9, SB, x_bin, binV, intB, x_mov, if_true, reduceCtorEq, not_false_eq_true, h0, h1, h2]
     show Run T _ _ _ _
     refine Run.ite (by rfl) (fun h4 => ?_) (fun h4 => ?_)
     ·
      refine Run.skip ?_
      show Run T _ _ _ _
      refine Run.ite (by rfl) (fun _ => ?_) (fun h => by first | exact absurd h (by decide) | (simp only [h0, h1, h2, h4, reduceCtorEq, Bool.not_true, Bool.not_false, Bool.false_eq_true, Bool.true_eq_false] at h))
      refine Run.exit ?_
      show Run T _ _ _ _
      refine Run.seq ?_
      refine Run.rgn ?_
      refine RunO.all ?_
      simp only [i19r68, SB, x_bin, binV, intB, x_mov, if_true, reduceCtorEq, not_false_eq_true, h0, h1, h2, h4]
      show Run T _ _ _ _
      refine Run.exit ?_
      show Run T _ _ _ _
      refine Run.seq ?_
      refine Run.seq ?_
      refine Run.rgn ?_
      refine RunO.all ?_
      simp only [i19r91, SB, x_mov, x_un, unV, intB, h0, h1, h2, h4]
      show Run T _ _ _ _
      refine Run.ite (by rfl) (fun h5 => ?_) (fun h5 => ?_)
      ·
       refine Run.seq ?_
       refine Run.rgn ?_
       refine RunO.all ?_
       simp only [i19r92, SB, x_mov, h0, h1, h2, h4, h5]
       show Run T _ _ _ _
       refine Run.ret ⟨?_, rfl⟩
       first | (rw [f19, ite_f h0, ite_f h1, ite_f h2, ite_t h4, ite_t h5]; rfl) | (rw [f19, ite_f h0, ite_f h1, ite_f h2, ite_t h4, ite_t h5]; simp only [resV, ev_t, List.getD_cons_zero, List.getD_cons_succ, List.map_cons, List.map_nil, h0, h1, h2, h4, h5]; done) | (simp only [f19, if_true, Bool.false_eq_true, if_false, h0, h1, h2, h4, h5]; rfl)
      ·
       refine Run.skip ?_
       show Run T _ _ _ _
       refine Run.seq ?_
       refine Run.rgn ?_
       refine RunO.all ?_
       simp only [i19r96, SB, x_mov, h0, h1, h2, h4, h5]
       show Run T _ _ _ _
       refine Run.ret ⟨?_, rfl⟩
       first | (rw [f19, ite_f h0, ite_f h1, ite_f h2, ite_t h4, ite_f h5]; rfl) | (rw [f19, ite_f h0, ite_f h1, ite_f h2, ite_t h4, ite_f h5]; simp only [resV, ev_t, List.getD_cons_zero, List.getD_cons_succ, List.map_cons, List.map_nil, h0, h1, h2, h4, h5]; done) | (simp only [f19, if_true, Bool.false_eq_true, if_false, h0, h1, h2, h4, h5]; rfl)
     ·
      refine Run.seq ?_
      refine Run.rgn ?_
      refine RunO.all ?_
      simp only [i19r10, SB, x_bin, binV, intB, x_mov, if_true, reduceCtorEq, not_false_eq_true, h0, h1, h2, h4]
      show Run T _ _ _ _
      refine Run.ite (by rfl) (fun h6 => ?_) (fun h6 => ?_)
      ·
       refine Run.skip ?_
       show Run T _ _ _ _
       refine Run.ite (by rfl) (fun _ => ?_) (fun h => by first | exact absurd h (by decide) | (simp only [h0, h1, h2, h4, h6, reduceCtorEq, Bool.not_true, Bool.not_false, Bool.false_eq_true, Bool.true_eq_false] at h))
       refine Run.exit ?_
       show Run T _ _ _ _
       refine Run.seq ?_
       refine Run.rgn ?_
       refine RunO.all ?_
       simp only [i19r68, SB, x_bin, binV, intB, x_mov, if_true, reduceCtorEq, not_false_eq_true, h0, h1, h2, h4, h6]
       show Run T _ _ _ _
       refine Run.exit ?_
       show Run T _ _ _ _
       refine Run.seq ?_
       refine Run.seq ?_
       refine Run.rgn ?_
       refine RunO.all ?_
       simp only [i19r91, SB, x_mov, x_un, unV, intB, h0, h1, h2, h4, h6]
       show Run T _ _ _ _
       refine Run.ite (by rfl) (fun h7 => ?_) (fun h7 => ?_)
       ·
        refine Run.seq ?_
        refine Run.rgn ?_
        refine RunO.all ?_
        simp only [i19r92, SB, x_mov, h0, h1, h2, h4, h6, h7]
        show Run T _ _ _ _
        refine Run.ret ⟨?_, rfl⟩
        first | (rw [f19, ite_f h0, ite_f h1, ite_f h2, ite_f h4, ite_t h6, ite_t h7]; rfl) | (rw [f19, ite_f h0, ite_f h1, ite_f h2, ite_f h4, ite_t h6, ite_t h7]; simp only [resV, ev_t, List.getD_cons_zero, List.getD_cons_succ, List.map_cons, List.map_nil, h0, h1, h2, h4, h6, h7]; done) | (simp only [f19, if_true, Bool.false_eq_true, if_false, h0, h1, h2, h4, h6, h7]; rfl)
       ·
        refine Run.skip ?_
        show Run T _ _ _ _
        refine Run.seq ?_
        refine Run.rgn ?_
        refine RunO.all ?_
        simp only [i19r96, SB, x_mov, h0, h1, h2, h4, h6, h7]
        show Run T _ _ _ _
        refine Run.ret ⟨?_, rfl⟩
        first | (rw [f19, ite_f h0, ite_f h1, ite_f h2, ite_f h4, ite_t h6, ite_f h7]; rfl) | (rw [f19, ite_f h0, ite_f h1, ite_f h2, ite_f h4, ite_t h6, ite_f h7]; simp only [resV, ev_t, List.getD_cons_zero, List.getD_cons_succ, List.map_cons, List.map_nil, h0, h1, h2, h4, h6, h7]; done) | (simp only [f19, if_true, Bool.false_eq_true, if_false, h0, h1, h2, h4, h6, h7]; rfl)
      ·
       refine Run.seq ?_
       refine Run.rgn ?_
       refine RunO.all ?_
       simp only [i19r11, SB, x_bin, binV, intB, x_mov, if_true, reduceCtorEq, not_false_eq_true, h0, h1, h2, h4, h6]
       show Run T _ _ _ _
       refine Run.ite (by rfl) (fun h8 => ?_) (fun h8 => ?_)
       ·
        refine Run.skip ?_
        show Run T _ _ _ _
        refine Run.ite (by rfl) (fun _ => ?_) (fun h => by first | exact absurd h (by decide) | (simp only [h0, h1, h2, h4, h6, h8, reduceCtorEq, Bool.not_true, Bool.not_false, Bool.false_eq_true, Bool.true_eq_false] at h))
        refine Run.exit ?_
        show Run T _ _ _ _
        refine Run.seq ?_
        refine Run.rgn ?_
        refine RunO.all ?_
        simp only [i19r68, SB, x_bin, binV, intB, x_mov, if_true, reduceCtorEq, not_false_eq_true, h0, h1, h2, h4, h6, h8]
        show Run T _ _ _ _
        refine Run.exit ?_
        show Run T _ _ _ _
        refine Run.seq ?_
        refine Run.seq ?_
        refine Run.rgn ?_
        refine RunO.all ?_
        simp only [i19r91, SB, x_mov, x_un, unV, intB, h0, h1, h2, h4, h6, h8]
        show Run T _ _ _ _
        refine Run.ite (by rfl) (fun h9 => ?_) (fun h9 => ?_)
        ·
         refine Run.seq ?_
         refine Run.rgn ?_
         refine RunO.all ?_
         simp only [i19r92, SB, x_mov, h0, h1, h2, h4, h6, h8, h9]
         show Run T _ _ _ _
         refine Run.ret ⟨?_, rfl⟩
         first | (rw [f19, ite_f h0, ite_f h1, ite_f h2, ite_f h4, ite_f h6, ite_t h8, ite_t h9]; rfl) | (rw [f19, ite_f h0, ite_f h1, ite_f h2, ite_f h4, ite_f h6, ite_t h8, ite_t h9]; simp only [resV, ev_t, List.getD_cons_zero, List.getD_cons_succ, List.map_cons, List.map_nil, h0, h1, h2, h4, h6, h8, h9]; done) | (simp only [f19, if_true, Bool.false_eq_true, if_false, h0, h1, h2, h4, h6, h8, h9]; rfl)
        ·
         refine Run.skip ?_
         show Run T _ _ _ _
         refine Run.seq ?_
         refine Run.rgn ?_
         refine RunO.all ?_
         simp only [i19r96, SB, x_mov, h0, h1, h2, h4, h6, h8, h9]
         show Run T _ _ _ _
         refine Run.ret ⟨?_, rfl⟩
         first | (rw [f19, ite_f h0, ite_f h1, ite_f h2, ite_f h4, ite_f h6, ite_t h8, ite_f h9]; rfl) | (rw [f19, ite_f h0, ite_f h1, ite_f h2, ite_f h4, ite_f h6, ite_t h8, ite_f h9]; simp only [resV, ev_t, List.getD_cons_zero, List.getD_cons_succ, List.map_cons, List.map_nil, h0, h1, h2, h4, h6, h8, h9]; done) | (simp only [f19, if_true, Bool.false_eq_true, if_false, h0, h1, h2, h4, h6, h8, h9]; rfl)
       ·
        refine Run.rgn ?_
        refine RunO.all ?_
        simp only [i19r12, SB, x_bin, binV, intB, x_mov, if_true, reduceCtorEq, not_false_eq_true, h0, h1, h2, h4, h6, h8]
        show Run T _ _ _ _
        refine Run.ite (by rfl) (fun h10 => ?_) (fun h10 => ?_)
        ·
         refine Run.exit ?_
         show Run T _ _ _ _
         refine Run.seq ?_
         refine Run.rgn ?_
         refine RunO.all ?_
         simp only [i19r68, SB, x_bin, binV, intB, x_mov, if_true, reduceCtorEq, not_false_eq_true, h0, h1, h2, h4, h6, h8, h10]
         show Run T _ _ _ _
         refine Run.exit ?_
         show Run T _ _ _ _
         refine Run.seq ?_
         refine Run.seq ?_
         refine Run.rgn ?_
         refine RunO.all ?_
         simp only [i19r91, SB, x_mov, x_un, unV, intB, h0, h1, h2, h4, h6, h8, h10]
         show Run T _ _ _ _
         refine Run.ite (by rfl) (fun h11 => ?_) (fun h11 => ?_)
         ·
          refine Run.seq ?_
          refine Run.rgn ?_
          refine RunO.all ?_
          simp only [i19r92, SB, x_mov, h0, h1, h2, h4, h6, h8, h10, h11]
          show Run T _ _ _ _
          refine Run.ret ⟨?_, rfl⟩
          first | (rw [f19, ite_f h0, ite_f h1, ite_f h2, ite_f h4, ite_f h6, ite_f h8, ite_t h10, ite_t h11]; rfl) | (rw [f19, ite_f h0, ite_f h1, ite_f h2, ite_f h4, ite_f h6, ite_f h8, ite_t h10, ite_t h11]; simp only [resV, ev_t, List.getD_cons_zero, List.getD_cons_succ, List.map_cons, List.map_nil, h0, h1, h2, h4, h6, h8, h10, h11]; done) | (simp only [f19, if_true, Bool.false_eq_true, if_false, h0, h1, h2, h4, h6, h8, h10, h11]; rfl)
         ·
          refine Run.skip ?_
          show Run T _ _ _ _
          refine Run.seq ?_
          refine Run.rgn ?_
          refine RunO.all ?_
          simp only [i19r96, SB, x_mov, h0, h1, h2, h4, h6, h8, h10, h11]
          show Run T _ _ _ _
          refine Run.ret ⟨?_, rfl⟩
          first | (rw [f19, ite_f h0, ite_f h1, ite_f h2, ite_f h4, ite_f h6, ite_f h8, ite_t h10, ite_f h11]; rfl) | (rw [f19, ite_f h0, ite_f h1, ite_f h2, ite_f h4, ite_f h6, ite_f h8, ite_t h10, ite_f h11]; simp only [resV, ev_t, List.getD_cons_zero, List.getD_cons_succ, List.map_cons, List.map_nil, h0, h1, h2, h4, h6, h8, h10, h11]; done) | (simp only [f19, if_true, Bool.false_eq_true, if_false, h0, h1, h2, h4, h6, h8, h10, h11]; rfl)
        ·
         refine Run.skip ?_
         show Run T _ _ _ _
         refine Run.seq ?_
         refine Run.seq ?_
         refine Run.seq ?_
         refine Run.rgn ?_
         refine RunO.all ?_
         simp only [i19r23, SB, x_bin, binV, intB, x_mov, if_true, reduceCtorEq, not_false_eq_true, h0, h1, h2, h4, h6, h8, h10]
         show Run T _ _ _ _
         refine Run.ite (by rfl) (fun h12 => ?_) (fun h12 => ?_)
         ·
          refine Run.skip ?_
          show Run T _ _ _ _
          refine Run.ite (by rfl) (fun _ => ?_) (fun h => by first | exact absurd h (by decide) | (simp only [h0, h1, h2, h4, h6, h8, h10, h12, reduceCtorEq, Bool.not_true, Bool.not_false, Bool.false_eq_true, Bool.true_eq_false] at h))
          refine Run.exit ?_
          show Run T _ _ _ _
          refine Run.seq ?_
          refine Run.rgn ?_
          refine RunO.pre 1 ?_
          simp only [i19r72, List.take_succ_cons, List.take_zero, List.drop_succ_cons, List.drop_zero, SB, x_mov, h0, h1, h2, h4, h6, h8, h10, h12]
          refine RunO.c (c38 x1 _) ?_
          refine RunO.all ?_
          simp only [SB, x_mov, h0, h1, h2, h4, h6, h8, h10, h12]
          show Run T _ _ _ _
          refine Run.exit ?_
          show Run T _ _ _ _
          refine Run.seq ?_
          refine Run.seq ?_
          refine Run.rgn ?_
          refine RunO.all ?_
          simp only [i19r91, SB, x_mov, x_un, unV, intB, h0, h1, h2, h4, h6, h8, h10, h12]
          show Run T _ _ _ _
          refine Run.ite (by rfl) (fun h13 => ?_) (fun h13 => ?_)
          ·
           refine Run.seq ?_
           refine Run.rgn ?_
           refine RunO.all ?_
           simp only [i19r92, SB, x_mov, h0, h1, h2, h4, h6, h8, h10, h12, h13]
           show Run T _ _ _ _
           refine Run.ret ⟨?_, rfl⟩
           first | (rw [f19, ite_f h0, ite_f h1, ite_f h2, ite_f h4, ite_f h6, ite_f h8, ite_f h10, ite_t h12, ite_t h13]; rfl) | (rw [f19, ite_f h0, ite_f h1, ite_f h2, ite_f h4, ite_f h6, ite_f h8, ite_f h10, ite_t h12, ite_t h13]; simp only [resV, ev_t, List.getD_cons_zero, List.getD_cons_succ, List.map_cons, List.map_nil, h0, h1, h2, h4, h6, h8, h10, h12, h13]; done) | (simp only [f19, if_true, Bool.false_eq_true, if_false, h0, h1, h2, h4, h6, h8, h10, h12, h13]; rfl)
          ·
           refine Run.skip ?_
           show Run T _ _ _ _
           refine Run.seq ?_
           refine Run.rgn ?_
           refine RunO.all ?_
           simp only [i19r96, SB, x_mov, h0, h1, h2, h4, h6, h8, h10, h12, h13]
           show Run T _ _ _ _
           refine Run.ret ⟨?_, rfl⟩
           first | (rw [f19, ite_f h0, ite_f h1, ite_f h2, ite_f h4, ite_f h6, ite_f h8, ite_f h10, ite_t h12, ite_f h13]; rfl) | (rw [f19, ite_f h0, ite_f h1, ite_f h2, ite_f h4, ite_f h6, ite_f h8, ite_f h10, ite_t h12, ite_f h13]; simp only [resV, ev_t, List.getD_cons_zero, List.getD_cons_succ, List.map_cons, List.map_nil, h0, h1, h2, h4, h6, h8, h10, h12, h13]; done) | (simp only [f19, if_true, Bool.false_eq_true, if_false, h0, h1, h2, h4, h6, h8, h10, h12, h13]; rfl)
         ·
          refine Run.seq ?_
          refine Run.rgn ?_
          refine RunO.all ?_
          simp only [i19r24, SB, x_bin, binV, intB, x_mov, if_true, reduceCtorEq, not_false_eq_true, h0, h1, h2, h4, h6, h8, h10, h12]
          show Run T _ _ _ _
          refine Run.ite (by rfl) (fun h14 => ?_) (fun h14 => ?_)
          ·
           refine Run.skip ?_
           show Run T _ _ _ _
           refine Run.ite (by rfl) (fun _ => ?_) (fun h => by first | exact absurd h (by decide) | (simp only [h0, h1, h2, h4, h6, h8, h10, h12, h14, reduceCtorEq, Bool.not_true, Bool.not_false, Bool.false_eq_true, Bool.true_eq_false] at h))
           refine Run.exit ?_
           show Run T _ _ _ _
           refine Run.seq ?_
           refine Run.rgn ?_
           refine RunO.pre 1 ?_
           simp only [i19r72, List.take_succ_cons, List.take_zero, List.drop_succ_cons, List.drop_zero, SB, x_mov, h0, h1, h2, h4, h6, h8, h10, h12, h14]
           refine RunO.c (c38 x1 _) ?_
           refine RunO.all ?_
           simp only [SB, x_mov, h0, h1, h2, h4, h6, h8, h10, h12, h14]
           show Run T _ _ _ _
           refine Run.exit ?_
           show Run T _ _ _ _
           refine Run.seq ?_
           refine Run.seq ?_
           refine Run.rgn ?_
           refine RunO.all ?_
           simp only [i19r91, SB, x_mov, x_un, unV, intB, h0, h1, h2, h4, h6, h8, h10, h12, h14]
           show Run T _ _ _ _
           refine Run.ite (by rfl) (fun h15 => ?_) (fun h15 => ?_)
           ·
            refine Run.seq ?_
            refine Run.rgn ?_
            refine RunO.all ?_
            simp only [i19r92, SB, x_mov, h0, h1, h2, h4, h6, h8, h10, h12, h14, h15]
            show Run T _ _ _ _
            refine Run.ret ⟨?_, rfl⟩
            first | (rw [f19, ite_f h0, ite_f h1, ite_f h2, ite_f h4, ite_f h6, ite_f h8, ite_f h10, ite_f h12, ite_t h14, ite_t h15]; rfl) | (rw [f19, ite_f h0, ite_f h1, ite_f h2, ite_f h4, ite_f h6, ite_f h8, ite_f h10, ite_f h12, ite_t h14, ite_t h15]; simp only [resV, ev_t, List.getD_cons_zero, List.getD_cons_succ, List.map_cons, List.map_nil, h0, h1, h2, h4, h6, h8, h10, h12, h14, h15]; done) | (simp only [f19, if_true, Bool.false_eq_true, if_false, h0, h1, h2, h4, h6, h8, h10, h12, h14, h15]; rfl)
           ·
            refine Run.skip ?_
            show Run T _ _ _ _
            refine Run.seq ?_
            refine Run.rgn ?_
            refine RunO.all ?_
            simp only [i19r96, SB, x_mov, h0, h1, h2, h4, h6, h8, h10, h12, h14, h15]
            show Run T _ _ _ _
            refine Run.ret ⟨?_, rfl⟩
            first | (rw [f19, ite_f h0, ite_f h1, ite_f h2, ite_f h4, ite_f h6, ite_f h8, ite_f h10, ite_f h12, ite_t h14, ite_f h15]; rfl) | (rw [f19, ite_f h0, ite_f h1, ite_f h2, ite_f h4, ite_f h6, ite_f h8, ite_f h10, ite_f h12, ite_t h14, ite_f h15]; simp only [resV, ev_t, List.getD_cons_zero, List.getD_cons_succ, List.map_cons, List.map_nil, h0, h1, h2, h4, h6, h8, h10, h12, h14, h15]; done) | (simp only [f19, if_true, Bool.false_eq_true, if_false, h0, h1, h2, h4, h6, h8, h10, h12, h14, h15]; rfl)
          ·
           refine Run.rgn ?_
           refine RunO.all ?_
           simp only [i19r25, SB, x_bin, binV, intB, x_mov, if_true, reduceCtorEq, not_false_eq_true, h0, h1, h2, h4, h6, h8, h10, h12, h14]
           show Run T _ _ _ _
           refine Run.ite (by rfl) (fun h16 => ?_) (fun h16 => ?_)
           ·
            refine Run.exit ?_
            show Run T _ _ _ _
            refine Run.seq ?_
            refine Run.rgn ?_
            refine RunO.pre 1 ?_
            simp only [i19r72, List.take_succ_cons, List.take_zero, List.drop_succ_cons, List.drop_zero, SB, x_mov, h0, h1, h2, h4, h6, h8, h10, h12, h14, h16]
            refine RunO.c (c38 x1 _) ?_
            refine RunO.all ?_
            simp only [SB, x_mov, h0, h1, h2, h4, h6, h8, h10, h12, h14, h16]
            show Run T _ _ _ _
            refine Run.exit ?_
            show Run T _ _ _ _
            refine Run.seq ?_
            refine Run.seq ?_
            refine Run.rgn ?_
            refine RunO.all ?_
            simp only [i19r91, SB, x_mov, x_un, unV, intB, h0, h1, h2, h4, h6, h8, h10, h12, h14, h16]
            show Run T _ _ _ _
            refine Run.ite (by rfl) (fun h17 => ?_) (fun h17 => ?_)
            ·
             refine Run.seq ?_
             refine Run.rgn ?_
             refine RunO.all ?_
             simp only [i19r92, SB, x_mov, h0, h1, h2, h4, h6, h8, h10, h12, h14, h16, h17]
             show Run T _ _ _ _
             refine Run.ret ⟨?_, rfl⟩
             first | (rw [f19, ite_f h0, ite_f h1, ite_f h2, ite_f h4, ite_f h6, ite_f h8, ite_f h10, ite_f h12, ite_f h14, ite_t h16, ite_t h17]; rfl) | (rw [f19, ite_f h0, ite_f h1, ite_f h2, ite_f h4, ite_f h6, ite_f h8, ite_f h10, ite_f h12, ite_f h14, ite_t h16, ite_t h17]; simp only [resV, ev_t, List.getD_cons_zero, List.getD_cons_succ, List.map_cons, List.map_nil, h0, h1, h2, h4, h6, h8, h10, h12, h14, h16, h17]; done) | (simp only [f19, if_true, Bool.false_eq_true, if_false, h0, h1, h2, h4, h6, h8, h10, h12, h14, h16, h17]; rfl)
            ·
             refine Run.skip ?_
             show Run T _ _ _ _
             refine Run.seq ?_
             refine Run.rgn ?_
             refine RunO.all ?_
             simp only [i19r96, SB, x_mov, h0, h1, h2, h4, h6, h8, h10, h12, h14, h16, h17]
             show Run T _ _ _ _
             refine Run.ret ⟨?_, rfl⟩
             first | (rw [f19, ite_f h0, ite_f h1, ite_f h2, ite_f h4, ite_f h6, ite_f h8, ite_f h10, ite_f h12, ite_f h14, ite_t h16, ite_f h17]; rfl) | (rw [f19, ite_f h0, ite_f h1, ite_f h2, ite_f h4, ite_f h6, ite_f h8, ite_f h10, ite_f h12, ite_f h14, ite_t h16, ite_f h17]; simp only [resV, ev_t, List.getD_cons_zero, List.getD_cons_succ, List.map_cons, List.map_nil, h0, h1, h2, h4, h6, h8, h10, h12, h14, h16, h17]; done) | (simp only [f19, if_true, Bool.false_eq_true, if_false, h0, h1, h2, h4, h6, h8, h10, h12, h14, h16, h17]; rfl)
           ·
            refine Run.skip ?_
            show Run T _ _ _ _
            refine Run.seq ?_
            refine Run.seq ?_
            refine Run.seq ?_
            refine Run.rgn ?_
            refine RunO.all ?_
            simp only [i19r32, SB, x_bin, binV, intB, x_mov, if_true, reduceCtorEq, not_false_eq_true, h0, h1, h2, h4, h6, h8, h10, h12, h14, h16]
            show Run T _ _ _ _
            refine Run.ite (by rfl) (fun h18 => ?_) (fun h18 => ?_)
            ·
             refine Run.skip ?_
             show Run T _ _ _ _
             refine Run.ite (by rfl) (fun _ => ?_) (fun h => by first | exact absurd h (by decide) | (simp only [h0, h1, h2, h4, h6, h8, h10, h12, h14, h16, h18, reduceCtorEq, Bool.not_true, Bool.not_false, Bool.false_eq_true, Bool.true_eq_false] at h))
             refine Run.exit ?_
             show Run T _ _ _ _
             refine Run.seq ?_
             refine Run.rgn ?_
             refine RunO.all ?_
             simp only [i19r76, SB, x_bin, binV, intB, x_mov, if_true, reduceCtorEq, not_false_eq_true, h0, h1, h2, h4, h6, h8, h10, h12, h14, h16, h18]
             show Run T _ _ _ _
             refine Run.exit ?_
             show Run T _ _ _ _
             refine Run.seq ?_
             refine Run.seq ?_
             refine Run.rgn ?_
             refine RunO.all ?_
             simp only [i19r91, SB, x_mov, x_un, unV, intB, h0, h1, h2, h4, h6, h8, h10, h12, h14, h16, h18]
             show Run T _ _ _ _
             refine Run.ite (by rfl) (fun h19 => ?_) (fun h19 => ?_)
             ·
              refine Run.seq ?_
              refine Run.rgn ?_
              refine RunO.all ?_
              simp only [i19r92, SB, x_mov, h0, h1, h2, h4, h6, h8, h10, h12, h14, h16, h18, h19]
              show Run T _ _ _ _
              refine Run.ret ⟨?_, rfl⟩
              first | (rw [f19, ite_f h0, ite_f h1, ite_f h2, ite_f h4, ite_f h6, ite_f h8, ite_f h10, ite_f h12, ite_f h14, ite_f h16, ite_t h18, ite_t h19]; rfl) | (rw [f19, ite_f h0, ite_f h1, ite_f h2, ite_f h4, ite_f h6, ite_f h8, ite_f h10, ite_f h12, ite_f h14, ite_f h16, ite_t h18, ite_t h19]; simp only [resV, ev_t, List.getD_cons_zero, List.getD_cons_succ, List.map_cons, List.map_nil, h0, h1, h2, h4, h6, h8, h10, h12, h14, h16, h18, h19]; done) | (simp only [f19, if_true, Bool.false_eq_true, if_false, h0, h1, h2, h4, h6, h8, h10, h12, h14, h16, h18, h19]; rfl)
             ·
              refine Run.skip ?_
              show Run T _ _ _ _
              refine Run.seq ?_
              refine Run.rgn ?_
              refine RunO.all ?_
              simp only [i19r96, SB, x_mov, h0, h1, h2, h4, h6, h8, h10, h12, h14, h16, h18, h19]
              show Run T _ _ _ _
              refine Run.ret ⟨?_, rfl⟩
              first | (rw [f19, ite_f h0, ite_f h1, ite_f h2, ite_f h4, ite_f h6, ite_f h8, ite_f h10, ite_f h12, ite_f h14, ite_f h16, ite_t h18, ite_f h19]; rfl) | (rw [f19, ite_f h0, ite_f h1, ite_f h2, ite_f h4, ite_f h6, ite_f h8, ite_f h10, ite_f h12, ite_f h14, ite_f h16, ite_t h18, ite_f h19]; simp only [resV, ev_t, List.getD_cons_zero, List.getD_cons_succ, List.map_cons, List.map_nil, h0, h1, h2, h4, h6, h8, h10, h12, h14, h16, h18, h19]; done) | (simp only [f19, if_true, Bool.false_eq_true, if_false, h0, h1, h2, h4, h6, h8, h10, h12, h14, h16, h18, h19]; rfl)
            ·
             refine Run.seq ?_
             refine Run.rgn ?_
             refine RunO.all ?_
             simp only [i19r33, SB, x_bin, binV, intB, x_mov, if_true, reduceCtorEq, not_false_eq_true, h0, h1, h2, h4, h6, h8, h10, h12, h14, h16, h18]
             show Run T _ _ _ _
             refine Run.ite (by rfl) (fun h20 => ?_) (fun h20 => ?_)
             ·
              refine Run.skip ?_
              show Run T _ _ _ _
              refine Run.ite (by rfl) (fun _ => ?_) (fun h => by first | exact absurd h (by decide) | (simp only [h0, h1, h2, h4, h6, h8, h10, h12, h14, h16, h18, h20, reduceCtorEq, Bool.not_true, Bool.not_false, Bool.false_eq_true, Bool.true_eq_false] at h))
              refine Run.exit ?_
              show Run T _ _ _ _
              refine Run.seq ?_
              refine Run.rgn ?_
              refine RunO.all ?_
              simp only [i19r76, SB, x_bin, binV, intB, x_mov, if_true, reduceCtorEq, not_false_eq_true, h0, h1, h2, h4, h6, h8, h10, h12, h14, h16, h18, h20]
              show Run T _ _ _ _
              refine Run.exit ?_
              show Run T _ _ _ _
              refine Run.seq ?_
              refine Run.seq ?_
              refine Run.rgn ?_
              refine RunO.all ?_
              simp only [i19r91, SB, x_mov, x_un, unV, intB, h0, h1, h2, h4, h6, h8, h10, h12, h14, h16, h18, h20]
              show Run T _ _ _ _
              refine Run.ite (by rfl) (fun h21 => ?_) (fun h21 => ?_)
              ·
               refine Run.seq ?_
               refine Run.rgn ?_
               refine RunO.all ?_
               simp only [i19r92, SB, x_mov, h0, h1, h2, h4, h6, h8, h10, h12, h14, h16, h18, h20, h21]
               show Run T _ _ _ _
               refine Run.ret ⟨?_, rfl⟩
               first | (rw [f19, ite_f h0, ite_f h1, ite_f h2, ite_f h4, ite_f h6, ite_f h8, ite_f h10, ite_f h12, ite_f h14, ite_f h16, ite_f h18, ite_t h20, ite_t h21]; rfl) | (rw [f19, ite_f h0, ite_f h1, ite_f h2, ite_f h4, ite_f h6, ite_f h8, ite_f h10, ite_f h12, ite_f h14, ite_f h16, ite_f h18, ite_t h20, ite_t h21]; simp only [resV, ev_t, List.getD_cons_zero, List.getD_cons_succ, List.map_cons, List.map_nil, h0, h1, h2, h4, h6, h8, h10, h12, h14, h16, h18, h20, h21]; done) | (simp only [f19, if_true, Bool.false_eq_true, if_false, h0, h1, h2, h4, h6, h8, h10, h12, h14, h16, h18, h20, h21]; rfl)
              ·
               refine Run.skip ?_
               show Run T _ _ _ _
               refine Run.seq ?_
               refine Run.rgn ?_
               refine RunO.all ?_
               simp only [i19r96, SB, x_mov, h0, h1, h2, h4, h6, h8, h10, h12, h14, h16, h18, h20, h21]
               show Run T _ _ _ _
               refine Run.ret ⟨?_, rfl⟩
               first | (rw [f19, ite_f h0, ite_f h1, ite_f h2, ite_f h4, ite_f h6, ite_f h8, ite_f h10, ite_f h12, ite_f h14, ite_f h16, ite_f h18, ite_t h20, ite_f h21]; rfl) | (rw [f19, ite_f h0, ite_f h1, ite_f h2, ite_f h4, ite_f h6, ite_f h8, ite_f h10, ite_f h12, ite_f h14, ite_f h16, ite_f h18, ite_t h20, ite_f h21]; simp only [resV, ev_t, List.getD_cons_zero, List.getD_cons_succ, List.map_cons, List.map_nil, h0, h1, h2, h4, h6, h8, h10, h12, h14, h16, h18, h20, h21]; done) | (simp only [f19, if_true, Bool.false_eq_true, if_false, h0, h1, h2, h4, h6, h8, h10, h12, h14, h16, h18, h20, h21]; rfl)
             ·
              refine Run.seq ?_
              refine Run.rgn ?_
              refine RunO.all ?_
              simp only [i19r34, SB, x_bin, binV, intB, x_mov, if_true, reduceCtorEq, not_false_eq_true, h0, h1, h2, h4, h6, h8, h10, h12, h14, h16, h18, h20]
              show Run T _ _ _ _
              refine Run.ite (by rfl) (fun h22 => ?_) (fun h22 => ?_)
              ·
               refine Run.skip ?_
               show Run T _ _ _ _
               refine Run.ite (by rfl) (fun _ => ?_) (fun h => by first | exact absurd h (by decide) | (simp only [h0, h1, h2, h4, h6, h8, h10, h12, h14, h16, h18, h20, h22, reduceCtorEq, Bool.not_true, Bool.not_false, Bool.false_eq_true, Bool.true_eq_false] at h))
               refine Run.exit ?_
               show Run T _ _ _ _
               refine Run.seq ?_
               refine Run.rgn ?_
               refine RunO.all ?_
               simp only [i19r76, SB, x_bin, binV, intB, x_mov, if_true, reduceCtorEq, not_false_eq_true, h0, h1, h2, h4, h6, h8, h10, h12, h14, h16, h18, h20, h22]
               show Run T _ _ _ _
               refine Run.exit ?_
               show Run T _ _ _ _
               refine Run.seq ?_
               refine Run.seq ?_
               refine Run.rgn ?_
               refine RunO.all ?_
               simp only [i19r91, SB, x_mov, x_un, unV, intB, h0, h1, h2, h4, h6, h8, h10, h12, h14, h16, h18, h20, h22]
               show Run T _ _ _ _
               refine Run.ite (by rfl) (fun h23 => ?_) (fun h23 => ?_)
               ·
                refine Run.seq ?_
                refine Run.rgn ?_
                refine RunO.all ?_
                simp only [i19r92, SB, x_mov, h0, h1, h2, h4, h6, h8, h10, h12, h14, h16, h18, h20, h22, h23]
                show Run T _ _ _ _
                refine Run.ret ⟨?_, rfl⟩
                first | (rw [f19, ite_f h0, ite_f h1, ite_f h2, ite_f h4, ite_f h6, ite_f h8, ite_f h10, ite_f h12, ite_f h14, ite_f h16, ite_f h18, ite_f h20, ite_t h22, ite_t h23]; rfl) | (rw [f19, ite_f h0, ite_f h1, ite_f h2, ite_f h4, ite_f h6, ite_f h8, ite_f h10, ite_f h12, ite_f h14, ite_f h16, ite_f h18, ite_f h20, ite_t h22, ite_t h23]; simp only [resV, ev_t, List.getD_cons_zero, List.getD_cons_succ, List.map_cons, List.map_nil, h0, h1, h2, h4, h6, h8, h10, h12, h14, h16, h18, h20, h22, h23]; done) | (simp only [f19, if_true, Bool.false_eq_true, if_false, h0, h1, h2, h4, h6, h8, h10, h12, h14, h16, h18, h20, h22, h23]; rfl)
               ·
                refine Run.skip ?_
                show Run T _ _ _ _
                refine Run.seq ?_
                refine Run.rgn ?_
                refine RunO.all ?_
                simp only [i19r96, SB, x_mov, h0, h1, h2, h4, h6, h8, h10, h12, h14, h16, h18, h20, h22, h23]
                show Run T _ _ _ _
                refine Run.ret ⟨?_, rfl⟩
                first | (rw [f19, ite_f h0, ite_f h1, ite_f h2, ite_f h4, ite_f h6, ite_f h8, ite_f h10, ite_f h12, ite_f h14, ite_f h16, ite_f h18, ite_f h20, ite_t h22, ite_f h23]; rfl) | (rw [f19, ite_f h0, ite_f h1, ite_f h2, ite_f h4, ite_f h6, ite_f h8, ite_f h10, ite_f h12, ite_f h14, ite_f h16, ite_f h18, ite_f h20, ite_t h22, ite_f h23]; simp only [resV, ev_t, List.getD_cons_zero, List.getD_cons_succ, List.map_cons, List.map_nil, h0, h1, h2, h4, h6, h8, h10, h12, h14, h16, h18, h20, h22, h23]; done) | (simp only [f19, if_true, Bool.false_eq_true, if_false, h0, h1, h2, h4, h6, h8, h10, h12, h14, h16, h18, h20, h22, h23]; rfl)
              ·
               refine Run.rgn ?_
               refine RunO.all ?_
               simp only [i19r35, SB, x_bin, binV, intB, x_mov, if_true, reduceCtorEq, not_false_eq_true, h0, h1, h2, h4, h6, h8, h10, h12, h14, h16, h18, h20, h22]
               show Run T _ _ _ _
               refine Run.ite (by rfl) (fun h24 => ?_) (fun h24 => ?_)
               ·
                refine Run.exit ?_
                show Run T _ _ _ _
                refine Run.seq ?_
                refine Run.rgn ?_
                refine RunO.all ?_
                simp only [i19r76, SB, x_bin, binV, intB, x_mov, if_true, reduceCtorEq, not_false_eq_true, h0, h1, h2, h4, h6, h8, h10, h12, h14, h16, h18, h20, h22, h24]
                show Run T _ _ _ _
                refine Run.exit ?_
                show Run T _ _ _ _
                refine Run.seq ?_
                refine Run.seq ?_
                refine Run.rgn ?_
                refine RunO.all ?_
                simp only [i19r91, SB, x_mov, x_un, unV, intB, h0, h1, h2, h4, h6, h8, h10, h12, h14, h16, h18, h20, h22, h24]
                show Run T _ _ _ _
                refine Run.ite (by rfl) (fun h25 => ?_) (fun h25 => ?_)
                ·
                 refine Run.seq ?_
                 refine Run.rgn ?_
                 refine RunO.all ?_
                 simp only [i19r92, SB, x_mov, h0, h1, h2, h4, h6, h8, h10, h12, h14, h16, h18, h20, h22, h24, h25]
                 show Run T _ _ _ _
                 refine Run.ret ⟨?_, rfl⟩
                 first | (rw [f19, ite_f h0, ite_f h1, ite_f h2, ite_f h4, ite_f h6, ite_f h8, ite_f h10, ite_f h12, ite_f h14, ite_f h16, ite_f h18, ite_f h20, ite_f h22, ite_t h24, ite_t h25]; rfl) | (rw [f19, ite_f h0, ite_f h1, ite_f h2, ite_f h4, ite_f h6, ite_f h8, ite_f h10, ite_f h12, ite_f h14, ite_f h16, ite_f h18, ite_f h20, ite_f h22, ite_t h24, ite_t h25]; simp only [resV, ev_t, List.getD_cons_zero, List.getD_cons_succ, List.map_cons, List.map_nil, h0, h1, h2, h4, h6, h8, h10, h12, h14, h16, h18, h20, h22, h24, h25]; done) | (simp only [f19, if_true, Bool.false_eq_true, if_false, h0, h1, h2, h4, h6, h8, h10, h12, h14, h16, h18, h20, h22, h24, h25]; rfl)
                ·
                 refine Run.skip ?_
                 show Run T _ _ _ _
                 refine Run.seq ?_
                 refine Run.rgn ?_
                 refine RunO.all ?_
                 simp only [i19r96, SB, x_mov, h0, h1, h2, h4, h6, h8, h10, h12, h14, h16, h18, h20, h22, h24, h25]
                 show Run T _ _ _ _
                 refine Run.ret ⟨?_, rfl⟩
                 first | (rw [f19, ite_f h0, ite_f h1, ite_f h2, ite_f h4, ite_f h6, ite_f h8, ite_f h10, ite_f h12, ite_f h14, ite_f h16, ite_f h18, ite_f h20, ite_f h22, ite_t h24, ite_f h25]; rfl) | (rw [f19, ite_f h0, ite_f h1, ite_f h2, ite_f h4, ite_f h6, ite_f h8, ite_f h10, ite_f h12, ite_f h14, ite_f h16, ite_f h18, ite_f h20, ite_f h22, ite_t h24, ite_f h25]; simp only [resV, ev_t, List.getD_cons_zero, List.getD_cons_succ, List.map_cons, List.map_nil, h0, h1, h2, h4, h6, h8, h10, h12, h14, h16, h18, h20, h22, h24, h25]; done) | (simp only [f19, if_true, Bool.false_eq_true, if_false, h0, h1, h2, h4, h6, h8, h10, h12, h14, h16, h18, h20, h22, h24, h25]; rfl)
               ·
                refine Run.skip ?_
                show Run T _ _ _ _
                refine Run.seq ?_
                refine Run.seq ?_
                refine Run.seq ?_
                refine Run.rgn ?_
                refine RunO.all ?_
                simp only [i19r44, SB, x_bin, binV, intB, x_mov, if_true, reduceCtorEq, not_false_eq_true, h0, h1, h2, h4, h6, h8, h10, h12, h14, h16, h18, h20, h22, h24]
                show Run T _ _ _ _
                refine Run.ite (by rfl) (fun h26 => ?_) (fun h26 => ?_)
                ·
                 refine Run.skip ?_
                 show Run T _ _ _ _
                 refine Run.ite (by rfl) (fun _ => ?_) (fun h => by first | exact absurd h (by decide) | (simp only [h0, h1, h2, h4, h6, h8, h10, h12, h14, h16, h18, h20, h22, h24, h26, reduceCtorEq, Bool.not_true, Bool.not_false, Bool.false_eq_true, Bool.true_eq_false] at h))
                 refine Run.exit ?_
                 show Run T _ _ _ _
                 refine Run.seq ?_
                 refine Run.rgn ?_
                 refine RunO.all ?_
                 simp only [i19r80, SB, x_bin, binV, intB, x_mov, if_true, reduceCtorEq, not_false_eq_true, h0, h1, h2, h4, h6, h8, h10, h12, h14, h16, h18, h20, h22, h24, h26]
                 show Run T _ _ _ _
                 refine Run.ite (by rfl) (fun h27 => ?_) (fun h27 => ?_)
                 ·
                  refine Run.exit ?_
                  show Run T _ _ _ _
                  refine Run.seq ?_
                  refine Run.seq ?_
                  refine Run.rgn ?_
                  refine RunO.all ?_
                  simp only [i19r91, SB, x_mov, x_un, unV, intB, h0, h1, h2, h4, h6, h8, h10, h12, h14, h16, h18, h20, h22, h24, h26, h27]
                  show Run T _ _ _ _
                  refine Run.ite (by rfl) (fun _ => ?_) (fun h => by first | exact absurd h (by decide) | (simp only [h0, h1, h2, h4, h6, h8, h10, h12, h14, h16, h18, h20, h22, h24, h26, h27, reduceCtorEq, Bool.not_true, Bool.not_false, Bool.false_eq_true, Bool.true_eq_false] at h))
                  refine Run.seq ?_
                  refine Run.rgn ?_
                  refine RunO.all ?_
                  simp only [i19r92, SB, x_mov, h0, h1, h2, h4, h6, h8, h10, h12, h14, h16, h18, h20, h22, h24, h26, h27]
                  show Run T _ _ _ _
                  refine Run.ret ⟨?_, rfl⟩
                  first | (rw [f19, ite_f h0, ite_f h1, ite_f h2, ite_f h4, ite_f h6, ite_f h8, ite_f h10, ite_f h12, ite_f h14, ite_f h16, ite_f h18, ite_f h20, ite_f h22, ite_f h24, ite_t h26, ite_t h27]; rfl) | (rw [f19, ite_f h0, ite_f h1, ite_f h2, ite_f h4, ite_f h6, ite_f h8, ite_f h10, ite_f h12, ite_f h14, ite_f h16, ite_f h18, ite_f h20, ite_f h22, ite_f h24, ite_t h26, ite_t h27]; simp only [resV, ev_t, List.getD_cons_zero, List.getD_cons_succ, List.map_cons, List.map_nil, h0, h1, h2, h4, h6, h8, h10, h12, h14, h16, h18, h20, h22, h24, h26, h27]; done) | (simp only [f19, if_true, Bool.false_eq_true, if_false, h0, h1, h2, h4, h6, h8, h10, h12, h14, h16, h18, h20, h22, h24, h26, h27]; rfl)
                 ·
                  refine Run.skip ?_
                  show Run T _ _ _ _
                  refine Run.seq ?_
                  refine Run.seq ?_
                  refine Run.rgn ?_
                  refine RunO.all ?_
                  simp only [i19r85, SB, x_mov, h0, h1, h2, h4, h6, h8, h10, h12, h14, h16, h18, h20, h22, h24, h26, h27]
                  show Run T _ _ _ _
                  refine Run.ret ⟨?_, rfl⟩
                  first | (rw [f19, ite_f h0, ite_f h1, ite_f h2, ite_f h4, ite_f h6, ite_f h8, ite_f h10, ite_f h12, ite_f h14, ite_f h16, ite_f h18, ite_f h20, ite_f h22, ite_f h24, ite_t h26, ite_f h27]; rfl) | (rw [f19, ite_f h0, ite_f h1, ite_f h2, ite_f h4, ite_f h6, ite_f h8, ite_f h10, ite_f h12, ite_f h14, ite_f h16, ite_f h18, ite_f h20, ite_f h22, ite_f h24, ite_t h26, ite_f h27]; simp only [resV, ev_t, List.getD_cons_zero, List.getD_cons_succ, List.map_cons, List.map_nil, h0, h1, h2, h4, h6, h8, h10, h12, h14, h16, h18, h20, h22, h24, h26, h27]; done) | (simp only [f19, if_true, Bool.false_eq_true, if_false, h0, h1, h2, h4, h6, h8, h10, h12, h14, h16, h18, h20, h22, h24, h26, h27]; rfl)
                ·
                 refine Run.seq ?_
                 refine Run.rgn ?_
                 refine RunO.all ?_
                 simp only [i19r45, SB, x_bin, binV, intB, x_mov, if_true, reduceCtorEq, not_false_eq_true, h0, h1, h2, h4, h6, h8, h10, h12, h14, h16, h18, h20, h22, h24, h26]
                 show Run T _ _ _ _
                 refine Run.ite (by rfl) (fun h28 => ?_) (fun h28 => ?_)
                 ·
                  refine Run.skip ?_
                  show Run T _ _ _ _
                  refine Run.ite (by rfl) (fun _ => ?_) (fun h => by first | exact absurd h (by decide) | (simp only [h0, h1, h2, h4, h6, h8, h10, h12, h14, h16, h18, h20, h22, h24, h26, h28, reduceCtorEq, Bool.not_true, Bool.not_false, Bool.false_eq_true, Bool.true_eq_false] at h))
                  refine Run.exit ?_
                  show Run T _ _ _ _
                  refine Run.seq ?_
                  refine Run.rgn ?_
                  refine RunO.all ?_
                  simp only [i19r80, SB, x_bin, binV, intB, x_mov, if_true, reduceCtorEq, not_false_eq_true, h0, h1, h2, h4, h6, h8, h10, h12, h14, h16, h18, h20, h22, h24, h26, h28]
                  show Run T _ _ _ _
                  refine Run.ite (by rfl) (fun h29 => ?_) (fun h29 => ?_)
                  ·
                   refine Run.exit ?_
                   show Run T _ _ _ _
                   refine Run.seq ?_
                   refine Run.seq ?_
                   refine Run.rgn ?_
                   refine RunO.all ?_
                   simp only [i19r91, SB, x_mov, x_un, unV, intB, h0, h1, h2, h4, h6, h8, h10, h12, h14, h16, h18, h20, h22, h24, h26, h28, h29]
                   show Run T _ _ _ _
                   refine Run.ite (by rfl) (fun _ => ?_) (fun h => by first | exact absurd h (by decide) | (simp only [h0, h1, h2, h4, h6, h8, h10, h12, h14, h16, h18, h20, h22, h24, h26, h28, h29, reduceCtorEq, Bool.not_true, Bool.not_false, Bool.false_eq_true, Bool.true_eq_false] at h))
                   refine Run.seq ?_
                   refine Run.rgn ?_
                   refine RunO.all ?_
                   simp only [i19r92, SB, x_mov, h0, h1, h2, h4, h6, h8, h10, h12, h14, h16, h18, h20, h22, h24, h26, h28, h29]
                   show Run T _ _ _ _
                   refine Run.ret ⟨?_, rfl⟩
                   first | (rw [f19, ite_f h0, ite_f h1, ite_f h2, ite_f h4, ite_f h6, ite_f h8, ite_f h10, ite_f h12, ite_f h14, ite_f h16, ite_f h18, ite_f h20, ite_f h22, ite_f h24, ite_f h26, ite_t h28, ite_t h29]; rfl) | (rw [f19, ite_f h0, ite_f h1, ite_f h2, ite_f h4, ite_f h6, ite_f h8, ite_f h10, ite_f h12, ite_f h14, ite_f h16, ite_f h18, ite_f h20, ite_f h22, ite_f h24, ite_f h26, ite_t h28, ite_t h29]; simp only [resV, ev_t, List.getD_cons_zero, List.getD_cons_succ, List.map_cons, List.map_nil, h0, h1, h2, h4, h6, h8, h10, h12, h14, h16, h18, h20, h22, h24, h26, h28, h29]; done) | (simp only [f19, if_true, Bool.false_eq_true, if_false, h0, h1, h2, h4, h6, h8, h10, h12, h14, h16, h18, h20, h22, h24, h26, h28, h29]; rfl)
                  ·
                   refine Run.skip ?_
                   show Run T _ _ _ _
                   refine Run.seq ?_
                   refine Run.seq ?_
                   refine Run.rgn ?_
                   refine RunO.all ?_
                   simp only [i19r85, SB, x_mov, h0, h1, h2, h4, h6, h8, h10, h12, h14, h16, h18, h20, h22, h24, h26, h28, h29]
                   show Run T _ _ _ _
                   refine Run.ret ⟨?_, rfl⟩
                   first | (rw [f19, ite_f h0, ite_f h1, ite_f h2, ite_f h4, ite_f h6, ite_f h8, ite_f h10, ite_f h12, ite_f h14, ite_f h16, ite_f h18, ite_f h20, ite_f h22, ite_f h24, ite_f h26, ite_t h28, ite_f h29]; rfl) | (rw [f19, ite_f h0, ite_f h1, ite_f h2, ite_f h4, ite_f h6, ite_f h8, ite_f h10, ite_f h12, ite_f h14, ite_f h16, ite_f h18, ite_f h20, ite_f h22, ite_f h24, ite_f h26, ite_t h28, ite_f h29]; simp only [resV, ev_t, List.getD_cons_zero, List.getD_cons_succ, List.map_cons, List.map_nil, h0, h1, h2, h4, h6, h8, h10, h12, h14, h16, h18, h20, h22, h24, h26, h28, h29]; done) | (simp only [f19, if_true, Bool.false_eq_true, if_false, h0, h1, h2, h4, h6, h8, h10, h12, h14, h16, h18, h20, h22, h24, h26, h28, h29]; rfl)
                 ·
                  refine Run.seq ?_
                  refine Run.rgn ?_
                  refine RunO.all ?_
                  simp only [i19r46, SB, x_bin, binV, intB, x_mov, if_true, reduceCtorEq, not_false_eq_true, h0, h1, h2, h4, h6, h8, h10, h12, h14, h16, h18, h20, h22, h24, h26, h28]
                  show Run T _ _ _ _
                  refine Run.ite (by rfl) (fun h30 => ?_) (fun h30 => ?_)
                  ·
                   refine Run.skip ?_
                   show Run T _ _ _ _
                   refine Run.ite (by rfl) (fun _ => ?_) (fun h => by first | exact absurd h (by decide) | (simp only [h0, h1, h2, h4, h6, h8, h10, h12, h14, h16, h18, h20, h22, h24, h26, h28, h30, reduceCtorEq, Bool.not_true, Bool.not_false, Bool.false_eq_true, Bool.true_eq_false] at h))
                   refine Run.exit ?_
                   show Run T _ _ _ _
                   refine Run.seq ?_
                   refine Run.rgn ?_
                   refine RunO.all ?_
                   simp only [i19r80, SB, x_bin, binV, intB, x_mov, if_true, reduceCtorEq, not_false_eq_true, h0, h1, h2, h4, h6, h8, h10, h12, h14, h16, h18, h20, h22, h24, h26, h28, h30]
                   show Run T _ _ _ _
                   refine Run.ite (by rfl) (fun h31 => ?_) (fun h31 => ?_)
                   ·
                    refine Run.exit ?_
                    show Run T _ _ _ _
                    refine Run.seq ?_
                    refine Run.seq ?_
                    refine Run.rgn ?_
                    refine RunO.all ?_
                    simp only [i19r91, SB, x_mov, x_un, unV, intB, h0, h1, h2, h4, h6, h8, h10, h12, h14, h16, h18, h20, h22, h24, h26, h28, h30, h31]
                    show Run T _ _ _ _
                    refine Run.ite (by rfl) (fun _ => ?_) (fun h => by first | exact absurd h (by decide) | (simp only [h0, h1, h2, h4, h6, h8, h10, h12, h14, h16, h18, h20, h22, h24, h26, h28, h30, h31, reduceCtorEq, Bool.not_true, Bool.not_false, Bool.false_eq_true, Bool.true_eq_false] at h))
                    refine Run.seq ?_
                    refine Run.rgn ?_
                    refine RunO.all ?_
                    simp only [i19r92, SB, x_mov, h0, h1, h2, h4, h6, h8, h10, h12, h14, h16, h18, h20, h22, h24, h26, h28, h30, h31]
                    show Run T _ _ _ _
                    refine Run.ret ⟨?_, rfl⟩
                    first | (rw [f19, ite_f h0, ite_f h1, ite_f h2, ite_f h4, ite_f h6, ite_f h8, ite_f h10, ite_f h12, ite_f h14, ite_f h16, ite_f h18, ite_f h20, ite_f h22, ite_f h24, ite_f h26, ite_f h28, ite_t h30, ite_t h31]; rfl) | (rw [f19, ite_f h0, ite_f h1, ite_f h2, ite_f h4, ite_f h6, ite_f h8, ite_f h10, ite_f h12, ite_f h14, ite_f h16, ite_f h18, ite_f h20, ite_f h22, ite_f h24, ite_f h26, ite_f h28, ite_t h30, ite_t h31]; simp only [resV, ev_t, List.getD_cons_zero, List.getD_cons_succ, List.map_cons, List.map_nil, h0, h1, h2, h4, h6, h8, h10, h12, h14, h16, h18, h20, h22, h24, h26, h28, h30, h31]; done) | (simp only [f19, if_true, Bool.false_eq_true, if_false, h0, h1, h2, h4, h6, h8, h10, h12, h14, h16, h18, h20, h22, h24, h26, h28, h30, h31]; rfl)
                   ·
                    refine Run.skip ?_
                    show Run T _ _ _ _
                    refine Run.seq ?_
                    refine Run.seq ?_
                    refine Run.rgn ?_
                    refine RunO.all ?_
                    simp only [i19r85, SB, x_mov, h0, h1, h2, h4, h6, h8, h10, h12, h14, h16, h18, h20, h22, h24, h26, h28, h30, h31]
                    show Run T _ _ _ _
                    refine Run.ret ⟨?_, rfl⟩
                    first | (rw [f19, ite_f h0, ite_f h1, ite_f h2, ite_f h4, ite_f h6, ite_f h8, ite_f h10, ite_f h12, ite_f h14, ite_f h16, ite_f h18, ite_f h20, ite_f h22, ite_f h24, ite_f h26, ite_f h28, ite_t h30, ite_f h31]; rfl) | (rw [f19, ite_f h0, ite_f h1, ite_f h2, ite_f h4, ite_f h6, ite_f h8, ite_f h10, ite_f h12, ite_f h14, ite_f h16, ite_f h18, ite_f h20, ite_f h22, ite_f h24, ite_f h26, ite_f h28, ite_t h30, ite_f h31]; simp only [resV, ev_t, List.getD_cons_zero, List.getD_cons_succ, List.map_cons, List.map_nil, h0, h1, h2, h4, h6, h8, h10, h12, h14, h16, h18, h20, h22, h24, h26, h28, h30, h31]; done) | (simp only [f19, if_true, Bool.false_eq_true, if_false, h0, h1, h2, h4, h6, h8, h10, h12, h14, h16, h18, h20, h22, h24, h26, h28, h30, h31]; rfl)
                  ·
                   refine Run.rgn ?_
                   refine RunO.all ?_
                   simp only [i19r47, SB, x_bin, binV, intB, x_mov, if_true, reduceCtorEq, not_false_eq_true, h0, h1, h2, h4, h6, h8, h10, h12, h14, h16, h18, h20, h22, h24, h26, h28, h30]
                   show Run T _ _ _ _
                   refine Run.ite (by rfl) (fun h32 => ?_) (fun h32 => ?_)
                   ·
                    refine Run.exit ?_
                    show Run T _ _ _ _
                    refine Run.seq ?_
                    refine Run.rgn ?_
                    refine RunO.all ?_
                    simp only [i19r80, SB, x_bin, binV, intB, x_mov, if_true, reduceCtorEq, not_false_eq_true, h0, h1, h2, h4, h6, h8, h10, h12, h14, h16, h18, h20, h22, h24, h26, h28, h30, h32]
                    show Run T _ _ _ _
                    refine Run.ite (by rfl) (fun h33 => ?_) (fun h33 => ?_)
                    ·
                     refine Run.exit ?_
                     show Run T _ _ _ _
                     refine Run.seq ?_
                     refine Run.seq ?_
                     refine Run.rgn ?_
                     refine RunO.all ?_
                     simp only [i19r91, SB, x_mov, x_un, unV, intB, h0, h1, h2, h4, h6, h8, h10, h12, h14, h16, h18, h20, h22, h24, h26, h28, h30, h32, h33]
                     show Run T _ _ _ _
                     refine Run.ite (by rfl) (fun _ => ?_) (fun h => by first | exact absurd h (by decide) | (simp only [h0, h1, h2, h4, h6, h8, h10, h12, h14, h16, h18, h20, h22, h24, h26, h28, h30, h32, h33, reduceCtorEq, Bool.not_true, Bool.not_false, Bool.false_eq_true, Bool.true_eq_false] at h))
                     refine Run.seq ?_
                     refine Run.rgn ?_
                     refine RunO.all ?_
                     simp only [i19r92, SB, x_mov, h0, h1, h2, h4, h6, h8, h10, h12, h14, h16, h18, h20, h22, h24, h26, h28, h30, h32, h33]
                     show Run T _ _ _ _
                     refine Run.ret ⟨?_, rfl⟩
                     first | (rw [f19, ite_f h0, ite_f h1, ite_f h2, ite_f h4, ite_f h6, ite_f h8, ite_f h10, ite_f h12, ite_f h14, ite_f h16, ite_f h18, ite_f h20, ite_f h22, ite_f h24, ite_f h26, ite_f h28, ite_f h30, ite_t h32, ite_t h33]; rfl) | (rw [f19, ite_f h0, ite_f h1, ite_f h2, ite_f h4, ite_f h6, ite_f h8, ite_f h10, ite_f h12, ite_f h14, ite_f h16, ite_f h18, ite_f h20, ite_f h22, ite_f h24, ite_f h26, ite_f h28, ite_f h30, ite_t h32, ite_t h33]; simp only [resV, ev_t, List.getD_cons_zero, List.getD_cons_succ, List.map_cons, List.map_nil, h0, h1, h2, h4, h6, h8, h10, h12, h14, h16, h18, h20, h22, h24, h26, h28, h30, h32, h33]; done) | (simp only [f19, if_true, Bool.false_eq_true, if_false, h0, h1, h2, h4, h6, h8, h10, h12, h14, h16, h18, h20, h22, h24, h26, h28, h30, h32, h33]; rfl)
                    ·
                     refine Run.skip ?_
                     show Run T _ _ _ _
                     refine Run.seq ?_
                     refine Run.seq ?_
                     refine Run.rgn ?_
                     refine RunO.all ?_
                     simp only [i19r85, SB, x_mov, h0, h1, h2, h4, h6, h8, h10, h12, h14, h16, h18, h20, h22, h24, h26, h28, h30, h32, h33]
                     show Run T _ _ _ _
                     refine Run.ret ⟨?_, rfl⟩
                     first | (rw [f19, ite_f h0, ite_f h1, ite_f h2, ite_f h4, ite_f h6, ite_f h8, ite_f h10, ite_f h12, ite_f h14, ite_f h16, ite_f h18, ite_f h20, ite_f h22, ite_f h24, ite_f h26, ite_f h28, ite_f h30, ite_t h32, ite_f h33]; rfl) | (rw [f19, ite_f h0, ite_f h1, ite_f h2, ite_f h4, ite_f h6, ite_f h8, ite_f h10, ite_f h12, ite_f h14, ite_f h16, ite_f h18, ite_f h20, ite_f h22, ite_f h24, ite_f h26, ite_f h28, ite_f h30, ite_t h32, ite_f h33]; simp only [resV, ev_t, List.getD_cons_zero, List.getD_cons_succ, List.map_cons, List.map_nil, h0, h1, h2, h4, h6, h8, h10, h12, h14, h16, h18, h20, h22, h24, h26, h28, h30, h32, h33]; done) | (simp only [f19, if_true, Bool.false_eq_true, if_false, h0, h1, h2, h4, h6, h8, h10, h12, h14, h16, h18, h20, h22, h24, h26, h28, h30, h32, h33]; rfl)
                   ·
                    refine Run.skip ?_
                    show Run T _ _ _ _
                    refine Run.seq ?_
                    refine Run.seq ?_
                    refine Run.rgn ?_
                    refine RunO.all ?_
                    simp only [i19r56, SB, x_bin, binV, intB, x_mov, if_true, reduceCtorEq, not_false_eq_true, h0, h1, h2, h4, h6, h8, h10, h12, h14, h16, h18, h20, h22, h24, h26, h28, h30, h32]
                    show Run T _ _ _ _
                    refine Run.ite (by rfl) (fun h34 => ?_) (fun h34 => ?_)
                    ·
                     refine Run.skip ?_
                     show Run T _ _ _ _
                     refine Run.ite (by rfl) (fun _ => ?_) (fun h => by first | exact absurd h (by decide) | (simp only [h0, h1, h2, h4, h6, h8, h10, h12, h14, h16, h18, h20, h22, h24, h26, h28, h30, h32, h34, reduceCtorEq, Bool.not_true, Bool.not_false, Bool.false_eq_true, Bool.true_eq_false] at h))
                     refine Run.exit ?_
                     show Run T _ _ _ _
                     refine Run.seq ?_
                     refine Run.seq ?_
                     refine Run.rgn ?_
                     refine RunO.all ?_
                     simp only [i19r85, SB, x_mov, h0, h1, h2, h4, h6, h8, h10, h12, h14, h16, h18, h20, h22, h24, h26, h28, h30, h32, h34]
                     show Run T _ _ _ _
                     refine Run.ret ⟨?_, rfl⟩
                     first | (rw [f19, ite_f h0, ite_f h1, ite_f h2, ite_f h4, ite_f h6, ite_f h8, ite_f h10, ite_f h12, ite_f h14, ite_f h16, ite_f h18, ite_f h20, ite_f h22, ite_f h24, ite_f h26, ite_f h28, ite_f h30, ite_f h32, ite_t h34]; rfl) | (rw [f19, ite_f h0, ite_f h1, ite_f h2, ite_f h4, ite_f h6, ite_f h8, ite_f h10, ite_f h12, ite_f h14, ite_f h16, ite_f h18, ite_f h20, ite_f h22, ite_f h24, ite_f h26, ite_f h28, ite_f h30, ite_f h32, ite_t h34]; simp only [resV, ev_t, List.getD_cons_zero, List.getD_cons_succ, List.map_cons, List.map_nil, h0, h1, h2, h4, h6, h8, h10, h12, h14, h16, h18, h20, h22, h24, h26, h28, h30, h32, h34]; done) | (simp only [f19, if_true, Bool.false_eq_true, if_false, h0, h1, h2, h4, h6, h8, h10, h12, h14, h16, h18, h20, h22, h24, h26, h28, h30, h32, h34]; rfl)
                    ·
                     refine Run.rgn ?_
                     refine RunO.all ?_
                     simp only [i19r57, SB, x_bin, binV, intB, x_mov, if_true, reduceCtorEq, not_false_eq_true, h0, h1, h2, h4, h6, h8, h10, h12, h14, h16, h18, h20, h22, h24, h26, h28, h30, h32, h34]
                     show Run T _ _ _ _
                     refine Run.ite (by rfl) (fun h35 => ?_) (fun h35 => ?_)
                     ·
                      refine Run.exit ?_
                      show Run T _ _ _ _
                      refine Run.seq ?_
                      refine Run.seq ?_
                      refine Run.rgn ?_
                      refine RunO.all ?_
                      simp only [i19r85, SB, x_mov, h0, h1, h2, h4, h6, h8, h10, h12, h14, h16, h18, h20, h22, h24, h26, h28, h30, h32, h34, h35]
                      show Run T _ _ _ _
                      refine Run.ret ⟨?_, rfl⟩
                      first | (rw [f19, ite_f h0, ite_f h1, ite_f h2, ite_f h4, ite_f h6, ite_f h8, ite_f h10, ite_f h12, ite_f h14, ite_f h16, ite_f h18, ite_f h20, ite_f h22, ite_f h24, ite_f h26, ite_f h28, ite_f h30, ite_f h32, ite_f h34, ite_t h35]; rfl) | (rw [f19, ite_f h0, ite_f h1, ite_f h2, ite_f h4, ite_f h6, ite_f h8, ite_f h10, ite_f h12, ite_f h14, ite_f h16, ite_f h18, ite_f h20, ite_f h22, ite_f h24, ite_f h26, ite_f h28, ite_f h30, ite_f h32, ite_f h34, ite_t h35]; simp only [resV, ev_t, List.getD_cons_zero, List.getD_cons_succ, List.map_cons, List.map_nil, h0, h1, h2, h4, h6, h8, h10, h12, h14, h16, h18, h20, h22, h24, h26, h28, h30, h32, h34, h35]; done) | (simp only [f19, if_true, Bool.false_eq_true, if_false, h0, h1, h2, h4, h6, h8, h10, h12, h14, h16, h18, h20, h22, h24, h26, h28, h30, h32, h34, h35]; rfl)
                     ·
                      refine Run.skip ?_
                      show Run T _ _ _ _
                      refine Run.exit ?_
                      show Run T _ _ _ _
                      refine Run.seq ?_
                      refine Run.seq ?_
                      refine Run.rgn ?_
                      refine RunO.all ?_
                      simp only [i19r91, SB, x_mov, x_un, unV, intB, h0, h1, h2, h4, h6, h8, h10, h12, h14, h16, h18, h20, h22, h24, h26, h28, h30, h32, h34, h35]
                      show Run T _ _ _ _
                      refine Run.ite (by rfl) (fun _ => ?_) (fun h => by first | exact absurd h (by decide) | (simp only [h0, h1, h2, h4, h6, h8, h10, h12, h14, h16, h18, h20, h22, h24, h26, h28, h30, h32, h34, h35, reduceCtorEq, Bool.not_true, Bool.not_false, Bool.false_eq_true, Bool.true_eq_false] at h))
                      refine Run.seq ?_
                      refine Run.rgn ?_
                      refine RunO.all ?_
                      simp only [i19r92, SB, x_mov, h0, h1, h2, h4, h6, h8, h10, h12, h14, h16, h18, h20, h22, h24, h26, h28, h30, h32, h34, h35]
                      show Run T _ _ _ _
                      refine Run.ret ⟨?_, rfl⟩
                      first | (rw [f19, ite_f h0, ite_f h1, ite_f h2, ite_f h4, ite_f h6, ite_f h8, ite_f h10, ite_f h12, ite_f h14, ite_f h16, ite_f h18, ite_f h20, ite_f h22, ite_f h24, ite_f h26, ite_f h28, ite_f h30, ite_f h32, ite_f h34, ite_f h35]; rfl) | (rw [f19, ite_f h0, ite_f h1, ite_f h2, ite_f h4, ite_f h6, ite_f h8, ite_f h10, ite_f h12, ite_f h14, ite_f h16, ite_f h18, ite_f h20, ite_f h22, ite_f h24, ite_f h26, ite_f h28, ite_f h30, ite_f h32, ite_f h34, ite_f h35]; simp only [resV, ev_t, List.getD_cons_zero, List.getD_cons_succ, List.map_cons, List.map_nil, h0, h1, h2, h4, h6, h8, h10, h12, h14, h16, h18, h20, h22, h24, h26, h28, h30, h32, h34, h35]; done) | (simp only [f19, if_true, Bool.false_eq_true, if_false, h0, h1, h2, h4, h6, h8, h10, h12, h14, h16, h18, h20, h22, h24, h26, h28, h30, h32, h34, h35]; rfl)
theorem c19 (x0 : Int) (x1 : Int) (H : Heap) : PC T H 19 [.int .u8 x0, .int .u8 x1] (.tup [.int .u8 (f19 x0 x1).1, .bool (f19 x0 x1).2]) := PC.now rfl rfl (w19 x0 x1 )

/- smithy/scalar.truth -/
def f62 (x0 : Bool) : Int :=
if x0 then
  (1 : Int)
else
  (0 : Int)
theorem w62 (x0 : Bool) (H : Heap) : Fn T 62 [.bool x0] H (fun r h => r = .int .u64 (f62 x0) ∧ h = H) := by
  refine Fn.enter t62 ?_; simp only [i62, List.length_cons, List.length_nil, Nat.reduceAdd, Nat.reduceSub, List.replicate_succ, List.replicate_zero, List.cons_append, List.nil_append]
  refine Run.seq ?_
  refine Run.rgn ?_
  refine RunO.all ?_
  simp only [i62r0, SB, x_mov]
  show Run T _ _ _ _
  refine Run.seq ?_
  refine Run.seq ?_
  refine Run.rgn ?_
  refine RunO.all ?_
  simp only [i62r1, SB, x_mov]
  show Run T _ _ _ _
  refine Run.ite (by rfl) (fun h0 => ?_) (fun h0 => ?_)
  ·
   refine Run.seq ?_
   refine Run.rgn ?_
   refine RunO.all ?_
   simp only [i62r2, SB, x_mov, h0]
   show Run T _ _ _ _
   refine Run.ret ⟨?_, rfl⟩
   first | (rw [f62, ite_t h0]; rfl) | (rw [f62, ite_t h0]; simp only [resV, ev_t, List.getD_cons_zero, List.getD_cons_succ, List.map_cons, List.map_nil, h0]; done) | (simp only [f62, if_true, Bool.false_eq_true, if_false, h0]; rfl)
  ·
   refine Run.skip ?_
   show Run T _ _ _ _
   refine Run.seq ?_
   refine Run.rgn ?_
   refine RunO.all ?_
   simp only [i62r6, SB, x_mov, h0]
   show Run T _ _ _ _
   refine Run.ret ⟨?_, rfl⟩
   first | (rw [f62, ite_f h0]; rfl) | (rw [f62, ite_f h0]; simp only [resV, ev_t, List.getD_cons_zero, List.getD_cons_succ, List.map_cons, List.map_nil, h0]; done) | (simp only [f62, if_true, Bool.false_eq_true, if_false, h0]; rfl)
theorem c62 (x0 : Bool) (H : Heap) : PC T H 62 [.bool x0] (.int .u64 (f62 x0)) := PC.now rfl rfl (w62 x0 )

/- smithy/smithyref01.truth -/
def f52 (x0 : Bool) : Int :=
if x0 then
  (1 : Int)
else
  (0 : Int)
theorem w52 (x0 : Bool) (H : Heap) : Fn T 52 [.bool x0] H (fun r h => r = .int .u64 (f52 x0) ∧ h = H) := by
  refine Fn.enter t52 ?_; simp only [i52, List.length_cons, List.length_nil, Nat.reduceAdd, Nat.reduceSub, List.replicate_succ, List.replicate_zero, List.cons_append, List.nil_append]
  refine Run.seq ?_
  refine Run.rgn ?_
  refine RunO.all ?_
  simp only [i52r0, SB, x_mov]
  show Run T _ _ _ _
  refine Run.seq ?_
  refine Run.seq ?_
  refine Run.rgn ?_
  refine RunO.all ?_
  simp only [i52r1, SB, x_mov]
  show Run T _ _ _ _
  refine Run.ite (by rfl) (fun h0 => ?_) (fun h0 => ?_)
  ·
   refine Run.seq ?_
   refine Run.rgn ?_
   refine RunO.all ?_
   simp only [i52r2, SB, x_mov, h0]
   show Run T _ _ _ _
   refine Run.ret ⟨?_, rfl⟩
   first | (rw [f52, ite_t h0]; rfl) | (rw [f52, ite_t h0]; simp only [resV, ev_t, List.getD_cons_zero, List.getD_cons_succ, List.map_cons, List.map_nil, h0]; done) | (simp only [f52, if_true, Bool.false_eq_true, if_false, h0]; rfl)
  ·
   refine Run.skip ?_
   show Run T _ _ _ _
   refine Run.seq ?_
   refine Run.rgn ?_
   refine RunO.all ?_
   simp only [i52r6, SB, x_mov, h0]
   show Run T _ _ _ _
   refine Run.ret ⟨?_, rfl⟩
   first | (rw [f52, ite_f h0]; rfl) | (rw [f52, ite_f h0]; simp only [resV, ev_t, List.getD_cons_zero, List.getD_cons_succ, List.map_cons, List.map_nil, h0]; done) | (simp only [f52, if_true, Bool.false_eq_true, if_false, h0]; rfl)
theorem c52 (x0 : Bool) (H : Heap) : PC T H 52 [.bool x0] (.int .u64 (f52 x0)) := PC.now rfl rfl (w52 x0 )

/- smithy/scalar.Stops -/
def f25 (x0 : Int) (x1 : Int) (x2 : Int) : Bool :=
if (x0 == (4 : Int)) then
  if (f38 x1) then
    (x2 == (0 : Int))
  else
    false
else
  if (x0 == (5 : Int)) then
    if (f38 x1) then
      (x2 == (0 : Int))
    else
      false
  else
    false
theorem w25 (x0 : Int) (x1 : Int) (x2 : Int) (H : Heap) : Fn T 25 [.int .u8 x0, .int .u8 x1, .int .u64 x2] H (fun r h => r = .bool (f25 x0 x1 x2) ∧ h = H) := by
  refine Fn.enter t25 ?_; simp only [i25, List.length_cons, List.length_nil, Nat.reduceAdd, Nat.reduceSub, List.replicate_succ, List.replicate_zero, List.cons_append, List.nil_append]
  refine Run.seq ?_
  refine Run.rgn ?_
  refine RunO.all ?_
  simp only [i25r0, SB, x_mov]
  show Run T _ _ _ _
  refine Run.seq ?_
  refine Run.rgn ?_
  refine RunO.pre 3 ?_
  simp only [i25r1, List.take_succ_cons, List.take_zero, List.drop_succ_cons, List.drop_zero, SB, x_bin, binV, intB, x_mov, if_true, reduceCtorEq, not_false_eq_true]
  rcases Bool.eq_false_or_eq_true (x0 == (4 : Int)) with h0 | h0
  ·
   refine RunO.pre 5 ?_
   simp only [List.drop_zero, List.take_succ_cons, List.take_zero, List.drop_succ_cons, List.drop_zero, SB, x_bin, binV, intB, x_mov, x_pick, if_true, if_false, Bool.false_eq_true, if_true, reduceCtorEq, not_false_eq_true, exOp_gt, exOp_gf, exOp_gf2, exOp_gs, h0]
   refine RunO.cg (by rfl) (c38 x1 _) ?_
   refine RunO.pre 2 ?_
   simp only [List.take_succ_cons, List.take_zero, List.drop_succ_cons, List.drop_zero, SB, x_mov, x_pick, if_true, if_false, Bool.false_eq_true, h0]
   rcases Bool.eq_false_or_eq_true (f38 x1) with h1 | h1
   ·
    refine RunO.all ?_
    simp only [List.drop_zero, SB, x_bin, binV, intB, x_mov, x_pick, if_true, if_false, Bool.false_eq_true, if_true, reduceCtorEq, not_false_eq_true, exOp_gt, exOp_gf, exOp_gf2, exOp_gs, h0, h1]
    show Run T _ _ _ _
    refine Run.ret ⟨?_, rfl⟩
    first | (rw [f25, ite_t h0, ite_t h1]; rfl) | (rw [f25, ite_t h0, ite_t h1]; simp only [resV, ev_t, List.getD_cons_zero, List.getD_cons_succ, List.map_cons, List.map_nil, h0, h1]; done) | (simp only [f25, if_true, Bool.false_eq_true, if_false, h0, h1]; rfl)
   ·
    refine RunO.all ?_
    simp only [List.drop_zero, SB, x_bin, binV, intB, x_mov, x_pick, if_true, if_false, Bool.false_eq_true, if_true, reduceCtorEq, not_false_eq_true, exOp_gt, exOp_gf, exOp_gf2, exOp_gs, h0, h1]
    show Run T _ _ _ _
    refine Run.ret ⟨?_, rfl⟩
    first | (rw [f25, ite_t h0, ite_f h1]; rfl) | (rw [f25, ite_t h0, ite_f h1]; simp only [resV, ev_t, List.getD_cons_zero, List.getD_cons_succ, List.map_cons, List.map_nil, h0, h1]; done) | (simp only [f25, if_true, Bool.false_eq_true, if_false, h0, h1]; rfl)
  ·
   refine RunO.pre 4 ?_
   simp only [List.drop_zero, List.take_succ_cons, List.take_zero, List.drop_succ_cons, List.drop_zero, SB, x_bin, binV, intB, x_mov, x_pick, if_true, if_false, Bool.false_eq_true, if_true, reduceCtorEq, not_false_eq_true, exOp_gt, exOp_gf, exOp_gf2, exOp_gs, h0]
   rcases Bool.eq_false_or_eq_true (x0 == (5 : Int)) with h2 | h2
   ·
    refine RunO.pre 1 ?_
    simp only [List.drop_zero, List.take_succ_cons, List.take_zero, List.drop_succ_cons, List.drop_zero, SB, x_mov, exOp_gt, exOp_gf, exOp_gf2, exOp_gs, h0, h2]
    refine RunO.cg (by rfl) (c38 x1 _) ?_
    refine RunO.pre 2 ?_
    simp only [List.take_succ_cons, List.take_zero, List.drop_succ_cons, List.drop_zero, SB, x_mov, x_pick, if_true, if_false, Bool.false_eq_true, h0, h2]
    rcases Bool.eq_false_or_eq_true (f38 x1) with h3 | h3
    ·
     refine RunO.all ?_
     simp only [List.drop_zero, SB, x_bin, binV, intB, x_mov, x_pick, if_true, if_false, Bool.false_eq_true, if_true, reduceCtorEq, not_false_eq_true, exOp_gt, exOp_gf, exOp_gf2, exOp_gs, h0, h2, h3]
     show Run T _ _ _ _
     refine Run.ret ⟨?_, rfl⟩
     first | (rw [f25, ite_f h0, ite_t h2, ite_t h3]; rfl) | (rw [f25, ite_f h0, ite_t h2, ite_t h3]; simp only [resV, ev_t, List.getD_cons_zero, List.getD_cons_succ, List.map_cons, List.map_nil, h0, h2, h3]; done) | (simp only [f25, if_true, Bool.false_eq_true, if_false, h0, h2, h3]; rfl)
    ·
     refine RunO.all ?_
     simp only [List.drop_zero, SB, x_bin, binV, intB, x_mov, x_pick, if_true, if_false, Bool.false_eq_true, if_true, reduceCtorEq, not_false_eq_true, exOp_gt, exOp_gf, exOp_gf2, exOp_gs, h0, h2, h3]
     show Run T _ _ _ _
     refine Run.ret ⟨?_, rfl⟩
     first | (rw [f25, ite_f h0, ite_t h2, ite_f h3]; rfl) | (rw [f25, ite_f h0, ite_t h2, ite_f h3]; simp only [resV, ev_t, List.getD_cons_zero, List.getD_cons_succ, List.map_cons, List.map_nil, h0, h2, h3]; done) | (simp only [f25, if_true, Bool.false_eq_true, if_false, h0, h2, h3]; rfl)
   ·
    refine RunO.pre 1 ?_
    simp only [List.drop_zero, List.take_succ_cons, List.take_zero, List.drop_succ_cons, List.drop_zero, SB, x_mov, exOp_gt, exOp_gf, exOp_gf2, exOp_gs, h0, h2]
    refine RunO.cs (b := false) (by rfl) (by decide) ?_
    refine RunO.all ?_
    simp only [SB, x_bin, binV, intB, x_mov, x_pick, if_true, if_false, Bool.false_eq_true, if_true, reduceCtorEq, not_false_eq_true, exOp_gt, exOp_gf, exOp_gf2, exOp_gs, h0, h2]
    show Run T _ _ _ _
    refine Run.ret ⟨?_, rfl⟩
    first | (rw [f25, ite_f h0, ite_f h2]; rfl) | (rw [f25, ite_f h0, ite_f h2]; simp only [resV, ev_t, List.getD_cons_zero, List.getD_cons_succ, List.map_cons, List.map_nil, h0, h2]; done) | (simp only [f25, if_true, Bool.false_eq_true, if_false, h0, h2]; rfl)
theorem c25 (x0 : Int) (x1 : Int) (x2 : Int) (H : Heap) : PC T H 25 [.int .u8 x0, .int .u8 x1, .int .u64 x2] (.bool (f25 x0 x1 x2)) := PC.now rfl rfl (w25 x0 x1 x2 )

end Go.Eng.Sca
