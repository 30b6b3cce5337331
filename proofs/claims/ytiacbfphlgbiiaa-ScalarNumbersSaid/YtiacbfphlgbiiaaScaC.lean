/- Functions of this seat, each with a plain function that gives the same answers (lines written by a program of this session's; no condition beyond those stated). -/
import Derived.Test.YtiacbfphlgbiiaaScaB
namespace Go.Eng.Sca
open Go Go.Eng
set_option linter.unusedVariables false
set_option linter.unusedSimpArgs false
set_option maxRecDepth 20000
set_option maxHeartbeats 4000000

/- smithy/scalar.numbers -/
def f41 (x0 : Int) (x1 : Int) (x2 : Int) (x3 : Int) : Int :=
if (x0 == (1 : Int)) then
  (IntKind.u64.wrap (x2 + x3))
else
  if (x0 == (2 : Int)) then
    (IntKind.u64.wrap (x2 - x3))
  else
    if (x0 == (3 : Int)) then
      (IntKind.u64.wrap (x2 * x3))
    else
      if (x0 == (4 : Int)) then
        if ((IntKind.i64.wrap x3) == (0 : Int)) then
          (0 : Int)
        else
          (IntKind.u64.wrap (IntKind.i64.wrap ((IntKind.i64.wrap x2).tdiv (IntKind.i64.wrap x3))))
      else
        if (x0 == (5 : Int)) then
          if ((IntKind.i64.wrap x3) == (0 : Int)) then
            (0 : Int)
          else
            (IntKind.u64.wrap ((IntKind.i64.wrap x2).tmod (IntKind.i64.wrap x3)))
        else
          if (x0 == (6 : Int)) then
            (IntKind.u64.wrap ((BitVec.ofInt IntKind.u64.bits x2 &&& BitVec.ofInt IntKind.u64.bits x3).toNat : Int))
          else
            if (x0 == (7 : Int)) then
              (IntKind.u64.wrap ((BitVec.ofInt IntKind.u64.bits x2 ||| BitVec.ofInt IntKind.u64.bits x3).toNat : Int))
            else
              if (x0 == (8 : Int)) then
                (IntKind.u64.wrap ((BitVec.ofInt IntKind.u64.bits x2 ^^^ BitVec.ofInt IntKind.u64.bits x3).toNat : Int))
              else
                if (x0 == (9 : Int)) then
                  (IntKind.u64.wrap (x2 * 2 ^ (min (f50 x1 x3).toNat IntKind.u64.bits)))
                else
                  if (x0 == (10 : Int)) then
                    (IntKind.u64.wrap ((IntKind.i64.wrap x2).fdiv (2 ^ (min (f50 x1 x3).toNat IntKind.i64.bits))))
                  else
                    (f51 x0 (IntKind.i64.wrap x2) (IntKind.i64.wrap x3))
theorem w41 (x0 : Int) (x1 : Int) (x2 : Int) (x3 : Int) (H : Heap) : Fn T 41 [.int .u8 x0, .int .u8 x1, .int .u64 x2, .int .u64 x3] H (fun r h => r = .int .u64 (f41 x0 x1 x2 x3) ∧ h = H) := by
  refine Fn.enter t41 ?_; simp only [i41, List.length_cons, List.length_nil, Nat.reduceAdd, Nat.reduceSub, List.replicate_succ, List.replicate_zero, List.cons_append, List.nil_append]
  refine Run.seq ?_
  refine Run.rgn ?_
  refine RunO.all ?_
  simp only [i41r0, SB, x_mov, if_neg50]
  show Run T _ _ _ _
  refine Run.seq ?_
  refine Run.rgn ?_
  refine RunO.all ?_
  simp only [i41r1, SB, x_cvt, x_mov, if_neg50]
  show Run T _ _ _ _
  refine Run.seq ?_
  refine Run.seq ?_
  refine Run.rgn ?_
  refine RunO.all ?_
  simp only [i41r2, SB, x_mov, if_neg50]
  show Run T _ _ _ _
  refine Run.block ?_
  refine Run.seq ?_
  refine Run.rgn ?_
  refine RunO.all ?_
  simp only [i41r3, SB, x_bin, binV, intB, x_mov, if_true, reduceCtorEq, not_false_eq_true, if_neg50]
  show Run T _ _ _ _
  refine Run.ite (by rfl) (fun h0 => ?_) (fun h0 => ?_)
  ·
   refine Run.seq ?_
   refine Run.rgn ?_
   refine RunO.all ?_
   simp only [i41r4, SB, x_bin, binV, intB, x_mov, if_true, reduceCtorEq, not_false_eq_true, h0, if_neg50]
   show Run T _ _ _ _
   refine Run.ret ⟨?_, rfl⟩
   first | (rw [f41, ite_t h0]; rfl) | (rw [f41, ite_t h0]; simp only [resV, ev_t, List.getD_cons_zero, List.getD_cons_succ, List.map_cons, List.map_nil, h0]; done) | (simp only [f41, if_true, Bool.false_eq_true, if_false, h0]; rfl)
  ·
   refine Run.seq ?_
   refine Run.rgn ?_
   refine RunO.all ?_
   simp only [i41r6, SB, x_bin, binV, intB, x_mov, if_true, reduceCtorEq, not_false_eq_true, h0, if_neg50]
   show Run T _ _ _ _
   refine Run.ite (by rfl) (fun h1 => ?_) (fun h1 => ?_)
   ·
    refine Run.seq ?_
    refine Run.rgn ?_
    refine RunO.all ?_
    simp only [i41r7, SB, x_bin, binV, intB, x_mov, if_true, reduceCtorEq, not_false_eq_true, h0, h1, if_neg50]
    show Run T _ _ _ _
    refine Run.ret ⟨?_, rfl⟩
    first | (rw [f41, ite_f h0, ite_t h1]; rfl) | (rw [f41, ite_f h0, ite_t h1]; simp only [resV, ev_t, List.getD_cons_zero, List.getD_cons_succ, List.map_cons, List.map_nil, h0, h1]; done) | (simp only [f41, if_true, Bool.false_eq_true, if_false, h0, h1]; rfl)
   ·
    refine Run.seq ?_
    refine Run.rgn ?_
    refine RunO.all ?_
    simp only [i41r9, SB, x_bin, binV, intB, x_mov, if_true, reduceCtorEq, not_false_eq_true, h0, h1, if_neg50]
    show Run T _ _ _ _
    refine Run.ite (by rfl) (fun h2 => ?_) (fun h2 => ?_)
    ·
     refine Run.seq ?_
     refine Run.rgn ?_
     refine RunO.all ?_
     simp only [i41r10, SB, x_bin, binV, intB, x_mov, if_true, reduceCtorEq, not_false_eq_true, h0, h1, h2, if_neg50]
     show Run T _ _ _ _
     refine Run.ret ⟨?_, rfl⟩
     first | (rw [f41, ite_f h0, ite_f h1, ite_t h2]; rfl) | (rw [f41, ite_f h0, ite_f h1, ite_t h2]; simp only [resV, ev_t, List.getD_cons_zero, List.getD_cons_succ, List.map_cons, List.map_nil, h0, h1, h2]; done) | (simp only [f41, if_true, Bool.false_eq_true, if_false, h0, h1, h2]; rfl)
    ·
     refine Run.seq ?_
     refine Run.rgn ?_
     refine RunO.all ?_
     simp only [i41r12, SB, x_bin, binV, intB, x_mov, if_true, reduceCtorEq, not_false_eq_true, h0, h1, h2, if_neg50]
     show Run T _ _ _ _
     refine Run.ite (by rfl) (fun h3 => ?_) (fun h3 => ?_)
     ·
      refine Run.seq ?_
      refine Run.seq ?_
      refine Run.rgn ?_
      refine RunO.all ?_
      simp only [i41r13, SB, x_bin, binV, intB, x_mov, if_true, reduceCtorEq, not_false_eq_true, h0, h1, h2, h3, if_neg50]
      show Run T _ _ _ _
      refine Run.ite (by rfl) (fun h4 => ?_) (fun h4 => ?_)
      ·
       refine Run.seq ?_
       refine Run.rgn ?_
       refine RunO.all ?_
       simp only [i41r14, SB, x_mov, h0, h1, h2, h3, h4, if_neg50]
       show Run T _ _ _ _
       refine Run.ret ⟨?_, rfl⟩
       first | (rw [f41, ite_f h0, ite_f h1, ite_f h2, ite_t h3, ite_t h4]; rfl) | (rw [f41, ite_f h0, ite_f h1, ite_f h2, ite_t h3, ite_t h4]; simp only [resV, ev_t, List.getD_cons_zero, List.getD_cons_succ, List.map_cons, List.map_nil, h0, h1, h2, h3, h4]; done) | (simp only [f41, if_true, Bool.false_eq_true, if_false, h0, h1, h2, h3, h4]; rfl)
      ·
       refine Run.skip ?_
       show Run T _ _ _ _
       refine Run.seq ?_
       refine Run.rgn ?_
       refine RunO.all ?_
       simp only [i41r18, SB, x_bin, binV, intB, x_cvt, x_mov, if_true, reduceCtorEq, not_false_eq_true, h0, h1, h2, h3, h4, if_neg (beq_no h4), if_neg50]
       show Run T _ _ _ _
       refine Run.ret ⟨?_, rfl⟩
       first | (rw [f41, ite_f h0, ite_f h1, ite_f h2, ite_t h3, ite_f h4]; rfl) | (rw [f41, ite_f h0, ite_f h1, ite_f h2, ite_t h3, ite_f h4]; simp only [resV, ev_t, List.getD_cons_zero, List.getD_cons_succ, List.map_cons, List.map_nil, h0, h1, h2, h3, h4]; done) | (simp only [f41, if_true, Bool.false_eq_true, if_false, h0, h1, h2, h3, h4]; rfl)
     ·
      refine Run.seq ?_
      refine Run.rgn ?_
      refine RunO.all ?_
      simp only [i41r21, SB, x_bin, binV, intB, x_mov, if_true, reduceCtorEq, not_false_eq_true, h0, h1, h2, h3, if_neg50]
      show Run T _ _ _ _
      refine Run.ite (by rfl) (fun h5 => ?_) (fun h5 => ?_)
      ·
       refine Run.seq ?_
       refine Run.seq ?_
       refine Run.rgn ?_
       refine RunO.all ?_
       simp only [i41r22, SB, x_bin, binV, intB, x_mov, if_true, reduceCtorEq, not_false_eq_true, h0, h1, h2, h3, h5, if_neg50]
       show Run T _ _ _ _
       refine Run.ite (by rfl) (fun h6 => ?_) (fun h6 => ?_)
       ·
        refine Run.seq ?_
        refine Run.rgn ?_
        refine RunO.all ?_
        simp only [i41r23, SB, x_mov, h0, h1, h2, h3, h5, h6, if_neg50]
        show Run T _ _ _ _
        refine Run.ret ⟨?_, rfl⟩
        first | (rw [f41, ite_f h0, ite_f h1, ite_f h2, ite_f h3, ite_t h5, ite_t h6]; rfl) | (rw [f41, ite_f h0, ite_f h1, ite_f h2, ite_f h3, ite_t h5, ite_t h6]; simp only [resV, ev_t, List.getD_cons_zero, List.getD_cons_succ, List.map_cons, List.map_nil, h0, h1, h2, h3, h5, h6]; done) | (simp only [f41, if_true, Bool.false_eq_true, if_false, h0, h1, h2, h3, h5, h6]; rfl)
       ·
        refine Run.skip ?_
        show Run T _ _ _ _
        refine Run.seq ?_
        refine Run.rgn ?_
        refine RunO.all ?_
        simp only [i41r27, SB, x_bin, binV, intB, x_cvt, x_mov, if_true, reduceCtorEq, not_false_eq_true, h0, h1, h2, h3, h5, h6, if_neg (beq_no h6), if_neg50]
        show Run T _ _ _ _
        refine Run.ret ⟨?_, rfl⟩
        first | (rw [f41, ite_f h0, ite_f h1, ite_f h2, ite_f h3, ite_t h5, ite_f h6]; rfl) | (rw [f41, ite_f h0, ite_f h1, ite_f h2, ite_f h3, ite_t h5, ite_f h6]; simp only [resV, ev_t, List.getD_cons_zero, List.getD_cons_succ, List.map_cons, List.map_nil, h0, h1, h2, h3, h5, h6]; done) | (simp only [f41, if_true, Bool.false_eq_true, if_false, h0, h1, h2, h3, h5, h6]; rfl)
      ·
       refine Run.seq ?_
       refine Run.rgn ?_
       refine RunO.all ?_
       simp only [i41r30, SB, x_bin, binV, intB, x_mov, if_true, reduceCtorEq, not_false_eq_true, h0, h1, h2, h3, h5, if_neg50]
       show Run T _ _ _ _
       refine Run.ite (by rfl) (fun h7 => ?_) (fun h7 => ?_)
       ·
        refine Run.seq ?_
        refine Run.rgn ?_
        refine RunO.all ?_
        simp only [i41r31, SB, x_bin, binV, intB, x_mov, if_true, reduceCtorEq, not_false_eq_true, h0, h1, h2, h3, h5, h7, if_neg50]
        show Run T _ _ _ _
        refine Run.ret ⟨?_, rfl⟩
        first | (rw [f41, ite_f h0, ite_f h1, ite_f h2, ite_f h3, ite_f h5, ite_t h7]; rfl) | (rw [f41, ite_f h0, ite_f h1, ite_f h2, ite_f h3, ite_f h5, ite_t h7]; simp only [resV, ev_t, List.getD_cons_zero, List.getD_cons_succ, List.map_cons, List.map_nil, h0, h1, h2, h3, h5, h7]; done) | (simp only [f41, if_true, Bool.false_eq_true, if_false, h0, h1, h2, h3, h5, h7]; rfl)
       ·
        refine Run.seq ?_
        refine Run.rgn ?_
        refine RunO.all ?_
        simp only [i41r33, SB, x_bin, binV, intB, x_mov, if_true, reduceCtorEq, not_false_eq_true, h0, h1, h2, h3, h5, h7, if_neg50]
        show Run T _ _ _ _
        refine Run.ite (by rfl) (fun h8 => ?_) (fun h8 => ?_)
        ·
         refine Run.seq ?_
         refine Run.rgn ?_
         refine RunO.all ?_
         simp only [i41r34, SB, x_bin, binV, intB, x_mov, if_true, reduceCtorEq, not_false_eq_true, h0, h1, h2, h3, h5, h7, h8, if_neg50]
         show Run T _ _ _ _
         refine Run.ret ⟨?_, rfl⟩
         first | (rw [f41, ite_f h0, ite_f h1, ite_f h2, ite_f h3, ite_f h5, ite_f h7, ite_t h8]; rfl) | (rw [f41, ite_f h0, ite_f h1, ite_f h2, ite_f h3, ite_f h5, ite_f h7, ite_t h8]; simp only [resV, ev_t, List.getD_cons_zero, List.getD_cons_succ, List.map_cons, List.map_nil, h0, h1, h2, h3, h5, h7, h8]; done) | (simp only [f41, if_true, Bool.false_eq_true, if_false, h0, h1, h2, h3, h5, h7, h8]; rfl)
        ·
         refine Run.seq ?_
         refine Run.rgn ?_
         refine RunO.all ?_
         simp only [i41r36, SB, x_bin, binV, intB, x_mov, if_true, reduceCtorEq, not_false_eq_true, h0, h1, h2, h3, h5, h7, h8, if_neg50]
         show Run T _ _ _ _
         refine Run.ite (by rfl) (fun h9 => ?_) (fun h9 => ?_)
         ·
          refine Run.seq ?_
          refine Run.rgn ?_
          refine RunO.all ?_
          simp only [i41r37, SB, x_bin, binV, intB, x_mov, if_true, reduceCtorEq, not_false_eq_true, h0, h1, h2, h3, h5, h7, h8, h9, if_neg50]
          show Run T _ _ _ _
          refine Run.ret ⟨?_, rfl⟩
          first | (rw [f41, ite_f h0, ite_f h1, ite_f h2, ite_f h3, ite_f h5, ite_f h7, ite_f h8, ite_t h9]; rfl) | (rw [f41, ite_f h0, ite_f h1, ite_f h2, ite_f h3, ite_f h5, ite_f h7, ite_f h8, ite_t h9]; simp only [resV, ev_t, List.getD_cons_zero, List.getD_cons_succ, List.map_cons, List.map_nil, h0, h1, h2, h3, h5, h7, h8, h9]; done) | (simp only [f41, if_true, Bool.false_eq_true, if_false, h0, h1, h2, h3, h5, h7, h8, h9]; rfl)
         ·
          refine Run.seq ?_
          refine Run.rgn ?_
          refine RunO.all ?_
          simp only [i41r39, SB, x_bin, binV, intB, x_mov, if_true, reduceCtorEq, not_false_eq_true, h0, h1, h2, h3, h5, h7, h8, h9, if_neg50]
          show Run T _ _ _ _
          refine Run.ite (by rfl) (fun h10 => ?_) (fun h10 => ?_)
          ·
           refine Run.seq ?_
           refine Run.rgn ?_
           refine RunO.pre 3 ?_
           simp only [i41r40, List.take_succ_cons, List.take_zero, List.drop_succ_cons, List.drop_zero, SB, x_mov, h0, h1, h2, h3, h5, h7, h8, h9, h10, if_neg50]
           refine RunO.c (c50 x1 x3 _) ?_
           refine RunO.all ?_
           simp only [SB, x_bin, binV, intB, x_mov, if_true, reduceCtorEq, not_false_eq_true, if_neg_u64, if_neg_one, h0, h1, h2, h3, h5, h7, h8, h9, h10, if_neg50]
           show Run T _ _ _ _
           refine Run.ret ⟨?_, rfl⟩
           first | (rw [f41, ite_f h0, ite_f h1, ite_f h2, ite_f h3, ite_f h5, ite_f h7, ite_f h8, ite_f h9, ite_t h10]; rfl) | (rw [f41, ite_f h0, ite_f h1, ite_f h2, ite_f h3, ite_f h5, ite_f h7, ite_f h8, ite_f h9, ite_t h10]; simp only [resV, ev_t, List.getD_cons_zero, List.getD_cons_succ, List.map_cons, List.map_nil, h0, h1, h2, h3, h5, h7, h8, h9, h10]; done) | (simp only [f41, if_true, Bool.false_eq_true, if_false, h0, h1, h2, h3, h5, h7, h8, h9, h10]; rfl)
          ·
           refine Run.seq ?_
           refine Run.rgn ?_
           refine RunO.all ?_
           simp only [i41r42, SB, x_bin, binV, intB, x_mov, if_true, reduceCtorEq, not_false_eq_true, h0, h1, h2, h3, h5, h7, h8, h9, h10, if_neg50]
           show Run T _ _ _ _
           refine Run.ite (by rfl) (fun h11 => ?_) (fun h11 => ?_)
           ·
            refine Run.seq ?_
            refine Run.rgn ?_
            refine RunO.pre 3 ?_
            simp only [i41r43, List.take_succ_cons, List.take_zero, List.drop_succ_cons, List.drop_zero, SB, x_mov, h0, h1, h2, h3, h5, h7, h8, h9, h10, h11, if_neg50]
            refine RunO.c (c50 x1 x3 _) ?_
            refine RunO.all ?_
            simp only [SB, x_bin, binV, intB, x_cvt, x_mov, if_true, reduceCtorEq, not_false_eq_true, if_neg_u64, if_neg_one, h0, h1, h2, h3, h5, h7, h8, h9, h10, h11, if_neg50]
            show Run T _ _ _ _
            refine Run.ret ⟨?_, rfl⟩
            first | (rw [f41, ite_f h0, ite_f h1, ite_f h2, ite_f h3, ite_f h5, ite_f h7, ite_f h8, ite_f h9, ite_f h10, ite_t h11]; rfl) | (rw [f41, ite_f h0, ite_f h1, ite_f h2, ite_f h3, ite_f h5, ite_f h7, ite_f h8, ite_f h9, ite_f h10, ite_t h11]; simp only [resV, ev_t, List.getD_cons_zero, List.getD_cons_succ, List.map_cons, List.map_nil, h0, h1, h2, h3, h5, h7, h8, h9, h10, h11]; done) | (simp only [f41, if_true, Bool.false_eq_true, if_false, h0, h1, h2, h3, h5, h7, h8, h9, h10, h11]; rfl)
           ·
            refine Run.skip ?_
            show Run T _ _ _ _
            refine Run.seq ?_
            refine Run.rgn ?_
            refine RunO.pre 3 ?_
            simp only [i41r67, List.take_succ_cons, List.take_zero, List.drop_succ_cons, List.drop_zero, SB, x_mov, h0, h1, h2, h3, h5, h7, h8, h9, h10, h11, if_neg50]
            refine RunO.c (c51 x0 (IntKind.i64.wrap x2) (IntKind.i64.wrap x3) _) ?_
            refine RunO.all ?_
            simp only [SB, x_mov, h0, h1, h2, h3, h5, h7, h8, h9, h10, h11, if_neg50]
            show Run T _ _ _ _
            refine Run.ret ⟨?_, rfl⟩
            first | (rw [f41, ite_f h0, ite_f h1, ite_f h2, ite_f h3, ite_f h5, ite_f h7, ite_f h8, ite_f h9, ite_f h10, ite_f h11]; rfl) | (rw [f41, ite_f h0, ite_f h1, ite_f h2, ite_f h3, ite_f h5, ite_f h7, ite_f h8, ite_f h9, ite_f h10, ite_f h11]; simp only [resV, ev_t, List.getD_cons_zero, List.getD_cons_succ, List.map_cons, List.map_nil, h0, h1, h2, h3, h5, h7, h8, h9, h10, h11]; done) | (simp only [f41, if_true, Bool.false_eq_true, if_false, h0, h1, h2, h3, h5, h7, h8, h9, h10, h11]; rfl)
theorem c41 (x0 : Int) (x1 : Int) (x2 : Int) (x3 : Int) (H : Heap) : PC T H 41 [.int .u8 x0, .int .u8 x1, .int .u64 x2, .int .u64 x3] (.int .u64 (f41 x0 x1 x2 x3)) := PC.now rfl rfl (w41 x0 x1 x2 x3 )

/- smithy/scalar.floats -/
def f40 (x0 : Int) (x1 : Option Nat) (x2 : Option Nat) : Int :=
if (x0 == (1 : Int)) then
  (canon13 (flA Ieee.double.add x1 x2))
else
  if (x0 == (2 : Int)) then
    (canon13 (flA Ieee.double.sub x1 x2))
  else
    if (x0 == (3 : Int)) then
      (canon13 (flA Ieee.double.mul x1 x2))
    else
      if (x0 == (4 : Int)) then
        (canon13 (flA Ieee.double.div x1 x2))
      else
        (f49 x0 x1 x2)
theorem w40 (x0 : Int) (x1 : Option Nat) (x2 : Option Nat) (H : Heap) : Fn T 40 [.int .u8 x0, .fl x1, .fl x2] H (fun r h => r = .int .u64 (f40 x0 x1 x2) ∧ h = H) := by
  refine Fn.enter t40 ?_; simp only [i40, List.length_cons, List.length_nil, Nat.reduceAdd, Nat.reduceSub, List.replicate_succ, List.replicate_zero, List.cons_append, List.nil_append]
  refine Run.seq ?_
  refine Run.rgn ?_
  refine RunO.all ?_
  simp only [i40r0, SB, x_mov]
  show Run T _ _ _ _
  refine Run.seq ?_
  refine Run.rgn ?_
  refine RunO.all ?_
  simp only [i40r1, SB, x_mov]
  show Run T _ _ _ _
  refine Run.seq ?_
  refine Run.seq ?_
  refine Run.rgn ?_
  refine RunO.all ?_
  simp only [i40r2, SB, x_mov]
  show Run T _ _ _ _
  refine Run.block ?_
  refine Run.seq ?_
  refine Run.rgn ?_
  refine RunO.all ?_
  simp only [i40r3, SB, x_bin, binV, intB, x_mov, if_true, reduceCtorEq, not_false_eq_true]
  show Run T _ _ _ _
  refine Run.ite (by rfl) (fun h0 => ?_) (fun h0 => ?_)
  ·
   refine Run.rgn ?_
   refine RunO.all ?_
   simp only [i40r4, SB, x_fbin, fbinV, x_mov, h0]
   show Run T _ _ _ _
   refine Run.seq ?_
   refine Run.rgn ?_
   refine RunO.pre 2 ?_
   simp only [i40r23, List.take_succ_cons, List.take_zero, List.drop_succ_cons, List.drop_zero, SB, x_mov, x_xc, xc_word, xc_from, xc_trunc, wordV_some, h0]
   refine RunO.c (c13w (flA Ieee.double.add x1 x2) _) ?_
   refine RunO.all ?_
   simp only [SB, x_mov, h0]
   show Run T _ _ _ _
   refine Run.ret ⟨?_, rfl⟩
   first | (rw [f40, ite_t h0]; rfl) | (rw [f40, ite_t h0]; simp only [resV, ev_t, List.getD_cons_zero, List.getD_cons_succ, List.map_cons, List.map_nil, h0]; done) | (simp only [f40, if_true, Bool.false_eq_true, if_false, h0]; rfl)
  ·
   refine Run.seq ?_
   refine Run.rgn ?_
   refine RunO.all ?_
   simp only [i40r5, SB, x_bin, binV, intB, x_mov, if_true, reduceCtorEq, not_false_eq_true, h0]
   show Run T _ _ _ _
   refine Run.ite (by rfl) (fun h1 => ?_) (fun h1 => ?_)
   ·
    refine Run.rgn ?_
    refine RunO.all ?_
    simp only [i40r6, SB, x_fbin, fbinV, x_mov, h0, h1]
    show Run T _ _ _ _
    refine Run.seq ?_
    refine Run.rgn ?_
    refine RunO.pre 2 ?_
    simp only [i40r23, List.take_succ_cons, List.take_zero, List.drop_succ_cons, List.drop_zero, SB, x_mov, x_xc, xc_word, xc_from, xc_trunc, wordV_some, h0, h1]
    refine RunO.c (c13w (flA Ieee.double.sub x1 x2) _) ?_
    refine RunO.all ?_
    simp only [SB, x_mov, h0, h1]
    show Run T _ _ _ _
    refine Run.ret ⟨?_, rfl⟩
    first | (rw [f40, ite_f h0, ite_t h1]; rfl) | (rw [f40, ite_f h0, ite_t h1]; simp only [resV, ev_t, List.getD_cons_zero, List.getD_cons_succ, List.map_cons, List.map_nil, h0, h1]; done) | (simp only [f40, if_true, Bool.false_eq_true, if_false, h0, h1]; rfl)
   ·
    refine Run.seq ?_
    refine Run.rgn ?_
    refine RunO.all ?_
    simp only [i40r7, SB, x_bin, binV, intB, x_mov, if_true, reduceCtorEq, not_false_eq_true, h0, h1]
    show Run T _ _ _ _
    refine Run.ite (by rfl) (fun h2 => ?_) (fun h2 => ?_)
    ·
     refine Run.rgn ?_
     refine RunO.all ?_
     simp only [i40r8, SB, x_fbin, fbinV, x_mov, h0, h1, h2]
     show Run T _ _ _ _
     refine Run.seq ?_
     refine Run.rgn ?_
     refine RunO.pre 2 ?_
     simp only [i40r23, List.take_succ_cons, List.take_zero, List.drop_succ_cons, List.drop_zero, SB, x_mov, x_xc, xc_word, xc_from, xc_trunc, wordV_some, h0, h1, h2]
     refine RunO.c (c13w (flA Ieee.double.mul x1 x2) _) ?_
     refine RunO.all ?_
     simp only [SB, x_mov, h0, h1, h2]
     show Run T _ _ _ _
     refine Run.ret ⟨?_, rfl⟩
     first | (rw [f40, ite_f h0, ite_f h1, ite_t h2]; rfl) | (rw [f40, ite_f h0, ite_f h1, ite_t h2]; simp only [resV, ev_t, List.getD_cons_zero, List.getD_cons_succ, List.map_cons, List.map_nil, h0, h1, h2]; done) | (simp only [f40, if_true, Bool.false_eq_true, if_false, h0, h1, h2]; rfl)
    ·
     refine Run.seq ?_
     refine Run.rgn ?_
     refine RunO.all ?_
     simp only [i40r9, SB, x_bin, binV, intB, x_mov, if_true, reduceCtorEq, not_false_eq_true, h0, h1, h2]
     show Run T _ _ _ _
     refine Run.ite (by rfl) (fun h3 => ?_) (fun h3 => ?_)
     ·
      refine Run.rgn ?_
      refine RunO.all ?_
      simp only [i40r10, SB, x_fbin, fbinV, x_mov, h0, h1, h2, h3]
      show Run T _ _ _ _
      refine Run.seq ?_
      refine Run.rgn ?_
      refine RunO.pre 2 ?_
      simp only [i40r23, List.take_succ_cons, List.take_zero, List.drop_succ_cons, List.drop_zero, SB, x_mov, x_xc, xc_word, xc_from, xc_trunc, wordV_some, h0, h1, h2, h3]
      refine RunO.c (c13w (flA Ieee.double.div x1 x2) _) ?_
      refine RunO.all ?_
      simp only [SB, x_mov, h0, h1, h2, h3]
      show Run T _ _ _ _
      refine Run.ret ⟨?_, rfl⟩
      first | (rw [f40, ite_f h0, ite_f h1, ite_f h2, ite_t h3]; rfl) | (rw [f40, ite_f h0, ite_f h1, ite_f h2, ite_t h3]; simp only [resV, ev_t, List.getD_cons_zero, List.getD_cons_succ, List.map_cons, List.map_nil, h0, h1, h2, h3]; done) | (simp only [f40, if_true, Bool.false_eq_true, if_false, h0, h1, h2, h3]; rfl)
     ·
      refine Run.seq ?_
      refine Run.rgn ?_
      refine RunO.pre 3 ?_
      simp only [i40r11, List.take_succ_cons, List.take_zero, List.drop_succ_cons, List.drop_zero, SB, x_mov, h0, h1, h2, h3]
      refine RunO.c (c49 x0 x1 x2 _) ?_
      refine RunO.all ?_
      simp only [SB, x_mov, h0, h1, h2, h3]
      show Run T _ _ _ _
      refine Run.ret ⟨?_, rfl⟩
      first | (rw [f40, ite_f h0, ite_f h1, ite_f h2, ite_f h3]; rfl) | (rw [f40, ite_f h0, ite_f h1, ite_f h2, ite_f h3]; simp only [resV, ev_t, List.getD_cons_zero, List.getD_cons_succ, List.map_cons, List.map_nil, h0, h1, h2, h3]; done) | (simp only [f40, if_true, Bool.false_eq_true, if_false, h0, h1, h2, h3]; rfl)
theorem c40 (x0 : Int) (x1 : Option Nat) (x2 : Option Nat) (H : Heap) : PC T H 40 [.int .u8 x0, .fl x1, .fl x2] (.int .u64 (f40 x0 x1 x2)) := PC.now rfl rfl (w40 x0 x1 x2 )

end Go.Eng.Sca
