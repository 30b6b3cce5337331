/- Functions of this seat, each with a plain function that gives the same answers (lines written by a program of this session's; no condition beyond those stated). -/
import Derived.Test.YtiacbfphlgbiiaaScaF
namespace Go.Eng.Sca
open Go Go.Eng
set_option linter.unusedVariables false
set_option linter.unusedSimpArgs false
set_option maxRecDepth 20000
set_option maxHeartbeats 4000000

/- smithy/smithyref01.whole -/
def f43 (x0 : Int) (x1 : Int) (x2 : Int) (x3 : Int) : Int :=
if (x0 == (1 : Int)) then
  (IntKind.u64.wrap (x2 + x3))
else
  if (x0 == (2 : Int)) then
    (IntKind.u64.wrap (x2 - x3))
  else
    if (x0 == (3 : Int)) then
      (IntKind.u64.wrap (x2 * x3))
    else
      if (x0 == (4 : Int)) then
        (f53 x2 x3).1
      else
        if (x0 == (5 : Int)) then
          (f53 x2 x3).2
        else
          if (x0 == (6 : Int)) then
            (IntKind.u64.wrap ((BitVec.ofInt IntKind.u64.bits x2 &&& BitVec.ofInt IntKind.u64.bits x3).toNat : Int))
          else
            if (x0 == (7 : Int)) then
              (IntKind.u64.wrap ((BitVec.ofInt IntKind.u64.bits x2 ||| BitVec.ofInt IntKind.u64.bits x3).toNat : Int))
            else
              if (x0 == (8 : Int)) then
                (IntKind.u64.wrap ((BitVec.ofInt IntKind.u64.bits x2 ^^^ BitVec.ofInt IntKind.u64.bits x3).toNat : Int))
              else
                if (x0 == (9 : Int)) then
                  (IntKind.u64.wrap (x2 * 2 ^ (min (f54 x1 x3).toNat IntKind.u64.bits)))
                else
                  if (x0 == (10 : Int)) then
                    (f55 x2 (f54 x1 x3))
                  else
                    if (x0 == (11 : Int)) then
                      (f52 (x2 == x3))
                    else
                      if (x0 == (12 : Int)) then
                        (f52 (x2 != x3))
                      else
                        if (x0 == (13 : Int)) then
                          (f52 (f56 x2 x3))
                        else
                          if (x0 == (14 : Int)) then
                            (f52 (!(f56 x3 x2)))
                          else
                            if (x0 == (15 : Int)) then
                              (f52 (f56 x3 x2))
                            else
                              (f52 (!(f56 x2 x3)))
theorem w43 (x0 : Int) (x1 : Int) (x2 : Int) (x3 : Int) (b0 : 0 ≤ x2) (b1 : x3 < 18446744073709551616) (b2 : 0 ≤ x3) (H : Heap) : Fn T 43 [.int .u8 x0, .int .u8 x1, .int .u64 x2, .int .u64 x3] H (fun r h => r = .int .u64 (f43 x0 x1 x2 x3) ∧ h = H) := by
  refine Fn.enter t43 ?_; simp only [i43, List.length_cons, List.length_nil, Nat.reduceAdd, Nat.reduceSub, List.replicate_succ, List.replicate_zero, List.cons_append, List.nil_append]
  refine Run.seq ?_
  refine Run.rgn ?_
  refine RunO.all ?_
  simp only [i43r0, SB, x_mov, if_neg (f54_ng b2)]
  show Run T _ _ _ _
  refine Run.seq ?_
  refine Run.rgn ?_
  refine RunO.pre 2 ?_
  simp only [i43r1, List.take_succ_cons, List.take_zero, List.drop_succ_cons, List.drop_zero, SB, x_mov, if_neg (f54_ng b2)]
  refine RunO.c (c53 x2 x3 (by first | assumption | exact f54_lt _ _) (by first | assumption | exact f54_lt _ _) _) ?_
  refine RunO.all ?_
  simp only [SB, x_ext, extV, List.getElem?_cons_zero, List.getElem?_cons_succ, x_mov, if_neg (f54_ng b2)]
  show Run T _ _ _ _
  refine Run.seq ?_
  refine Run.seq ?_
  refine Run.rgn ?_
  refine RunO.all ?_
  simp only [i43r2, SB, x_mov, if_neg (f54_ng b2)]
  show Run T _ _ _ _
  refine Run.block ?_
  refine Run.seq ?_
  refine Run.rgn ?_
  refine RunO.all ?_
  simp only [i43r3, SB, x_bin, binV, intB, x_mov, if_true, reduceCtorEq, not_false_eq_true, if_neg (f54_ng b2)]
  show Run T _ _ _ _
  refine Run.ite (by rfl) (fun h0 => ?_) (fun h0 => ?_)
  ·
   refine Run.seq ?_
   refine Run.rgn ?_
   refine RunO.all ?_
   simp only [i43r4, SB, x_bin, binV, intB, x_mov, if_true, reduceCtorEq, not_false_eq_true, h0, if_neg (f54_ng b2)]
   show Run T _ _ _ _
   refine Run.ret ⟨?_, rfl⟩
   first | (rw [f43, ite_t h0]; rfl) | (rw [f43, ite_t h0]; simp only [resV, ev_t, List.getD_cons_zero, List.getD_cons_succ, List.map_cons, List.map_nil, h0]; done) | (simp only [f43, if_true, Bool.false_eq_true, if_false, h0]; rfl)
  ·
   refine Run.seq ?_
   refine Run.rgn ?_
   refine RunO.all ?_
   simp only [i43r6, SB, x_bin, binV, intB, x_mov, if_true, reduceCtorEq, not_false_eq_true, h0, if_neg (f54_ng b2)]
   show Run T _ _ _ _
   refine Run.ite (by rfl) (fun h1 => ?_) (fun h1 => ?_)
   ·
    refine Run.seq ?_
    refine Run.rgn ?_
    refine RunO.all ?_
    simp only [i43r7, SB, x_bin, binV, intB, x_mov, if_true, reduceCtorEq, not_false_eq_true, h0, h1, if_neg (f54_ng b2)]
    show Run T _ _ _ _
    refine Run.ret ⟨?_, rfl⟩
    first | (rw [f43, ite_f h0, ite_t h1]; rfl) | (rw [f43, ite_f h0, ite_t h1]; simp only [resV, ev_t, List.getD_cons_zero, List.getD_cons_succ, List.map_cons, List.map_nil, h0, h1]; done) | (simp only [f43, if_true, Bool.false_eq_true, if_false, h0, h1]; rfl)
   ·
    refine Run.seq ?_
    refine Run.rgn ?_
    refine RunO.all ?_
    simp only [i43r9, SB, x_bin, binV, intB, x_mov, if_true, reduceCtorEq, not_false_eq_true, h0, h1, if_neg (f54_ng b2)]
    show Run T _ _ _ _
    refine Run.ite (by rfl) (fun h2 => ?_) (fun h2 => ?_)
    ·
     refine Run.seq ?_
     refine Run.rgn ?_
     refine RunO.all ?_
     simp only [i43r10, SB, x_bin, binV, intB, x_mov, if_true, reduceCtorEq, not_false_eq_true, h0, h1, h2, if_neg (f54_ng b2)]
     show Run T _ _ _ _
     refine Run.ret ⟨?_, rfl⟩
     first | (rw [f43, ite_f h0, ite_f h1, ite_t h2]; rfl) | (rw [f43, ite_f h0, ite_f h1, ite_t h2]; simp only [resV, ev_t, List.getD_cons_zero, List.getD_cons_succ, List.map_cons, List.map_nil, h0, h1, h2]; done) | (simp only [f43, if_true, Bool.false_eq_true, if_false, h0, h1, h2]; rfl)
    ·
     refine Run.seq ?_
     refine Run.rgn ?_
     refine RunO.all ?_
     simp only [i43r12, SB, x_bin, binV, intB, x_mov, if_true, reduceCtorEq, not_false_eq_true, h0, h1, h2, if_neg (f54_ng b2)]
     show Run T _ _ _ _
     refine Run.ite (by rfl) (fun h3 => ?_) (fun h3 => ?_)
     ·
      refine Run.seq ?_
      refine Run.rgn ?_
      refine RunO.all ?_
      simp only [i43r13, SB, x_mov, h0, h1, h2, h3, if_neg (f54_ng b2)]
      show Run T _ _ _ _
      refine Run.ret ⟨?_, rfl⟩
      first | (rw [f43, ite_f h0, ite_f h1, ite_f h2, ite_t h3]; rfl) | (rw [f43, ite_f h0, ite_f h1, ite_f h2, ite_t h3]; simp only [resV, ev_t, List.getD_cons_zero, List.getD_cons_succ, List.map_cons, List.map_nil, h0, h1, h2, h3]; done) | (simp only [f43, if_true, Bool.false_eq_true, if_false, h0, h1, h2, h3]; rfl)
     ·
      refine Run.seq ?_
      refine Run.rgn ?_
      refine RunO.all ?_
      simp only [i43r15, SB, x_bin, binV, intB, x_mov, if_true, reduceCtorEq, not_false_eq_true, h0, h1, h2, h3, if_neg (f54_ng b2)]
      show Run T _ _ _ _
      refine Run.ite (by rfl) (fun h4 => ?_) (fun h4 => ?_)
      ·
       refine Run.seq ?_
       refine Run.rgn ?_
       refine RunO.all ?_
       simp only [i43r16, SB, x_mov, h0, h1, h2, h3, h4, if_neg (f54_ng b2)]
       show Run T _ _ _ _
       refine Run.ret ⟨?_, rfl⟩
       first | (rw [f43, ite_f h0, ite_f h1, ite_f h2, ite_f h3, ite_t h4]; rfl) | (rw [f43, ite_f h0, ite_f h1, ite_f h2, ite_f h3, ite_t h4]; simp only [resV, ev_t, List.getD_cons_zero, List.getD_cons_succ, List.map_cons, List.map_nil, h0, h1, h2, h3, h4]; done) | (simp only [f43, if_true, Bool.false_eq_true, if_false, h0, h1, h2, h3, h4]; rfl)
      ·
       refine Run.seq ?_
       refine Run.rgn ?_
       refine RunO.all ?_
       simp only [i43r18, SB, x_bin, binV, intB, x_mov, if_true, reduceCtorEq, not_false_eq_true, h0, h1, h2, h3, h4, if_neg (f54_ng b2)]
       show Run T _ _ _ _
       refine Run.ite (by rfl) (fun h5 => ?_) (fun h5 => ?_)
       ·
        refine Run.seq ?_
        refine Run.rgn ?_
        refine RunO.all ?_
        simp only [i43r19, SB, x_bin, binV, intB, x_mov, if_true, reduceCtorEq, not_false_eq_true, h0, h1, h2, h3, h4, h5, if_neg (f54_ng b2)]
        show Run T _ _ _ _
        refine Run.ret ⟨?_, rfl⟩
        first | (rw [f43, ite_f h0, ite_f h1, ite_f h2, ite_f h3, ite_f h4, ite_t h5]; rfl) | (rw [f43, ite_f h0, ite_f h1, ite_f h2, ite_f h3, ite_f h4, ite_t h5]; simp only [resV, ev_t, List.getD_cons_zero, List.getD_cons_succ, List.map_cons, List.map_nil, h0, h1, h2, h3, h4, h5]; done) | (simp only [f43, if_true, Bool.false_eq_true, if_false, h0, h1, h2, h3, h4, h5]; rfl)
       ·
        refine Run.seq ?_
        refine Run.rgn ?_
        refine RunO.all ?_
        simp only [i43r21, SB, x_bin, binV, intB, x_mov, if_true, reduceCtorEq, not_false_eq_true, h0, h1, h2, h3, h4, h5, if_neg (f54_ng b2)]
        show Run T _ _ _ _
        refine Run.ite (by rfl) (fun h6 => ?_) (fun h6 => ?_)
        ·
         refine Run.seq ?_
         refine Run.rgn ?_
         refine RunO.all ?_
         simp only [i43r22, SB, x_bin, binV, intB, x_mov, if_true, reduceCtorEq, not_false_eq_true, h0, h1, h2, h3, h4, h5, h6, if_neg (f54_ng b2)]
         show Run T _ _ _ _
         refine Run.ret ⟨?_, rfl⟩
         first | (rw [f43, ite_f h0, ite_f h1, ite_f h2, ite_f h3, ite_f h4, ite_f h5, ite_t h6]; rfl) | (rw [f43, ite_f h0, ite_f h1, ite_f h2, ite_f h3, ite_f h4, ite_f h5, ite_t h6]; simp only [resV, ev_t, List.getD_cons_zero, List.getD_cons_succ, List.map_cons, List.map_nil, h0, h1, h2, h3, h4, h5, h6]; done) | (simp only [f43, if_true, Bool.false_eq_true, if_false, h0, h1, h2, h3, h4, h5, h6]; rfl)
        ·
         refine Run.seq ?_
         refine Run.rgn ?_
         refine RunO.all ?_
         simp only [i43r24, SB, x_bin, binV, intB, x_mov, if_true, reduceCtorEq, not_false_eq_true, h0, h1, h2, h3, h4, h5, h6, if_neg (f54_ng b2)]
         show Run T _ _ _ _
         refine Run.ite (by rfl) (fun h7 => ?_) (fun h7 => ?_)
         ·
          refine Run.seq ?_
          refine Run.rgn ?_
          refine RunO.all ?_
          simp only [i43r25, SB, x_bin, binV, intB, x_mov, if_true, reduceCtorEq, not_false_eq_true, h0, h1, h2, h3, h4, h5, h6, h7, if_neg (f54_ng b2)]
          show Run T _ _ _ _
          refine Run.ret ⟨?_, rfl⟩
          first | (rw [f43, ite_f h0, ite_f h1, ite_f h2, ite_f h3, ite_f h4, ite_f h5, ite_f h6, ite_t h7]; rfl) | (rw [f43, ite_f h0, ite_f h1, ite_f h2, ite_f h3, ite_f h4, ite_f h5, ite_f h6, ite_t h7]; simp only [resV, ev_t, List.getD_cons_zero, List.getD_cons_succ, List.map_cons, List.map_nil, h0, h1, h2, h3, h4, h5, h6, h7]; done) | (simp only [f43, if_true, Bool.false_eq_true, if_false, h0, h1, h2, h3, h4, h5, h6, h7]; rfl)
         ·
          refine Run.seq ?_
          refine Run.rgn ?_
          refine RunO.all ?_
          simp only [i43r27, SB, x_bin, binV, intB, x_mov, if_true, reduceCtorEq, not_false_eq_true, h0, h1, h2, h3, h4, h5, h6, h7, if_neg (f54_ng b2)]
          show Run T _ _ _ _
          refine Run.ite (by rfl) (fun h8 => ?_) (fun h8 => ?_)
          ·
           refine Run.seq ?_
           refine Run.rgn ?_
           refine RunO.pre 3 ?_
           simp only [i43r28, List.take_succ_cons, List.take_zero, List.drop_succ_cons, List.drop_zero, SB, x_mov, h0, h1, h2, h3, h4, h5, h6, h7, h8, if_neg (f54_ng b2)]
           refine RunO.c (c54 x1 x3 _) ?_
           refine RunO.all ?_
           simp only [SB, x_bin, binV, intB, x_mov, if_true, reduceCtorEq, not_false_eq_true, if_neg_u64, if_neg_one, h0, h1, h2, h3, h4, h5, h6, h7, h8, if_neg (f54_ng b2)]
           show Run T _ _ _ _
           refine Run.ret ⟨?_, rfl⟩
           first | (rw [f43, ite_f h0, ite_f h1, ite_f h2, ite_f h3, ite_f h4, ite_f h5, ite_f h6, ite_f h7, ite_t h8]; rfl) | (rw [f43, ite_f h0, ite_f h1, ite_f h2, ite_f h3, ite_f h4, ite_f h5, ite_f h6, ite_f h7, ite_t h8]; simp only [resV, ev_t, List.getD_cons_zero, List.getD_cons_succ, List.map_cons, List.map_nil, h0, h1, h2, h3, h4, h5, h6, h7, h8]; done) | (simp only [f43, if_true, Bool.false_eq_true, if_false, h0, h1, h2, h3, h4, h5, h6, h7, h8]; rfl)
          ·
           refine Run.seq ?_
           refine Run.rgn ?_
           refine RunO.all ?_
           simp only [i43r30, SB, x_bin, binV, intB, x_mov, if_true, reduceCtorEq, not_false_eq_true, h0, h1, h2, h3, h4, h5, h6, h7, h8, if_neg (f54_ng b2)]
           show Run T _ _ _ _
           refine Run.ite (by rfl) (fun h9 => ?_) (fun h9 => ?_)
           ·
            refine Run.seq ?_
            refine Run.rgn ?_
            refine RunO.pre 3 ?_
            simp only [i43r31, List.take_succ_cons, List.take_zero, List.drop_succ_cons, List.drop_zero, SB, x_mov, h0, h1, h2, h3, h4, h5, h6, h7, h8, h9, if_neg (f54_ng b2)]
            refine RunO.c (c54 x1 x3 _) ?_
            refine RunO.c (c55 x2 (f54 x1 x3) (by first | assumption | exact f54_lt _ _) _) ?_
            refine RunO.all ?_
            simp only [SB, x_mov, h0, h1, h2, h3, h4, h5, h6, h7, h8, h9, if_neg (f54_ng b2)]
            show Run T _ _ _ _
            refine Run.ret ⟨?_, rfl⟩
            first | (rw [f43, ite_f h0, ite_f h1, ite_f h2, ite_f h3, ite_f h4, ite_f h5, ite_f h6, ite_f h7, ite_f h8, ite_t h9]; rfl) | (rw [f43, ite_f h0, ite_f h1, ite_f h2, ite_f h3, ite_f h4, ite_f h5, ite_f h6, ite_f h7, ite_f h8, ite_t h9]; simp only [resV, ev_t, List.getD_cons_zero, List.getD_cons_succ, List.map_cons, List.map_nil, h0, h1, h2, h3, h4, h5, h6, h7, h8, h9]; done) | (simp only [f43, if_true, Bool.false_eq_true, if_false, h0, h1, h2, h3, h4, h5, h6, h7, h8, h9]; rfl)
           ·
            refine Run.seq ?_
            refine Run.rgn ?_
            refine RunO.all ?_
            simp only [i43r33, SB, x_bin, binV, intB, x_mov, if_true, reduceCtorEq, not_false_eq_true, h0, h1, h2, h3, h4, h5, h6, h7, h8, h9, if_neg (f54_ng b2)]
            show Run T _ _ _ _
            refine Run.ite (by rfl) (fun h10 => ?_) (fun h10 => ?_)
            ·
             refine Run.seq ?_
             refine Run.rgn ?_
             refine RunO.pre 3 ?_
             simp only [i43r34, List.take_succ_cons, List.take_zero, List.drop_succ_cons, List.drop_zero, SB, x_bin, binV, intB, x_mov, if_true, reduceCtorEq, not_false_eq_true, h0, h1, h2, h3, h4, h5, h6, h7, h8, h9, h10, if_neg (f54_ng b2)]
             refine RunO.c (c52 (x2 == x3) _) ?_
             refine RunO.all ?_
             simp only [SB, x_mov, h0, h1, h2, h3, h4, h5, h6, h7, h8, h9, h10, if_neg (f54_ng b2)]
             show Run T _ _ _ _
             refine Run.ret ⟨?_, rfl⟩
             first | (rw [f43, ite_f h0, ite_f h1, ite_f h2, ite_f h3, ite_f h4, ite_f h5, ite_f h6, ite_f h7, ite_f h8, ite_f h9, ite_t h10]; rfl) | (rw [f43, ite_f h0, ite_f h1, ite_f h2, ite_f h3, ite_f h4, ite_f h5, ite_f h6, ite_f h7, ite_f h8, ite_f h9, ite_t h10]; simp only [resV, ev_t, List.getD_cons_zero, List.getD_cons_succ, List.map_cons, List.map_nil, h0, h1, h2, h3, h4, h5, h6, h7, h8, h9, h10]; done) | (simp only [f43, if_true, Bool.false_eq_true, if_false, h0, h1, h2, h3, h4, h5, h6, h7, h8, h9, h10]; rfl)
            ·
             refine Run.seq ?_
             refine Run.rgn ?_
             refine RunO.all ?_
             simp only [i43r36, SB, x_bin, binV, intB, x_mov, if_true, reduceCtorEq, not_false_eq_true, h0, h1, h2, h3, h4, h5, h6, h7, h8, h9, h10, if_neg (f54_ng b2)]
             show Run T _ _ _ _
             refine Run.ite (by rfl) (fun h11 => ?_) (fun h11 => ?_)
             ·
              refine Run.seq ?_
              refine Run.rgn ?_
              refine RunO.pre 3 ?_
              simp only [i43r37, List.take_succ_cons, List.take_zero, List.drop_succ_cons, List.drop_zero, SB, x_bin, binV, intB, x_mov, if_true, reduceCtorEq, not_false_eq_true, h0, h1, h2, h3, h4, h5, h6, h7, h8, h9, h10, h11, if_neg (f54_ng b2)]
              refine RunO.c (c52 (x2 != x3) _) ?_
              refine RunO.all ?_
              simp only [SB, x_mov, h0, h1, h2, h3, h4, h5, h6, h7, h8, h9, h10, h11, if_neg (f54_ng b2)]
              show Run T _ _ _ _
              refine Run.ret ⟨?_, rfl⟩
              first | (rw [f43, ite_f h0, ite_f h1, ite_f h2, ite_f h3, ite_f h4, ite_f h5, ite_f h6, ite_f h7, ite_f h8, ite_f h9, ite_f h10, ite_t h11]; rfl) | (rw [f43, ite_f h0, ite_f h1, ite_f h2, ite_f h3, ite_f h4, ite_f h5, ite_f h6, ite_f h7, ite_f h8, ite_f h9, ite_f h10, ite_t h11]; simp only [resV, ev_t, List.getD_cons_zero, List.getD_cons_succ, List.map_cons, List.map_nil, h0, h1, h2, h3, h4, h5, h6, h7, h8, h9, h10, h11]; done) | (simp only [f43, if_true, Bool.false_eq_true, if_false, h0, h1, h2, h3, h4, h5, h6, h7, h8, h9, h10, h11]; rfl)
             ·
              refine Run.seq ?_
              refine Run.rgn ?_
              refine RunO.all ?_
              simp only [i43r39, SB, x_bin, binV, intB, x_mov, if_true, reduceCtorEq, not_false_eq_true, h0, h1, h2, h3, h4, h5, h6, h7, h8, h9, h10, h11, if_neg (f54_ng b2)]
              show Run T _ _ _ _
              refine Run.ite (by rfl) (fun h12 => ?_) (fun h12 => ?_)
              ·
               refine Run.seq ?_
               refine Run.rgn ?_
               refine RunO.pre 2 ?_
               simp only [i43r40, List.take_succ_cons, List.take_zero, List.drop_succ_cons, List.drop_zero, SB, x_mov, h0, h1, h2, h3, h4, h5, h6, h7, h8, h9, h10, h11, h12, if_neg (f54_ng b2)]
               refine RunO.c (c56 x2 x3 _) ?_
               refine RunO.c (c52 (f56 x2 x3) _) ?_
               refine RunO.all ?_
               simp only [SB, x_mov, h0, h1, h2, h3, h4, h5, h6, h7, h8, h9, h10, h11, h12, if_neg (f54_ng b2)]
               show Run T _ _ _ _
               refine Run.ret ⟨?_, rfl⟩
               first | (rw [f43, ite_f h0, ite_f h1, ite_f h2, ite_f h3, ite_f h4, ite_f h5, ite_f h6, ite_f h7, ite_f h8, ite_f h9, ite_f h10, ite_f h11, ite_t h12]; rfl) | (rw [f43, ite_f h0, ite_f h1, ite_f h2, ite_f h3, ite_f h4, ite_f h5, ite_f h6, ite_f h7, ite_f h8, ite_f h9, ite_f h10, ite_f h11, ite_t h12]; simp only [resV, ev_t, List.getD_cons_zero, List.getD_cons_succ, List.map_cons, List.map_nil, h0, h1, h2, h3, h4, h5, h6, h7, h8, h9, h10, h11, h12]; done) | (simp only [f43, if_true, Bool.false_eq_true, if_false, h0, h1, h2, h3, h4, h5, h6, h7, h8, h9, h10, h11, h12]; rfl)
              ·
               refine Run.seq ?_
               refine Run.rgn ?_
               refine RunO.all ?_
               simp only [i43r42, SB, x_bin, binV, intB, x_mov, if_true, reduceCtorEq, not_false_eq_true, h0, h1, h2, h3, h4, h5, h6, h7, h8, h9, h10, h11, h12, if_neg (f54_ng b2)]
               show Run T _ _ _ _
               refine Run.ite (by rfl) (fun h13 => ?_) (fun h13 => ?_)
               ·
                refine Run.seq ?_
                refine Run.rgn ?_
                refine RunO.pre 2 ?_
                simp only [i43r43, List.take_succ_cons, List.take_zero, List.drop_succ_cons, List.drop_zero, SB, x_mov, h0, h1, h2, h3, h4, h5, h6, h7, h8, h9, h10, h11, h12, h13, if_neg (f54_ng b2)]
                refine RunO.c (c56 x3 x2 _) ?_
                refine RunO.pre 1 ?_
                simp only [List.take_succ_cons, List.take_zero, List.drop_succ_cons, List.drop_zero, SB, x_un, unV, intB, h0, h1, h2, h3, h4, h5, h6, h7, h8, h9, h10, h11, h12, h13, if_neg (f54_ng b2)]
                refine RunO.c (c52 (!(f56 x3 x2)) _) ?_
                refine RunO.all ?_
                simp only [SB, x_mov, h0, h1, h2, h3, h4, h5, h6, h7, h8, h9, h10, h11, h12, h13, if_neg (f54_ng b2)]
                show Run T _ _ _ _
                refine Run.ret ⟨?_, rfl⟩
                first | (rw [f43, ite_f h0, ite_f h1, ite_f h2, ite_f h3, ite_f h4, ite_f h5, ite_f h6, ite_f h7, ite_f h8, ite_f h9, ite_f h10, ite_f h11, ite_f h12, ite_t h13]; rfl) | (rw [f43, ite_f h0, ite_f h1, ite_f h2, ite_f h3, ite_f h4, ite_f h5, ite_f h6, ite_f h7, ite_f h8, ite_f h9, ite_f h10, ite_f h11, ite_f h12, ite_t h13]; simp only [resV, ev_t, List.getD_cons_zero, List.getD_cons_succ, List.map_cons, List.map_nil, h0, h1, h2, h3, h4, h5, h6, h7, h8, h9, h10, h11, h12, h13]; done) | (simp only [f43, if_true, Bool.false_eq_true, if_false, h0, h1, h2, h3, h4, h5, h6, h7, h8, h9, h10, h11, h12, h13]; rfl)
               ·
                refine Run.seq ?_
                refine Run.rgn ?_
                refine RunO.all ?_
                simp only [i43r45, SB, x_bin, binV, intB, x_mov, if_true, reduceCtorEq, not_false_eq_true, h0, h1, h2, h3, h4, h5, h6, h7, h8, h9, h10, h11, h12, h13, if_neg (f54_ng b2)]
                show Run T _ _ _ _
                refine Run.ite (by rfl) (fun h14 => ?_) (fun h14 => ?_)
                ·
                 refine Run.seq ?_
                 refine Run.rgn ?_
                 refine RunO.pre 2 ?_
                 simp only [i43r46, List.take_succ_cons, List.take_zero, List.drop_succ_cons, List.drop_zero, SB, x_mov, h0, h1, h2, h3, h4, h5, h6, h7, h8, h9, h10, h11, h12, h13, h14, if_neg (f54_ng b2)]
                 refine RunO.c (c56 x3 x2 _) ?_
                 refine RunO.c (c52 (f56 x3 x2) _) ?_
                 refine RunO.all ?_
                 simp only [SB, x_mov, h0, h1, h2, h3, h4, h5, h6, h7, h8, h9, h10, h11, h12, h13, h14, if_neg (f54_ng b2)]
                 show Run T _ _ _ _
                 refine Run.ret ⟨?_, rfl⟩
                 first | (rw [f43, ite_f h0, ite_f h1, ite_f h2, ite_f h3, ite_f h4, ite_f h5, ite_f h6, ite_f h7, ite_f h8, ite_f h9, ite_f h10, ite_f h11, ite_f h12, ite_f h13, ite_t h14]; rfl) | (rw [f43, ite_f h0, ite_f h1, ite_f h2, ite_f h3, ite_f h4, ite_f h5, ite_f h6, ite_f h7, ite_f h8, ite_f h9, ite_f h10, ite_f h11, ite_f h12, ite_f h13, ite_t h14]; simp only [resV, ev_t, List.getD_cons_zero, List.getD_cons_succ, List.map_cons, List.map_nil, h0, h1, h2, h3, h4, h5, h6, h7, h8, h9, h10, h11, h12, h13, h14]; done) | (simp only [f43, if_true, Bool.false_eq_true, if_false, h0, h1, h2, h3, h4, h5, h6, h7, h8, h9, h10, h11, h12, h13, h14]; rfl)
                ·
                 refine Run.skip ?_
                 show Run T _ _ _ _
                 refine Run.seq ?_
                 refine Run.rgn ?_
                 refine RunO.pre 2 ?_
                 simp only [i43r80, List.take_succ_cons, List.take_zero, List.drop_succ_cons, List.drop_zero, SB, x_mov, h0, h1, h2, h3, h4, h5, h6, h7, h8, h9, h10, h11, h12, h13, h14, if_neg (f54_ng b2)]
                 refine RunO.c (c56 x2 x3 _) ?_
                 refine RunO.pre 1 ?_
                 simp only [List.take_succ_cons, List.take_zero, List.drop_succ_cons, List.drop_zero, SB, x_un, unV, intB, h0, h1, h2, h3, h4, h5, h6, h7, h8, h9, h10, h11, h12, h13, h14, if_neg (f54_ng b2)]
                 refine RunO.c (c52 (!(f56 x2 x3)) _) ?_
                 refine RunO.all ?_
                 simp only [SB, x_mov, h0, h1, h2, h3, h4, h5, h6, h7, h8, h9, h10, h11, h12, h13, h14, if_neg (f54_ng b2)]
                 show Run T _ _ _ _
                 refine Run.ret ⟨?_, rfl⟩
                 first | (rw [f43, ite_f h0, ite_f h1, ite_f h2, ite_f h3, ite_f h4, ite_f h5, ite_f h6, ite_f h7, ite_f h8, ite_f h9, ite_f h10, ite_f h11, ite_f h12, ite_f h13, ite_f h14]; rfl) | (rw [f43, ite_f h0, ite_f h1, ite_f h2, ite_f h3, ite_f h4, ite_f h5, ite_f h6, ite_f h7, ite_f h8, ite_f h9, ite_f h10, ite_f h11, ite_f h12, ite_f h13, ite_f h14]; simp only [resV, ev_t, List.getD_cons_zero, List.getD_cons_succ, List.map_cons, List.map_nil, h0, h1, h2, h3, h4, h5, h6, h7, h8, h9, h10, h11, h12, h13, h14]; done) | (simp only [f43, if_true, Bool.false_eq_true, if_false, h0, h1, h2, h3, h4, h5, h6, h7, h8, h9, h10, h11, h12, h13, h14]; rfl)
theorem c43 (x0 : Int) (x1 : Int) (x2 : Int) (x3 : Int) (b0 : 0 ≤ x2) (b1 : x3 < 18446744073709551616) (b2 : 0 ≤ x3) (H : Heap) : PC T H 43 [.int .u8 x0, .int .u8 x1, .int .u64 x2, .int .u64 x3] (.int .u64 (f43 x0 x1 x2 x3)) := PC.now rfl rfl (w43 x0 x1 x2 x3 b0 b1 b2)

/- smithy/smithyref01.floats -/
def f42 (x0 : Int) (x1 : Option Nat) (x2 : Option Nat) : Int :=
if (x0 == (1 : Int)) then
  (canon14 (flA Ieee.double.add x1 x2))
else
  if (x0 == (2 : Int)) then
    (canon14 (flA Ieee.double.sub x1 x2))
  else
    if (x0 == (3 : Int)) then
      (canon14 (flA Ieee.double.mul x1 x2))
    else
      if (x0 == (4 : Int)) then
        (canon14 (flA Ieee.double.div x1 x2))
      else
        if (x0 == (11 : Int)) then
          (f52 (flO x1 x2 == some .eq))
        else
          if (x0 == (12 : Int)) then
            (f52 (flO x1 x2 != some .eq))
          else
            if (x0 == (13 : Int)) then
              (f52 (flO x1 x2 == some .lt))
            else
              if (x0 == (14 : Int)) then
                (f52 (flO x1 x2 == some .lt || flO x1 x2 == some .eq))
              else
                if (x0 == (15 : Int)) then
                  (f52 (flO x1 x2 == some .gt))
                else
                  if (x0 == (16 : Int)) then
                    (f52 (flO x1 x2 == some .gt || flO x1 x2 == some .eq))
                  else
                    (f14 (5 : Int) ((0 : Nat) : Int))
theorem w42 (x0 : Int) (x1 : Option Nat) (x2 : Option Nat) (H : Heap) : Fn T 42 [.int .u8 x0, .fl x1, .fl x2] H (fun r h => r = .int .u64 (f42 x0 x1 x2) ∧ h = H) := by
  refine Fn.enter t42 ?_; simp only [i42, List.length_cons, List.length_nil, Nat.reduceAdd, Nat.reduceSub, List.replicate_succ, List.replicate_zero, List.cons_append, List.nil_append]
  refine Run.seq ?_
  refine Run.rgn ?_
  refine RunO.all ?_
  simp only [i42r0, SB, x_mov]
  show Run T _ _ _ _
  refine Run.seq ?_
  refine Run.rgn ?_
  refine RunO.all ?_
  simp only [i42r1, SB, x_mov]
  show Run T _ _ _ _
  refine Run.seq ?_
  refine Run.seq ?_
  refine Run.rgn ?_
  refine RunO.all ?_
  simp only [i42r2, SB, x_mov]
  show Run T _ _ _ _
  refine Run.block ?_
  refine Run.seq ?_
  refine Run.rgn ?_
  refine RunO.all ?_
  simp only [i42r3, SB, x_bin, binV, intB, x_mov, if_true, reduceCtorEq, not_false_eq_true]
  show Run T _ _ _ _
  refine Run.ite (by rfl) (fun h0 => ?_) (fun h0 => ?_)
  ·
   refine Run.rgn ?_
   refine RunO.all ?_
   simp only [i42r4, SB, x_fbin, fbinV, x_mov, h0]
   show Run T _ _ _ _
   refine Run.seq ?_
   refine Run.rgn ?_
   refine RunO.pre 2 ?_
   simp only [i42r51, List.take_succ_cons, List.take_zero, List.drop_succ_cons, List.drop_zero, SB, x_mov, x_xc, xc_word, xc_from, xc_trunc, wordV_some, h0]
   refine RunO.c (c14w (flA Ieee.double.add x1 x2) _) ?_
   refine RunO.all ?_
   simp only [SB, x_mov, h0]
   show Run T _ _ _ _
   refine Run.ret ⟨?_, rfl⟩
   first | (rw [f42, ite_t h0]; rfl) | (rw [f42, ite_t h0]; simp only [resV, ev_t, List.getD_cons_zero, List.getD_cons_succ, List.map_cons, List.map_nil, h0]; done) | (simp only [f42, if_true, Bool.false_eq_true, if_false, h0]; rfl)
  ·
   refine Run.seq ?_
   refine Run.rgn ?_
   refine RunO.all ?_
   simp only [i42r5, SB, x_bin, binV, intB, x_mov, if_true, reduceCtorEq, not_false_eq_true, h0]
   show Run T _ _ _ _
   refine Run.ite (by rfl) (fun h1 => ?_) (fun h1 => ?_)
   ·
    refine Run.rgn ?_
    refine RunO.all ?_
    simp only [i42r6, SB, x_fbin, fbinV, x_mov, h0, h1]
    show Run T _ _ _ _
    refine Run.seq ?_
    refine Run.rgn ?_
    refine RunO.pre 2 ?_
    simp only [i42r51, List.take_succ_cons, List.take_zero, List.drop_succ_cons, List.drop_zero, SB, x_mov, x_xc, xc_word, xc_from, xc_trunc, wordV_some, h0, h1]
    refine RunO.c (c14w (flA Ieee.double.sub x1 x2) _) ?_
    refine RunO.all ?_
    simp only [SB, x_mov, h0, h1]
    show Run T _ _ _ _
    refine Run.ret ⟨?_, rfl⟩
    first | (rw [f42, ite_f h0, ite_t h1]; rfl) | (rw [f42, ite_f h0, ite_t h1]; simp only [resV, ev_t, List.getD_cons_zero, List.getD_cons_succ, List.map_cons, List.map_nil, h0, h1]; done) | (simp only [f42, if_true, Bool.false_eq_true, if_false, h0, h1]; rfl)
   ·
    refine Run.seq ?_
    refine Run.rgn ?_
    refine RunO.all ?_
    simp only [i42r7, SB, x_bin, binV, intB, x_mov, if_true, reduceCtorEq, not_false_eq_true, h0, h1]
    show Run T _ _ _ _
    refine Run.ite (by rfl) (fun h2 => ?_) (fun h2 => ?_)
    ·
     refine Run.rgn ?_
     refine RunO.all ?_
     simp only [i42r8, SB, x_fbin, fbinV, x_mov, h0, h1, h2]
     show Run T _ _ _ _
     refine Run.seq ?_
     refine Run.rgn ?_
     refine RunO.pre 2 ?_
     simp only [i42r51, List.take_succ_cons, List.take_zero, List.drop_succ_cons, List.drop_zero, SB, x_mov, x_xc, xc_word, xc_from, xc_trunc, wordV_some, h0, h1, h2]
     refine RunO.c (c14w (flA Ieee.double.mul x1 x2) _) ?_
     refine RunO.all ?_
     simp only [SB, x_mov, h0, h1, h2]
     show Run T _ _ _ _
     refine Run.ret ⟨?_, rfl⟩
     first | (rw [f42, ite_f h0, ite_f h1, ite_t h2]; rfl) | (rw [f42, ite_f h0, ite_f h1, ite_t h2]; simp only [resV, ev_t, List.getD_cons_zero, List.getD_cons_succ, List.map_cons, List.map_nil, h0, h1, h2]; done) | (simp only [f42, if_true, Bool.false_eq_true, if_false, h0, h1, h2]; rfl)
    ·
     refine Run.seq ?_
     refine Run.rgn ?_
     refine RunO.all ?_
     simp only [i42r9, SB, x_bin, binV, intB, x_mov, if_true, reduceCtorEq, not_false_eq_true, h0, h1, h2]
     show Run T _ _ _ _
     refine Run.ite (by rfl) (fun h3 => ?_) (fun h3 => ?_)
     ·
      refine Run.rgn ?_
      refine RunO.all ?_
      simp only [i42r10, SB, x_fbin, fbinV, x_mov, h0, h1, h2, h3]
      show Run T _ _ _ _
      refine Run.seq ?_
      refine Run.rgn ?_
      refine RunO.pre 2 ?_
      simp only [i42r51, List.take_succ_cons, List.take_zero, List.drop_succ_cons, List.drop_zero, SB, x_mov, x_xc, xc_word, xc_from, xc_trunc, wordV_some, h0, h1, h2, h3]
      refine RunO.c (c14w (flA Ieee.double.div x1 x2) _) ?_
      refine RunO.all ?_
      simp only [SB, x_mov, h0, h1, h2, h3]
      show Run T _ _ _ _
      refine Run.ret ⟨?_, rfl⟩
      first | (rw [f42, ite_f h0, ite_f h1, ite_f h2, ite_t h3]; rfl) | (rw [f42, ite_f h0, ite_f h1, ite_f h2, ite_t h3]; simp only [resV, ev_t, List.getD_cons_zero, List.getD_cons_succ, List.map_cons, List.map_nil, h0, h1, h2, h3]; done) | (simp only [f42, if_true, Bool.false_eq_true, if_false, h0, h1, h2, h3]; rfl)
     ·
      refine Run.seq ?_
      refine Run.rgn ?_
      refine RunO.all ?_
      simp only [i42r11, SB, x_bin, binV, intB, x_mov, if_true, reduceCtorEq, not_false_eq_true, h0, h1, h2, h3]
      show Run T _ _ _ _
      refine Run.ite (by rfl) (fun h4 => ?_) (fun h4 => ?_)
      ·
       refine Run.seq ?_
       refine Run.rgn ?_
       refine RunO.pre 3 ?_
       simp only [i42r12, List.take_succ_cons, List.take_zero, List.drop_succ_cons, List.drop_zero, SB, x_fbin, fbinV, x_mov, h0, h1, h2, h3, h4]
       refine RunO.c (c52 (flO x1 x2 == some .eq) _) ?_
       refine RunO.all ?_
       simp only [SB, x_mov, h0, h1, h2, h3, h4]
       show Run T _ _ _ _
       refine Run.ret ⟨?_, rfl⟩
       first | (rw [f42, ite_f h0, ite_f h1, ite_f h2, ite_f h3, ite_t h4]; rfl) | (rw [f42, ite_f h0, ite_f h1, ite_f h2, ite_f h3, ite_t h4]; simp only [resV, ev_t, List.getD_cons_zero, List.getD_cons_succ, List.map_cons, List.map_nil, h0, h1, h2, h3, h4]; done) | (simp only [f42, if_true, Bool.false_eq_true, if_false, h0, h1, h2, h3, h4]; rfl)
      ·
       refine Run.seq ?_
       refine Run.rgn ?_
       refine RunO.all ?_
       simp only [i42r14, SB, x_bin, binV, intB, x_mov, if_true, reduceCtorEq, not_false_eq_true, h0, h1, h2, h3, h4]
       show Run T _ _ _ _
       refine Run.ite (by rfl) (fun h5 => ?_) (fun h5 => ?_)
       ·
        refine Run.seq ?_
        refine Run.rgn ?_
        refine RunO.pre 3 ?_
        simp only [i42r15, List.take_succ_cons, List.take_zero, List.drop_succ_cons, List.drop_zero, SB, x_fbin, fbinV, x_mov, h0, h1, h2, h3, h4, h5]
        refine RunO.c (c52 (flO x1 x2 != some .eq) _) ?_
        refine RunO.all ?_
        simp only [SB, x_mov, h0, h1, h2, h3, h4, h5]
        show Run T _ _ _ _
        refine Run.ret ⟨?_, rfl⟩
        first | (rw [f42, ite_f h0, ite_f h1, ite_f h2, ite_f h3, ite_f h4, ite_t h5]; rfl) | (rw [f42, ite_f h0, ite_f h1, ite_f h2, ite_f h3, ite_f h4, ite_t h5]; simp only [resV, ev_t, List.getD_cons_zero, List.getD_cons_succ, List.map_cons, List.map_nil, h0, h1, h2, h3, h4, h5]; done) | (simp only [f42, if_true, Bool.false_eq_true, if_false, h0, h1, h2, h3, h4, h5]; rfl)
       ·
        refine Run.seq ?_
        refine Run.rgn ?_
        refine RunO.all ?_
        simp only [i42r17, SB, x_bin, binV, intB, x_mov, if_true, reduceCtorEq, not_false_eq_true, h0, h1, h2, h3, h4, h5]
        show Run T _ _ _ _
        refine Run.ite (by rfl) (fun h6 => ?_) (fun h6 => ?_)
        ·
         refine Run.seq ?_
         refine Run.rgn ?_
         refine RunO.pre 3 ?_
         simp only [i42r18, List.take_succ_cons, List.take_zero, List.drop_succ_cons, List.drop_zero, SB, x_fbin, fbinV, x_mov, h0, h1, h2, h3, h4, h5, h6]
         refine RunO.c (c52 (flO x1 x2 == some .lt) _) ?_
         refine RunO.all ?_
         simp only [SB, x_mov, h0, h1, h2, h3, h4, h5, h6]
         show Run T _ _ _ _
         refine Run.ret ⟨?_, rfl⟩
         first | (rw [f42, ite_f h0, ite_f h1, ite_f h2, ite_f h3, ite_f h4, ite_f h5, ite_t h6]; rfl) | (rw [f42, ite_f h0, ite_f h1, ite_f h2, ite_f h3, ite_f h4, ite_f h5, ite_t h6]; simp only [resV, ev_t, List.getD_cons_zero, List.getD_cons_succ, List.map_cons, List.map_nil, h0, h1, h2, h3, h4, h5, h6]; done) | (simp only [f42, if_true, Bool.false_eq_true, if_false, h0, h1, h2, h3, h4, h5, h6]; rfl)
        ·
         refine Run.seq ?_
         refine Run.rgn ?_
         refine RunO.all ?_
         simp only [i42r20, SB, x_bin, binV, intB, x_mov, if_true, reduceCtorEq, not_false_eq_true, h0, h1, h2, h3, h4, h5, h6]
         show Run T _ _ _ _
         refine Run.ite (by rfl) (fun h7 => ?_) (fun h7 => ?_)
         ·
          refine Run.seq ?_
          refine Run.rgn ?_
          refine RunO.pre 3 ?_
          simp only [i42r21, List.take_succ_cons, List.take_zero, List.drop_succ_cons, List.drop_zero, SB, x_fbin, fbinV, x_mov, h0, h1, h2, h3, h4, h5, h6, h7]
          refine RunO.c (c52 (flO x1 x2 == some .lt || flO x1 x2 == some .eq) _) ?_
          refine RunO.all ?_
          simp only [SB, x_mov, h0, h1, h2, h3, h4, h5, h6, h7]
          show Run T _ _ _ _
          refine Run.ret ⟨?_, rfl⟩
          first | (rw [f42, ite_f h0, ite_f h1, ite_f h2, ite_f h3, ite_f h4, ite_f h5, ite_f h6, ite_t h7]; rfl) | (rw [f42, ite_f h0, ite_f h1, ite_f h2, ite_f h3, ite_f h4, ite_f h5, ite_f h6, ite_t h7]; simp only [resV, ev_t, List.getD_cons_zero, List.getD_cons_succ, List.map_cons, List.map_nil, h0, h1, h2, h3, h4, h5, h6, h7]; done) | (simp only [f42, if_true, Bool.false_eq_true, if_false, h0, h1, h2, h3, h4, h5, h6, h7]; rfl)
         ·
          refine Run.seq ?_
          refine Run.rgn ?_
          refine RunO.all ?_
          simp only [i42r23, SB, x_bin, binV, intB, x_mov, if_true, reduceCtorEq, not_false_eq_true, h0, h1, h2, h3, h4, h5, h6, h7]
          show Run T _ _ _ _
          refine Run.ite (by rfl) (fun h8 => ?_) (fun h8 => ?_)
          ·
           refine Run.seq ?_
           refine Run.rgn ?_
           refine RunO.pre 3 ?_
           simp only [i42r24, List.take_succ_cons, List.take_zero, List.drop_succ_cons, List.drop_zero, SB, x_fbin, fbinV, x_mov, h0, h1, h2, h3, h4, h5, h6, h7, h8]
           refine RunO.c (c52 (flO x1 x2 == some .gt) _) ?_
           refine RunO.all ?_
           simp only [SB, x_mov, h0, h1, h2, h3, h4, h5, h6, h7, h8]
           show Run T _ _ _ _
           refine Run.ret ⟨?_, rfl⟩
           first | (rw [f42, ite_f h0, ite_f h1, ite_f h2, ite_f h3, ite_f h4, ite_f h5, ite_f h6, ite_f h7, ite_t h8]; rfl) | (rw [f42, ite_f h0, ite_f h1, ite_f h2, ite_f h3, ite_f h4, ite_f h5, ite_f h6, ite_f h7, ite_t h8]; simp only [resV, ev_t, List.getD_cons_zero, List.getD_cons_succ, List.map_cons, List.map_nil, h0, h1, h2, h3, h4, h5, h6, h7, h8]; done) | (simp only [f42, if_true, Bool.false_eq_true, if_false, h0, h1, h2, h3, h4, h5, h6, h7, h8]; rfl)
          ·
           refine Run.seq ?_
           refine Run.rgn ?_
           refine RunO.all ?_
           simp only [i42r26, SB, x_bin, binV, intB, x_mov, if_true, reduceCtorEq, not_false_eq_true, h0, h1, h2, h3, h4, h5, h6, h7, h8]
           show Run T _ _ _ _
           refine Run.ite (by rfl) (fun h9 => ?_) (fun h9 => ?_)
           ·
            refine Run.seq ?_
            refine Run.rgn ?_
            refine RunO.pre 3 ?_
            simp only [i42r27, List.take_succ_cons, List.take_zero, List.drop_succ_cons, List.drop_zero, SB, x_fbin, fbinV, x_mov, h0, h1, h2, h3, h4, h5, h6, h7, h8, h9]
            refine RunO.c (c52 (flO x1 x2 == some .gt || flO x1 x2 == some .eq) _) ?_
            refine RunO.all ?_
            simp only [SB, x_mov, h0, h1, h2, h3, h4, h5, h6, h7, h8, h9]
            show Run T _ _ _ _
            refine Run.ret ⟨?_, rfl⟩
            first | (rw [f42, ite_f h0, ite_f h1, ite_f h2, ite_f h3, ite_f h4, ite_f h5, ite_f h6, ite_f h7, ite_f h8, ite_t h9]; rfl) | (rw [f42, ite_f h0, ite_f h1, ite_f h2, ite_f h3, ite_f h4, ite_f h5, ite_f h6, ite_f h7, ite_f h8, ite_t h9]; simp only [resV, ev_t, List.getD_cons_zero, List.getD_cons_succ, List.map_cons, List.map_nil, h0, h1, h2, h3, h4, h5, h6, h7, h8, h9]; done) | (simp only [f42, if_true, Bool.false_eq_true, if_false, h0, h1, h2, h3, h4, h5, h6, h7, h8, h9]; rfl)
           ·
            refine Run.skip ?_
            show Run T _ _ _ _
            refine Run.seq ?_
            refine Run.rgn ?_
            refine RunO.pre 2 ?_
            simp only [i42r51, List.take_succ_cons, List.take_zero, List.drop_succ_cons, List.drop_zero, SB, x_mov, x_xc, xc_word, xc_from, xc_trunc, wordV_some, h0, h1, h2, h3, h4, h5, h6, h7, h8, h9]
            refine RunO.c (c14 (5 : Int) ((0 : Nat) : Int) _) ?_
            refine RunO.all ?_
            simp only [SB, x_mov, h0, h1, h2, h3, h4, h5, h6, h7, h8, h9]
            show Run T _ _ _ _
            refine Run.ret ⟨?_, rfl⟩
            first | (rw [f42, ite_f h0, ite_f h1, ite_f h2, ite_f h3, ite_f h4, ite_f h5, ite_f h6, ite_f h7, ite_f h8, ite_f h9]; rfl) | (rw [f42, ite_f h0, ite_f h1, ite_f h2, ite_f h3, ite_f h4, ite_f h5, ite_f h6, ite_f h7, ite_f h8, ite_f h9]; simp only [resV, ev_t, List.getD_cons_zero, List.getD_cons_succ, List.map_cons, List.map_nil, h0, h1, h2, h3, h4, h5, h6, h7, h8, h9]; done) | (simp only [f42, if_true, Bool.false_eq_true, if_false, h0, h1, h2, h3, h4, h5, h6, h7, h8, h9]; rfl)
theorem c42 (x0 : Int) (x1 : Option Nat) (x2 : Option Nat) (H : Heap) : PC T H 42 [.int .u8 x0, .fl x1, .fl x2] (.int .u64 (f42 x0 x1 x2)) := PC.now rfl rfl (w42 x0 x1 x2 )

end Go.Eng.Sca
