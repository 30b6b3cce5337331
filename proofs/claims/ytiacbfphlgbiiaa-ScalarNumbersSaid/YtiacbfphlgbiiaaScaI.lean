/- Functions of this seat, each with a plain function that gives the same answers (lines written by a program of this session's; no condition beyond those stated). -/
import Derived.Test.YtiacbfphlgbiiaaScaD
import Derived.Test.YtiacbfphlgbiiaaScaH
namespace Go.Eng.Sca
open Go Go.Eng
set_option linter.unusedVariables false
set_option linter.unusedSimpArgs false
set_option maxRecDepth 20000
set_option maxHeartbeats 4000000

/- smithy/smithylaw01.whole -/
def f16 (x0 : Int) : Int :=
(IntKind.u8.wrap ((2 : Int) + (x0.tmod (3 : Int))))
theorem w16 (x0 : Int) (H : Heap) : Fn T 16 [.int .u8 x0] H (fun r h => r = .int .u8 (f16 x0) ∧ h = H) := by
  refine Fn.enter t16 ?_; simp only [i16, List.length_cons, List.length_nil, Nat.reduceAdd, Nat.reduceSub, List.replicate_succ, List.replicate_zero, List.cons_append, List.nil_append]
  refine Run.seq ?_
  refine Run.rgn ?_
  refine RunO.all ?_
  simp only [i16r0, SB, x_mov]
  show Run T _ _ _ _
  refine Run.seq ?_
  refine Run.rgn ?_
  refine RunO.all ?_
  simp only [i16r1, SB, x_bin, binV, intB, x_mov, if_true, reduceCtorEq, not_false_eq_true, if_neg (show ¬ ((3 : Int) = 0) by decide)]
  show Run T _ _ _ _
  refine Run.ret ⟨?_, rfl⟩
  first | (rw [f16]; rfl) | (rw [f16]; simp only [resV, ev_t, List.getD_cons_zero, List.getD_cons_succ, List.map_cons, List.map_nil]; done) | (simp only [f16, if_true, Bool.false_eq_true, if_false]; rfl)
theorem c16 (x0 : Int) (H : Heap) : PC T H 16 [.int .u8 x0] (.int .u8 (f16 x0)) := PC.now rfl rfl (w16 x0 )

/- smithy/smithylaw01.two -/
def f17 (x0 : Int) (x1 : Int) (x2 : Int) (x3 : Int) : Int :=
if (!(f21 x0 x1 x2 x3).2) then
  (18446744073709551614 : Int)
else
  (f21 x0 x1 x2 x3).1
theorem w17 (x0 : Int) (x1 : Int) (x2 : Int) (x3 : Int) (H : Heap) : Fn T 17 [.int .u8 x0, .int .u8 x1, .int .u64 x2, .int .u64 x3] H (fun r h => r = .int .u64 (f17 x0 x1 x2 x3) ∧ h = H) := by
  refine Fn.enter t17 ?_; simp only [i17, List.length_cons, List.length_nil, Nat.reduceAdd, Nat.reduceSub, List.replicate_succ, List.replicate_zero, List.cons_append, List.nil_append]
  refine Run.seq ?_
  refine Run.rgn ?_
  refine RunO.all ?_
  simp only [i17r0, SB, x_mov]
  show Run T _ _ _ _
  refine Run.seq ?_
  refine Run.rgn ?_
  refine RunO.pre 4 ?_
  simp only [i17r1, List.take_succ_cons, List.take_zero, List.drop_succ_cons, List.drop_zero, SB, x_mov]
  refine RunO.c (c21 x0 x1 x2 x3 _) ?_
  refine RunO.all ?_
  simp only [SB, x_ext, extV, List.getElem?_cons_zero, List.getElem?_cons_succ, x_mov]
  show Run T _ _ _ _
  refine Run.seq ?_
  refine Run.seq ?_
  refine Run.rgn ?_
  refine RunO.all ?_
  simp only [i17r2, SB, x_mov, x_un, unV, intB]
  show Run T _ _ _ _
  refine Run.ite (by rfl) (fun h0 => ?_) (fun h0 => ?_)
  ·
   refine Run.seq ?_
   refine Run.rgn ?_
   refine RunO.all ?_
   simp only [i17r3, SB, x_mov, h0]
   show Run T _ _ _ _
   refine Run.ret ⟨?_, rfl⟩
   first | (rw [f17, ite_t h0]; rfl) | (rw [f17, ite_t h0]; simp only [resV, ev_t, List.getD_cons_zero, List.getD_cons_succ, List.map_cons, List.map_nil, h0]; done) | (simp only [f17, if_true, Bool.false_eq_true, if_false, h0]; rfl)
  ·
   refine Run.skip ?_
   show Run T _ _ _ _
   refine Run.seq ?_
   refine Run.rgn ?_
   refine RunO.all ?_
   simp only [i17r7, SB, x_mov, h0]
   show Run T _ _ _ _
   refine Run.ret ⟨?_, rfl⟩
   first | (rw [f17, ite_f h0]; rfl) | (rw [f17, ite_f h0]; simp only [resV, ev_t, List.getD_cons_zero, List.getD_cons_succ, List.map_cons, List.map_nil, h0]; done) | (simp only [f17, if_true, Bool.false_eq_true, if_false, h0]; rfl)
theorem c17 (x0 : Int) (x1 : Int) (x2 : Int) (x3 : Int) (H : Heap) : PC T H 17 [.int .u8 x0, .int .u8 x1, .int .u64 x2, .int .u64 x3] (.int .u64 (f17 x0 x1 x2 x3)) := PC.now rfl rfl (w17 x0 x1 x2 x3 )

/- smithy/smithylaw01.size -/
def f27 (x0 : Int) : Int :=
if (decide ((IntKind.i64.wrap x0) < (0 : Int))) then
  (IntKind.u64.wrap (0 - x0))
else
  x0
theorem w27 (x0 : Int) (H : Heap) : Fn T 27 [.int .u64 x0] H (fun r h => r = .int .u64 (f27 x0) ∧ h = H) := by
  refine Fn.enter t27 ?_; simp only [i27, List.length_cons, List.length_nil, Nat.reduceAdd, Nat.reduceSub, List.replicate_succ, List.replicate_zero, List.cons_append, List.nil_append]
  refine Run.seq ?_
  refine Run.rgn ?_
  refine RunO.all ?_
  simp only [i27r0, SB, x_mov]
  show Run T _ _ _ _
  refine Run.seq ?_
  refine Run.seq ?_
  refine Run.rgn ?_
  refine RunO.all ?_
  simp only [i27r1, SB, x_bin, binV, intB, x_cvt, x_mov, if_true, reduceCtorEq, not_false_eq_true]
  show Run T _ _ _ _
  refine Run.ite (by rfl) (fun h0 => ?_) (fun h0 => ?_)
  ·
   refine Run.seq ?_
   refine Run.rgn ?_
   refine RunO.all ?_
   simp only [i27r2, SB, x_mov, x_un, unV, intB, h0]
   show Run T _ _ _ _
   refine Run.ret ⟨?_, rfl⟩
   first | (rw [f27, ite_t h0]; rfl) | (rw [f27, ite_t h0]; simp only [resV, ev_t, List.getD_cons_zero, List.getD_cons_succ, List.map_cons, List.map_nil, h0]; done) | (simp only [f27, if_true, Bool.false_eq_true, if_false, h0]; rfl)
  ·
   refine Run.skip ?_
   show Run T _ _ _ _
   refine Run.seq ?_
   refine Run.rgn ?_
   refine RunO.all ?_
   simp only [i27r6, SB, x_mov, h0]
   show Run T _ _ _ _
   refine Run.ret ⟨?_, rfl⟩
   first | (rw [f27, ite_f h0]; rfl) | (rw [f27, ite_f h0]; simp only [resV, ev_t, List.getD_cons_zero, List.getD_cons_succ, List.map_cons, List.map_nil, h0]; done) | (simp only [f27, if_true, Bool.false_eq_true, if_false, h0]; rfl)
theorem c27 (x0 : Int) (H : Heap) : PC T H 27 [.int .u64 x0] (.int .u64 (f27 x0)) := PC.now rfl rfl (w27 x0 )

end Go.Eng.Sca
