/- Functions of this seat, each with a plain function that gives the same answers (lines written by a program of this session's; no condition beyond those stated). -/
import Derived.Test.YtiacbfphlgbiiaaScaPM
namespace Go.Eng.Sca
open Go Go.Eng
set_option linter.unusedVariables false
set_option linter.unusedSimpArgs false
set_option maxRecDepth 20000
set_option maxHeartbeats 4000000

/- math.Abs -/
def f57 (x0 : Nat) : Option Nat :=
(some (IntKind.u64.wrap ((BitVec.ofInt IntKind.u64.bits ((x0 : Nat) : Int) &&& ~~~(BitVec.ofInt IntKind.u64.bits (9223372036854775808 : Int))).toNat : Int)).toNat)
theorem w57 (x0 : Nat) (H : Heap) : Fn T 57 [.fl (some x0)] H (fun r h => r = .fl (f57 x0) ∧ h = H) := by
  refine Fn.enter t57 ?_; simp only [i57, List.length_cons, List.length_nil, Nat.reduceAdd, Nat.reduceSub, List.replicate_succ, List.replicate_zero, List.cons_append, List.nil_append]
  refine Run.seq ?_
  refine Run.rgn ?_
  refine RunO.all ?_
  simp only [i57r0, SB, x_mov]
  show Run T _ _ _ _
  refine Run.seq ?_
  refine Run.rgn ?_
  refine RunO.all ?_
  simp only [i57r1, SB, x_bin, binV, intB, x_mov, x_xc, xc_word, xc_from, xc_trunc, wordV_some, if_true, reduceCtorEq, not_false_eq_true]
  show Run T _ _ _ _
  refine Run.ret ⟨?_, rfl⟩
  first | (rw [f57]; rfl) | (rw [f57]; simp only [resV, ev_t, List.getD_cons_zero, List.getD_cons_succ, List.map_cons, List.map_nil]; done) | (simp only [f57, if_true, Bool.false_eq_true, if_false]; rfl)
theorem c57 (x0 : Nat) (H : Heap) : PC T H 57 [.fl (some x0)] (.fl (f57 x0)) := PC.now rfl rfl (w57 x0 )

/- math.IsInf -/
def f65 (x0 : Nat) (x1 : Int) : Bool :=
if (x1 == (0 : Int)) then
  (flO (f57 x0) (some 9218868437227405311) == some .gt)
else
  if (decide (x1 < (0 : Int))) then
    (flO (some (x0 ^^^ 9223372036854775808)) (some 9218868437227405311) == some .gt)
  else
    (flO (some x0) (some 9218868437227405311) == some .gt)
theorem w65 (x0 : Nat) (x1 : Int) (H : Heap) : Fn T 65 [.fl (some x0), .int .i64 x1] H (fun r h => r = .bool (f65 x0 x1) ∧ h = H) := by
  refine Fn.enter t65 ?_; simp only [i65, List.length_cons, List.length_nil, Nat.reduceAdd, Nat.reduceSub, List.replicate_succ, List.replicate_zero, List.cons_append, List.nil_append]
  refine Run.seq ?_
  refine Run.rgn ?_
  refine RunO.all ?_
  simp only [i65r0, SB, x_mov]
  show Run T _ _ _ _
  refine Run.seq ?_
  refine Run.seq ?_
  refine Run.rgn ?_
  refine RunO.all ?_
  simp only [i65r1, SB, x_bin, binV, intB, x_mov, if_true, reduceCtorEq, not_false_eq_true]
  show Run T _ _ _ _
  refine Run.ite (by rfl) (fun h0 => ?_) (fun h0 => ?_)
  ·
   refine Run.rgn ?_
   refine RunO.pre 1 ?_
   simp only [i65r2, List.take_succ_cons, List.take_zero, List.drop_succ_cons, List.drop_zero, SB, x_mov, h0]
   refine RunO.c (c57 x0 _) ?_
   refine RunO.all ?_
   simp only [SB, x_mov, h0]
   show Run T _ _ _ _
   refine Run.seq ?_
   refine Run.rgn ?_
   refine RunO.all ?_
   simp only [i65r9, SB, x_fbin, fbinV, x_mov, h0]
   show Run T _ _ _ _
   refine Run.ret ⟨?_, rfl⟩
   first | (rw [f65, ite_t h0]; rfl) | (rw [f65, ite_t h0]; simp only [resV, ev_t, List.getD_cons_zero, List.getD_cons_succ, List.map_cons, List.map_nil, h0]; done) | (simp only [f65, if_true, Bool.false_eq_true, if_false, h0]; rfl)
  ·
   refine Run.seq ?_
   refine Run.rgn ?_
   refine RunO.all ?_
   simp only [i65r3, SB, x_bin, binV, intB, x_mov, if_true, reduceCtorEq, not_false_eq_true, h0, if_neg (beq_no h0)]
   show Run T _ _ _ _
   refine Run.ite (by rfl) (fun h1 => ?_) (fun h1 => ?_)
   ·
    refine Run.rgn ?_
    refine RunO.all ?_
    simp only [i65r4, SB, x_fneg, fnegV, x_mov, h0, h1, if_neg (beq_no h0)]
    show Run T _ _ _ _
    refine Run.seq ?_
    refine Run.rgn ?_
    refine RunO.all ?_
    simp only [i65r9, SB, x_fbin, fbinV, x_mov, h0, h1, if_neg (beq_no h0)]
    show Run T _ _ _ _
    refine Run.ret ⟨?_, rfl⟩
    first | (rw [f65, ite_f h0, ite_t h1]; rfl) | (rw [f65, ite_f h0, ite_t h1]; simp only [resV, ev_t, List.getD_cons_zero, List.getD_cons_succ, List.map_cons, List.map_nil, h0, h1]; done) | (simp only [f65, if_true, Bool.false_eq_true, if_false, h0, h1]; rfl)
   ·
    refine Run.skip ?_
    show Run T _ _ _ _
    refine Run.seq ?_
    refine Run.rgn ?_
    refine RunO.all ?_
    simp only [i65r9, SB, x_fbin, fbinV, x_mov, h0, h1, if_neg (beq_no h0)]
    show Run T _ _ _ _
    refine Run.ret ⟨?_, rfl⟩
    first | (rw [f65, ite_f h0, ite_f h1]; rfl) | (rw [f65, ite_f h0, ite_f h1]; simp only [resV, ev_t, List.getD_cons_zero, List.getD_cons_succ, List.map_cons, List.map_nil, h0, h1]; done) | (simp only [f65, if_true, Bool.false_eq_true, if_false, h0, h1]; rfl)
theorem c65 (x0 : Nat) (x1 : Int) (H : Heap) : PC T H 65 [.fl (some x0), .int .i64 x1] (.bool (f65 x0 x1)) := PC.now rfl rfl (w65 x0 x1 )

/- math.IsNaN -/
def f66 (x0 : Nat) : Bool :=
(flO (some x0) (some x0) != some .eq)
theorem w66 (x0 : Nat) (H : Heap) : Fn T 66 [.fl (some x0)] H (fun r h => r = .bool (f66 x0) ∧ h = H) := by
  refine Fn.enter t66 ?_; simp only [i66, List.length_cons, List.length_nil, Nat.reduceAdd, Nat.reduceSub, List.replicate_succ, List.replicate_zero, List.cons_append, List.nil_append]
  refine Run.seq ?_
  refine Run.rgn ?_
  refine RunO.all ?_
  simp only [i66r0, SB, x_mov]
  show Run T _ _ _ _
  refine Run.seq ?_
  refine Run.rgn ?_
  refine RunO.all ?_
  simp only [i66r1, SB, x_fbin, fbinV, x_mov]
  show Run T _ _ _ _
  refine Run.ret ⟨?_, rfl⟩
  first | (rw [f66]; rfl) | (rw [f66]; simp only [resV, ev_t, List.getD_cons_zero, List.getD_cons_succ, List.map_cons, List.map_nil]; done) | (simp only [f66, if_true, Bool.false_eq_true, if_false]; rfl)
theorem c66 (x0 : Nat) (H : Heap) : PC T H 66 [.fl (some x0)] (.bool (f66 x0)) := PC.now rfl rfl (w66 x0 )

/- math.normalize -/
theorem w67 (x0 : Nat)
    (o0 : (flO (f57 x0) (some 4503599627370496) == some .lt) = false) (H : Heap) :
    Fn T 67 [.fl (some x0)] H (fun r h => r = .tup [.fl (some x0), .int .i64 (0 : Int)] ∧ h = H) := by
  refine Fn.enter t67 ?_; simp only [i67, List.length_cons, List.length_nil, Nat.reduceAdd, Nat.reduceSub, List.replicate_succ, List.replicate_zero, List.cons_append, List.nil_append]
  refine Run.seq ?_
  refine Run.rgn ?_
  refine RunO.all ?_
  simp only [i67r0, SB, x_mov]
  show Run T _ _ _ _
  refine Run.seq ?_
  refine Run.seq ?_
  refine Run.rgn ?_
  refine RunO.pre 1 ?_
  simp only [i67r1, List.take_succ_cons, List.take_zero, List.drop_succ_cons, List.drop_zero, SB, x_mov]
  refine RunO.c (c57 x0 _) ?_
  refine RunO.all ?_
  simp only [SB, x_fbin, fbinV]
  show Run T _ _ _ _
  have h0 : (flO (f57 x0) (some 4503599627370496) == some .lt) = false := o0
  refine Run.ite (by rfl) (fun h => by rw [h0] at h; cases h) (fun _ => ?_)
  refine Run.skip ?_
  show Run T _ _ _ _
  refine Run.seq ?_
  refine Run.rgn ?_
  refine RunO.all ?_
  simp only [i67r6, SB, x_mov, h0]
  show Run T _ _ _ _
  refine Run.ret ⟨?_, rfl⟩
  rfl
theorem c67 (x0 : Nat)
    (o0 : (flO (f57 x0) (some 4503599627370496) == some .lt) = false) (H : Heap) :
    PC T H 67 [.fl (some x0)] (.tup [.fl (some x0), .int .i64 (0 : Int)]) := PC.now rfl rfl (w67 x0 o0)

end Go.Eng.Sca
