/- Functions of this seat, each with a plain function that gives the same answers (lines written by a program of this session's; no condition beyond those stated). -/
import Derived.Test.YtiacbfphlgbiiaaScaQ
namespace Go.Eng.Sca
open Go Go.Eng
set_option linter.unusedVariables false
set_option linter.unusedSimpArgs false
set_option maxRecDepth 20000
set_option maxHeartbeats 4000000

/- math.ldexp -/
theorem w64 (x0 : Nat) (x1 : Int) (n0 : (flO (f57 x0) (some 4503599627370496) == some .lt) = false)
    (o0 : (flO (some x0) (some 0) == some .eq) = false)
    (o1 : (f65 x0 (0 : Int)) = false)
    (o2 : (f66 x0) = false)
    (o3 : (decide ((IntKind.i64.wrap ((IntKind.i64.wrap (x1 + (0 : Int))) + (IntKind.i64.wrap ((IntKind.i64.wrap ((BitVec.ofInt IntKind.i64.bits (IntKind.i64.wrap (((x0 : Nat) : Int).fdiv (2 ^ (min (52 : Int).toNat IntKind.u64.bits)))) &&& BitVec.ofInt IntKind.i64.bits (2047 : Int)).toNat : Int)) - (1023 : Int))))) < (-1075 : Int))) = false)
    (o4 : (decide ((IntKind.i64.wrap ((IntKind.i64.wrap (x1 + (0 : Int))) + (IntKind.i64.wrap ((IntKind.i64.wrap ((BitVec.ofInt IntKind.i64.bits (IntKind.i64.wrap (((x0 : Nat) : Int).fdiv (2 ^ (min (52 : Int).toNat IntKind.u64.bits)))) &&& BitVec.ofInt IntKind.i64.bits (2047 : Int)).toNat : Int)) - (1023 : Int))))) > (1023 : Int))) = false)
    (o5 : (decide ((IntKind.i64.wrap ((IntKind.i64.wrap (x1 + (0 : Int))) + (IntKind.i64.wrap ((IntKind.i64.wrap ((BitVec.ofInt IntKind.i64.bits (IntKind.i64.wrap (((x0 : Nat) : Int).fdiv (2 ^ (min (52 : Int).toNat IntKind.u64.bits)))) &&& BitVec.ofInt IntKind.i64.bits (2047 : Int)).toNat : Int)) - (1023 : Int))))) < (-1022 : Int))) = false) (H : Heap) :
    Fn T 64 [.fl (some x0), .int .i64 x1] H (fun r h => r = .fl (flA Ieee.double.mul (some 4607182418800017408) (some (IntKind.u64.wrap ((BitVec.ofInt IntKind.u64.bits (IntKind.u64.wrap ((BitVec.ofInt IntKind.u64.bits ((x0 : Nat) : Int) &&& ~~~(BitVec.ofInt IntKind.u64.bits (9218868437227405312 : Int))).toNat : Int)) ||| BitVec.ofInt IntKind.u64.bits (IntKind.u64.wrap ((IntKind.u64.wrap (IntKind.i64.wrap ((IntKind.i64.wrap ((IntKind.i64.wrap (x1 + (0 : Int))) + (IntKind.i64.wrap ((IntKind.i64.wrap ((BitVec.ofInt IntKind.i64.bits (IntKind.i64.wrap (((x0 : Nat) : Int).fdiv (2 ^ (min (52 : Int).toNat IntKind.u64.bits)))) &&& BitVec.ofInt IntKind.i64.bits (2047 : Int)).toNat : Int)) - (1023 : Int))))) + (1023 : Int)))) * 2 ^ (min (52 : Int).toNat IntKind.u64.bits)))).toNat : Int)).toNat)) ∧ h = H) := by
  refine Fn.enter t64 ?_; simp only [i64, List.length_cons, List.length_nil, Nat.reduceAdd, Nat.reduceSub, List.replicate_succ, List.replicate_zero, List.cons_append, List.nil_append]
  refine Run.seq ?_
  refine Run.rgn ?_
  refine RunO.all ?_
  simp only [i64r0, SB, x_mov]
  show Run T _ _ _ _
  refine Run.seq ?_
  refine Run.block ?_
  refine Run.seq ?_
  refine Run.rgn ?_
  refine RunO.all ?_
  simp only [i64r1, SB, x_fbin, fbinV, x_mov]
  show Run T _ _ _ _
  have h0 : (flO (some x0) (some 0) == some .eq) = false := o0
  refine Run.ite (by rfl) (fun h => by rw [h0] at h; cases h) (fun _ => ?_)
  refine Run.seq ?_
  refine Run.rgn ?_
  refine RunO.pre 1 ?_
  simp only [i64r4, List.take_succ_cons, List.take_zero, List.drop_succ_cons, List.drop_zero, SB, x_mov, h0]
  refine RunO.c (c65 x0 (0 : Int) _) ?_
  refine RunO.pre 1 ?_
  simp only [List.take_succ_cons, List.take_zero, List.drop_succ_cons, List.drop_zero, SB, x_mov, h0]
  have h1 : (f65 x0 (0 : Int)) = false := o1
  refine RunO.pre 1 ?_
  simp only [List.drop_zero, List.take_succ_cons, List.take_zero, List.drop_succ_cons, List.drop_zero, SB, x_mov, exOp_gt, exOp_gf, exOp_gf2, exOp_gs, h0, h1]
  refine RunO.cg (by rfl) (c66 x0 _) ?_
  refine RunO.all ?_
  simp only [SB, x_mov, x_pick, if_true, if_false, Bool.false_eq_true, h0, h1]
  show Run T _ _ _ _
  have h2 : (f66 x0) = false := o2
  refine Run.ite (by rfl) (fun h => by rw [h2] at h; cases h) (fun _ => ?_)
  refine Run.skip ?_
  show Run T _ _ _ _
  refine Run.seq ?_
  refine Run.rgn ?_
  refine RunO.pre 1 ?_
  simp only [i64r12, List.take_succ_cons, List.take_zero, List.drop_succ_cons, List.drop_zero, SB, x_mov, h0, h1, h2]
  refine RunO.c (c67 x0 n0 _) ?_
  refine RunO.all ?_
  simp only [SB, x_ext, extV, List.getElem?_cons_zero, List.getElem?_cons_succ, x_mov, h0, h1, h2]
  show Run T _ _ _ _
  refine Run.seq ?_
  refine Run.rgn ?_
  refine RunO.all ?_
  simp only [i64r13, SB, x_bin, binV, intB, x_mov, if_true, reduceCtorEq, not_false_eq_true, h0, h1, h2]
  show Run T _ _ _ _
  refine Run.seq ?_
  refine Run.rgn ?_
  refine RunO.all ?_
  simp only [i64r14, SB, x_mov, x_xc, xc_word, xc_from, xc_trunc, wordV_some, h0, h1, h2]
  show Run T _ _ _ _
  refine Run.seq ?_
  refine Run.rgn ?_
  refine RunO.all ?_
  simp only [i64r15, SB, x_bin, binV, intB, x_cvt, x_mov, if_true, reduceCtorEq, not_false_eq_true, if_neg_u64, if_neg_one, h0, h1, h2, if_neg (show ¬ ((52 : Int) < 0) by decide)]
  show Run T _ _ _ _
  refine Run.seq ?_
  refine Run.seq ?_
  refine Run.rgn ?_
  refine RunO.all ?_
  simp only [i64r16, SB, x_bin, binV, intB, x_mov, if_true, reduceCtorEq, not_false_eq_true, h0, h1, h2]
  show Run T _ _ _ _
  have h3 : (decide ((IntKind.i64.wrap ((IntKind.i64.wrap (x1 + (0 : Int))) + (IntKind.i64.wrap ((IntKind.i64.wrap ((BitVec.ofInt IntKind.i64.bits (IntKind.i64.wrap (((x0 : Nat) : Int).fdiv (2 ^ (min (52 : Int).toNat IntKind.u64.bits)))) &&& BitVec.ofInt IntKind.i64.bits (2047 : Int)).toNat : Int)) - (1023 : Int))))) < (-1075 : Int))) = false := o3
  refine Run.ite (by rfl) (fun h => by rw [h3] at h; cases h) (fun _ => ?_)
  refine Run.skip ?_
  show Run T _ _ _ _
  refine Run.seq ?_
  refine Run.seq ?_
  refine Run.rgn ?_
  refine RunO.all ?_
  simp only [i64r21, SB, x_bin, binV, intB, x_mov, if_true, reduceCtorEq, not_false_eq_true, h0, h1, h2, h3]
  show Run T _ _ _ _
  have h4 : (decide ((IntKind.i64.wrap ((IntKind.i64.wrap (x1 + (0 : Int))) + (IntKind.i64.wrap ((IntKind.i64.wrap ((BitVec.ofInt IntKind.i64.bits (IntKind.i64.wrap (((x0 : Nat) : Int).fdiv (2 ^ (min (52 : Int).toNat IntKind.u64.bits)))) &&& BitVec.ofInt IntKind.i64.bits (2047 : Int)).toNat : Int)) - (1023 : Int))))) > (1023 : Int))) = false := o4
  refine Run.ite (by rfl) (fun h => by rw [h4] at h; cases h) (fun _ => ?_)
  refine Run.skip ?_
  show Run T _ _ _ _
  refine Run.seq ?_
  refine Run.rgn ?_
  refine RunO.all ?_
  simp only [i64r32, SB, x_mov, h0, h1, h2, h3, h4]
  show Run T _ _ _ _
  refine Run.seq ?_
  refine Run.seq ?_
  refine Run.rgn ?_
  refine RunO.all ?_
  simp only [i64r33, SB, x_bin, binV, intB, x_mov, if_true, reduceCtorEq, not_false_eq_true, h0, h1, h2, h3, h4]
  show Run T _ _ _ _
  have h5 : (decide ((IntKind.i64.wrap ((IntKind.i64.wrap (x1 + (0 : Int))) + (IntKind.i64.wrap ((IntKind.i64.wrap ((BitVec.ofInt IntKind.i64.bits (IntKind.i64.wrap (((x0 : Nat) : Int).fdiv (2 ^ (min (52 : Int).toNat IntKind.u64.bits)))) &&& BitVec.ofInt IntKind.i64.bits (2047 : Int)).toNat : Int)) - (1023 : Int))))) < (-1022 : Int))) = false := o5
  refine Run.ite (by rfl) (fun h => by rw [h5] at h; cases h) (fun _ => ?_)
  refine Run.skip ?_
  show Run T _ _ _ _
  refine Run.seq ?_
  refine Run.rgn ?_
  refine RunO.all ?_
  simp only [i64r39, SB, x_bin, binV, intB, x_mov, if_true, reduceCtorEq, not_false_eq_true, h0, h1, h2, h3, h4, h5]
  show Run T _ _ _ _
  refine Run.seq ?_
  refine Run.rgn ?_
  refine RunO.all ?_
  simp only [i64r40, SB, x_bin, binV, intB, x_cvt, x_mov, if_true, reduceCtorEq, not_false_eq_true, if_neg_u64, if_neg_one, h0, h1, h2, h3, h4, h5, if_neg (show ¬ ((52 : Int) < 0) by decide)]
  show Run T _ _ _ _
  refine Run.seq ?_
  refine Run.rgn ?_
  refine RunO.all ?_
  simp only [i64r41, SB, x_fbin, fbinV, x_mov, x_xc, xc_word, xc_from, xc_trunc, wordV_some, h0, h1, h2, h3, h4, h5]
  show Run T _ _ _ _
  refine Run.ret ⟨?_, rfl⟩
  rfl
theorem c64 (x0 : Nat) (x1 : Int) (n0 : (flO (f57 x0) (some 4503599627370496) == some .lt) = false)
    (o0 : (flO (some x0) (some 0) == some .eq) = false)
    (o1 : (f65 x0 (0 : Int)) = false)
    (o2 : (f66 x0) = false)
    (o3 : (decide ((IntKind.i64.wrap ((IntKind.i64.wrap (x1 + (0 : Int))) + (IntKind.i64.wrap ((IntKind.i64.wrap ((BitVec.ofInt IntKind.i64.bits (IntKind.i64.wrap (((x0 : Nat) : Int).fdiv (2 ^ (min (52 : Int).toNat IntKind.u64.bits)))) &&& BitVec.ofInt IntKind.i64.bits (2047 : Int)).toNat : Int)) - (1023 : Int))))) < (-1075 : Int))) = false)
    (o4 : (decide ((IntKind.i64.wrap ((IntKind.i64.wrap (x1 + (0 : Int))) + (IntKind.i64.wrap ((IntKind.i64.wrap ((BitVec.ofInt IntKind.i64.bits (IntKind.i64.wrap (((x0 : Nat) : Int).fdiv (2 ^ (min (52 : Int).toNat IntKind.u64.bits)))) &&& BitVec.ofInt IntKind.i64.bits (2047 : Int)).toNat : Int)) - (1023 : Int))))) > (1023 : Int))) = false)
    (o5 : (decide ((IntKind.i64.wrap ((IntKind.i64.wrap (x1 + (0 : Int))) + (IntKind.i64.wrap ((IntKind.i64.wrap ((BitVec.ofInt IntKind.i64.bits (IntKind.i64.wrap (((x0 : Nat) : Int).fdiv (2 ^ (min (52 : Int).toNat IntKind.u64.bits)))) &&& BitVec.ofInt IntKind.i64.bits (2047 : Int)).toNat : Int)) - (1023 : Int))))) < (-1022 : Int))) = false) (H : Heap) :
    PC T H 64 [.fl (some x0), .int .i64 x1] (.fl (flA Ieee.double.mul (some 4607182418800017408) (some (IntKind.u64.wrap ((BitVec.ofInt IntKind.u64.bits (IntKind.u64.wrap ((BitVec.ofInt IntKind.u64.bits ((x0 : Nat) : Int) &&& ~~~(BitVec.ofInt IntKind.u64.bits (9218868437227405312 : Int))).toNat : Int)) ||| BitVec.ofInt IntKind.u64.bits (IntKind.u64.wrap ((IntKind.u64.wrap (IntKind.i64.wrap ((IntKind.i64.wrap ((IntKind.i64.wrap (x1 + (0 : Int))) + (IntKind.i64.wrap ((IntKind.i64.wrap ((BitVec.ofInt IntKind.i64.bits (IntKind.i64.wrap (((x0 : Nat) : Int).fdiv (2 ^ (min (52 : Int).toNat IntKind.u64.bits)))) &&& BitVec.ofInt IntKind.i64.bits (2047 : Int)).toNat : Int)) - (1023 : Int))))) + (1023 : Int)))) * 2 ^ (min (52 : Int).toNat IntKind.u64.bits)))).toNat : Int)).toNat))) := PC.now rfl rfl (w64 x0 x1 n0 o0 o1 o2 o3 o4 o5)

end Go.Eng.Sca
