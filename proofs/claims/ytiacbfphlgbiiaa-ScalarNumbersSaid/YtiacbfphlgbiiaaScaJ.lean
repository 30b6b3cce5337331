/- Functions of this seat, each with a plain function that gives the same answers (lines written by a program of this session's; no condition beyond those stated). -/
import Derived.Test.YtiacbfphlgbiiaaScaI
namespace Go.Eng.Sca
open Go Go.Eng
set_option linter.unusedVariables false
set_option linter.unusedSimpArgs false
set_option maxRecDepth 20000
set_option maxHeartbeats 4000000

/-- how many digits a byte has -/
def bl (n : Nat) : Nat := if n = 0 then 0 else n.log2 + 1
def tab8 (n : Int) : Int := (bl n.toNat : Int)
theorem tab_all : ∀ n, n < 256 → ((⟨#[0, 1, 2, 2, 3, 3, 3, 3, 4, 4, 4, 4, 4, 4, 4, 4, 5, 5, 5, 5, 5, 5, 5, 5, 5, 5, 5, 5, 5, 5, 5, 5, 6, 6, 6, 6, 6, 6, 6, 6, 6, 6, 6, 6, 6, 6, 6, 6, 6, 6, 6, 6, 6, 6, 6, 6, 6, 6, 6, 6, 6, 6, 6, 6, 7, 7, 7, 7, 7, 7, 7, 7, 7, 7, 7, 7, 7, 7, 7, 7, 7, 7, 7, 7, 7, 7, 7, 7, 7, 7, 7, 7, 7, 7, 7, 7, 7, 7, 7, 7, 7, 7, 7, 7, 7, 7, 7, 7, 7, 7, 7, 7, 7, 7, 7, 7, 7, 7, 7, 7, 7, 7, 7, 7, 7, 7, 7, 7, 8, 8, 8, 8, 8, 8, 8, 8, 8, 8, 8, 8, 8, 8, 8, 8, 8, 8, 8, 8, 8, 8, 8, 8, 8, 8, 8, 8, 8, 8, 8, 8, 8, 8, 8, 8, 8, 8, 8, 8, 8, 8, 8, 8, 8, 8, 8, 8, 8, 8, 8, 8, 8, 8, 8, 8, 8, 8, 8, 8, 8, 8, 8, 8, 8, 8, 8, 8, 8, 8, 8, 8, 8, 8, 8, 8, 8, 8, 8, 8, 8, 8, 8, 8, 8, 8, 8, 8, 8, 8, 8, 8, 8, 8, 8, 8, 8, 8, 8, 8, 8, 8, 8, 8, 8, 8, 8, 8, 8, 8, 8, 8, 8, 8, 8, 8, 8, 8, 8, 8, 8, 8, 8, 8, 8, 8, 8, 8]⟩ : ByteArray)[n]?).map (·.toNat) = some (bl n) := by decide +kernel
theorem idx_tab (x : Int) : idxsV (.str ⟨#[0, 1, 2, 2, 3, 3, 3, 3, 4, 4, 4, 4, 4, 4, 4, 4, 5, 5, 5, 5, 5, 5, 5, 5, 5, 5, 5, 5, 5, 5, 5, 5, 6, 6, 6, 6, 6, 6, 6, 6, 6, 6, 6, 6, 6, 6, 6, 6, 6, 6, 6, 6, 6, 6, 6, 6, 6, 6, 6, 6, 6, 6, 6, 6, 7, 7, 7, 7, 7, 7, 7, 7, 7, 7, 7, 7, 7, 7, 7, 7, 7, 7, 7, 7, 7, 7, 7, 7, 7, 7, 7, 7, 7, 7, 7, 7, 7, 7, 7, 7, 7, 7, 7, 7, 7, 7, 7, 7, 7, 7, 7, 7, 7, 7, 7, 7, 7, 7, 7, 7, 7, 7, 7, 7, 7, 7, 7, 7, 8, 8, 8, 8, 8, 8, 8, 8, 8, 8, 8, 8, 8, 8, 8, 8, 8, 8, 8, 8, 8, 8, 8, 8, 8, 8, 8, 8, 8, 8, 8, 8, 8, 8, 8, 8, 8, 8, 8, 8, 8, 8, 8, 8, 8, 8, 8, 8, 8, 8, 8, 8, 8, 8, 8, 8, 8, 8, 8, 8, 8, 8, 8, 8, 8, 8, 8, 8, 8, 8, 8, 8, 8, 8, 8, 8, 8, 8, 8, 8, 8, 8, 8, 8, 8, 8, 8, 8, 8, 8, 8, 8, 8, 8, 8, 8, 8, 8, 8, 8, 8, 8, 8, 8, 8, 8, 8, 8, 8, 8, 8, 8, 8, 8, 8, 8, 8, 8, 8, 8, 8, 8, 8, 8, 8, 8, 8, 8]⟩) (.int .u8 (IntKind.u8.wrap x)) = some (.int .u8 (tab8 (IntKind.u8.wrap x))) := by
  have h0 : 0 ≤ IntKind.u8.wrap x := by rw [IntKind.wrap_u8]; omega
  have h1 : (IntKind.u8.wrap x).toNat < 256 := by rw [IntKind.wrap_u8]; omega
  have h := tab_all _ h1
  unfold idxsV
  simp only [h0, if_true]
  simp only [Option.map_eq_some_iff] at h ⊢
  obtain ⟨b, hb, e⟩ := h
  exact ⟨b, hb, by rw [e]; rfl⟩

/- math/bits.Len64 -/
def f32 (x0 : Int) : Int :=
if (decide (x0 ≥ (4294967296 : Int))) then
  if (decide ((x0.fdiv (2 ^ (min (32 : Int).toNat IntKind.u64.bits))) ≥ (65536 : Int))) then
    if (decide (((x0.fdiv (2 ^ (min (32 : Int).toNat IntKind.u64.bits))).fdiv (2 ^ (min (16 : Int).toNat IntKind.u64.bits))) ≥ (256 : Int))) then
      (IntKind.i64.wrap ((56 : Int) + (IntKind.i64.wrap (tab8 (IntKind.u8.wrap (((x0.fdiv (2 ^ (min (32 : Int).toNat IntKind.u64.bits))).fdiv (2 ^ (min (16 : Int).toNat IntKind.u64.bits))).fdiv (2 ^ (min (8 : Int).toNat IntKind.u64.bits))))))))
    else
      (IntKind.i64.wrap ((48 : Int) + (IntKind.i64.wrap (tab8 (IntKind.u8.wrap ((x0.fdiv (2 ^ (min (32 : Int).toNat IntKind.u64.bits))).fdiv (2 ^ (min (16 : Int).toNat IntKind.u64.bits))))))))
  else
    if (decide ((x0.fdiv (2 ^ (min (32 : Int).toNat IntKind.u64.bits))) ≥ (256 : Int))) then
      (IntKind.i64.wrap ((40 : Int) + (IntKind.i64.wrap (tab8 (IntKind.u8.wrap ((x0.fdiv (2 ^ (min (32 : Int).toNat IntKind.u64.bits))).fdiv (2 ^ (min (8 : Int).toNat IntKind.u64.bits))))))))
    else
      (IntKind.i64.wrap ((32 : Int) + (IntKind.i64.wrap (tab8 (IntKind.u8.wrap (x0.fdiv (2 ^ (min (32 : Int).toNat IntKind.u64.bits))))))))
else
  if (decide (x0 ≥ (65536 : Int))) then
    if (decide ((x0.fdiv (2 ^ (min (16 : Int).toNat IntKind.u64.bits))) ≥ (256 : Int))) then
      (IntKind.i64.wrap ((24 : Int) + (IntKind.i64.wrap (tab8 (IntKind.u8.wrap ((x0.fdiv (2 ^ (min (16 : Int).toNat IntKind.u64.bits))).fdiv (2 ^ (min (8 : Int).toNat IntKind.u64.bits))))))))
    else
      (IntKind.i64.wrap ((16 : Int) + (IntKind.i64.wrap (tab8 (IntKind.u8.wrap (x0.fdiv (2 ^ (min (16 : Int).toNat IntKind.u64.bits))))))))
  else
    if (decide (x0 ≥ (256 : Int))) then
      (IntKind.i64.wrap ((8 : Int) + (IntKind.i64.wrap (tab8 (IntKind.u8.wrap (x0.fdiv (2 ^ (min (8 : Int).toNat IntKind.u64.bits))))))))
    else
      (IntKind.i64.wrap ((0 : Int) + (IntKind.i64.wrap (tab8 (IntKind.u8.wrap x0)))))
theorem w32 (x0 : Int) (H : Heap) : Fn T 32 [.int .u64 x0] H (fun r h => r = .int .i64 (f32 x0) ∧ h = H) := by
  refine Fn.enter t32 ?_; simp only [i32, List.length_cons, List.length_nil, Nat.reduceAdd, Nat.reduceSub, List.replicate_succ, List.replicate_zero, List.cons_append, List.nil_append]
  refine Run.seq ?_
  refine Run.rgn ?_
  refine RunO.all ?_
  simp only [i32r0, SB, x_mov, idx_tab]
  show Run T _ _ _ _
  refine Run.seq ?_
  refine Run.seq ?_
  refine Run.rgn ?_
  refine RunO.all ?_
  simp only [i32r1, SB, x_bin, binV, intB, x_mov, if_true, reduceCtorEq, not_false_eq_true, idx_tab]
  show Run T _ _ _ _
  refine Run.ite (by rfl) (fun h0 => ?_) (fun h0 => ?_)
  ·
   refine Run.seq ?_
   refine Run.rgn ?_
   refine RunO.all ?_
   simp only [i32r2, SB, x_bin, binV, intB, x_mov, if_true, reduceCtorEq, not_false_eq_true, if_neg_u64, if_neg_one, h0, if_neg (show ¬ ((32 : Int) < 0) by decide), idx_tab]
   show Run T _ _ _ _
   refine Run.rgn ?_
   refine RunO.all ?_
   simp only [i32r3, SB, x_mov, h0, idx_tab]
   show Run T _ _ _ _
   refine Run.seq ?_
   refine Run.seq ?_
   refine Run.rgn ?_
   refine RunO.all ?_
   simp only [i32r7, SB, x_bin, binV, intB, x_mov, if_true, reduceCtorEq, not_false_eq_true, h0, idx_tab]
   show Run T _ _ _ _
   refine Run.ite (by rfl) (fun h1 => ?_) (fun h1 => ?_)
   ·
    refine Run.seq ?_
    refine Run.rgn ?_
    refine RunO.all ?_
    simp only [i32r8, SB, x_bin, binV, intB, x_mov, if_true, reduceCtorEq, not_false_eq_true, if_neg_u64, if_neg_one, h0, h1, if_neg (show ¬ ((16 : Int) < 0) by decide), idx_tab]
    show Run T _ _ _ _
    refine Run.rgn ?_
    refine RunO.all ?_
    simp only [i32r9, SB, x_bin, binV, intB, x_mov, if_true, reduceCtorEq, not_false_eq_true, if_false, Bool.false_eq_true, Int.reduceBEq, Int.reduceBNe, Int.reduceLT, Int.reduceLE, Int.reduceGT, Int.reduceGE, decide_true, decide_false, beq_self_eq_true, bne_self_eq_false, h0, h1, idx_tab]
    show Run T _ _ _ _
    refine Run.seq ?_
    refine Run.seq ?_
    refine Run.rgn ?_
    refine RunO.all ?_
    simp only [i32r13, SB, x_bin, binV, intB, x_mov, if_true, reduceCtorEq, not_false_eq_true, h0, h1, idx_tab]
    show Run T _ _ _ _
    refine Run.ite (by rfl) (fun h2 => ?_) (fun h2 => ?_)
    ·
     refine Run.seq ?_
     refine Run.rgn ?_
     refine RunO.all ?_
     simp only [i32r14, SB, x_bin, binV, intB, x_mov, if_true, reduceCtorEq, not_false_eq_true, if_neg_u64, if_neg_one, h0, h1, h2, if_neg (show ¬ ((8 : Int) < 0) by decide), idx_tab]
     show Run T _ _ _ _
     refine Run.rgn ?_
     refine RunO.all ?_
     simp only [i32r15, SB, x_bin, binV, intB, x_mov, if_true, reduceCtorEq, not_false_eq_true, if_false, Bool.false_eq_true, Int.reduceBEq, Int.reduceBNe, Int.reduceLT, Int.reduceLE, Int.reduceGT, Int.reduceGE, decide_true, decide_false, beq_self_eq_true, bne_self_eq_false, h0, h1, h2, idx_tab]
     show Run T _ _ _ _
     refine Run.seq ?_
     refine Run.rgn ?_
     refine RunO.all ?_
     simp only [i32r19, SB, x_bin, binV, intB, x_cvt, x_idxs, x_mov, if_true, reduceCtorEq, not_false_eq_true, h0, h1, h2, idx_tab]
     show Run T _ _ _ _
     refine Run.ret ⟨?_, rfl⟩
     first | (rw [f32, ite_t h0, ite_t h1, ite_t h2]; rfl) | (rw [f32, ite_t h0, ite_t h1, ite_t h2]; simp only [resV, ev_t, List.getD_cons_zero, List.getD_cons_succ, List.map_cons, List.map_nil, h0, h1, h2]; done) | (simp only [f32, if_true, Bool.false_eq_true, if_false, h0, h1, h2]; rfl)
    ·
     refine Run.skip ?_
     show Run T _ _ _ _
     refine Run.seq ?_
     refine Run.rgn ?_
     refine RunO.all ?_
     simp only [i32r19, SB, x_bin, binV, intB, x_cvt, x_idxs, x_mov, if_true, reduceCtorEq, not_false_eq_true, h0, h1, h2, idx_tab]
     show Run T _ _ _ _
     refine Run.ret ⟨?_, rfl⟩
     first | (rw [f32, ite_t h0, ite_t h1, ite_f h2]; rfl) | (rw [f32, ite_t h0, ite_t h1, ite_f h2]; simp only [resV, ev_t, List.getD_cons_zero, List.getD_cons_succ, List.map_cons, List.map_nil, h0, h1, h2]; done) | (simp only [f32, if_true, Bool.false_eq_true, if_false, h0, h1, h2]; rfl)
   ·
    refine Run.skip ?_
    show Run T _ _ _ _
    refine Run.seq ?_
    refine Run.seq ?_
    refine Run.rgn ?_
    refine RunO.all ?_
    simp only [i32r13, SB, x_bin, binV, intB, x_mov, if_true, reduceCtorEq, not_false_eq_true, h0, h1, idx_tab]
    show Run T _ _ _ _
    refine Run.ite (by rfl) (fun h3 => ?_) (fun h3 => ?_)
    ·
     refine Run.seq ?_
     refine Run.rgn ?_
     refine RunO.all ?_
     simp only [i32r14, SB, x_bin, binV, intB, x_mov, if_true, reduceCtorEq, not_false_eq_true, if_neg_u64, if_neg_one, h0, h1, h3, if_neg (show ¬ ((8 : Int) < 0) by decide), idx_tab]
     show Run T _ _ _ _
     refine Run.rgn ?_
     refine RunO.all ?_
     simp only [i32r15, SB, x_bin, binV, intB, x_mov, if_true, reduceCtorEq, not_false_eq_true, if_false, Bool.false_eq_true, Int.reduceBEq, Int.reduceBNe, Int.reduceLT, Int.reduceLE, Int.reduceGT, Int.reduceGE, decide_true, decide_false, beq_self_eq_true, bne_self_eq_false, h0, h1, h3, idx_tab]
     show Run T _ _ _ _
     refine Run.seq ?_
     refine Run.rgn ?_
     refine RunO.all ?_
     simp only [i32r19, SB, x_bin, binV, intB, x_cvt, x_idxs, x_mov, if_true, reduceCtorEq, not_false_eq_true, h0, h1, h3, idx_tab]
     show Run T _ _ _ _
     refine Run.ret ⟨?_, rfl⟩
     first | (rw [f32, ite_t h0, ite_f h1, ite_t h3]; rfl) | (rw [f32, ite_t h0, ite_f h1, ite_t h3]; simp only [resV, ev_t, List.getD_cons_zero, List.getD_cons_succ, List.map_cons, List.map_nil, h0, h1, h3]; done) | (simp only [f32, if_true, Bool.false_eq_true, if_false, h0, h1, h3]; rfl)
    ·
     refine Run.skip ?_
     show Run T _ _ _ _
     refine Run.seq ?_
     refine Run.rgn ?_
     refine RunO.all ?_
     simp only [i32r19, SB, x_bin, binV, intB, x_cvt, x_idxs, x_mov, if_true, reduceCtorEq, not_false_eq_true, h0, h1, h3, idx_tab]
     show Run T _ _ _ _
     refine Run.ret ⟨?_, rfl⟩
     first | (rw [f32, ite_t h0, ite_f h1, ite_f h3]; rfl) | (rw [f32, ite_t h0, ite_f h1, ite_f h3]; simp only [resV, ev_t, List.getD_cons_zero, List.getD_cons_succ, List.map_cons, List.map_nil, h0, h1, h3]; done) | (simp only [f32, if_true, Bool.false_eq_true, if_false, h0, h1, h3]; rfl)
  ·
   refine Run.skip ?_
   show Run T _ _ _ _
   refine Run.seq ?_
   refine Run.seq ?_
   refine Run.rgn ?_
   refine RunO.all ?_
   simp only [i32r7, SB, x_bin, binV, intB, x_mov, if_true, reduceCtorEq, not_false_eq_true, h0, idx_tab]
   show Run T _ _ _ _
   refine Run.ite (by rfl) (fun h4 => ?_) (fun h4 => ?_)
   ·
    refine Run.seq ?_
    refine Run.rgn ?_
    refine RunO.all ?_
    simp only [i32r8, SB, x_bin, binV, intB, x_mov, if_true, reduceCtorEq, not_false_eq_true, if_neg_u64, if_neg_one, h0, h4, if_neg (show ¬ ((16 : Int) < 0) by decide), idx_tab]
    show Run T _ _ _ _
    refine Run.rgn ?_
    refine RunO.all ?_
    simp only [i32r9, SB, x_bin, binV, intB, x_mov, if_true, reduceCtorEq, not_false_eq_true, if_false, Bool.false_eq_true, Int.reduceBEq, Int.reduceBNe, Int.reduceLT, Int.reduceLE, Int.reduceGT, Int.reduceGE, decide_true, decide_false, beq_self_eq_true, bne_self_eq_false, h0, h4, idx_tab]
    show Run T _ _ _ _
    refine Run.seq ?_
    refine Run.seq ?_
    refine Run.rgn ?_
    refine RunO.all ?_
    simp only [i32r13, SB, x_bin, binV, intB, x_mov, if_true, reduceCtorEq, not_false_eq_true, h0, h4, idx_tab]
    show Run T _ _ _ _
    refine Run.ite (by rfl) (fun h5 => ?_) (fun h5 => ?_)
    ·
     refine Run.seq ?_
     refine Run.rgn ?_
     refine RunO.all ?_
     simp only [i32r14, SB, x_bin, binV, intB, x_mov, if_true, reduceCtorEq, not_false_eq_true, if_neg_u64, if_neg_one, h0, h4, h5, if_neg (show ¬ ((8 : Int) < 0) by decide), idx_tab]
     show Run T _ _ _ _
     refine Run.rgn ?_
     refine RunO.all ?_
     simp only [i32r15, SB, x_bin, binV, intB, x_mov, if_true, reduceCtorEq, not_false_eq_true, if_false, Bool.false_eq_true, Int.reduceBEq, Int.reduceBNe, Int.reduceLT, Int.reduceLE, Int.reduceGT, Int.reduceGE, decide_true, decide_false, beq_self_eq_true, bne_self_eq_false, h0, h4, h5, idx_tab]
     show Run T _ _ _ _
     refine Run.seq ?_
     refine Run.rgn ?_
     refine RunO.all ?_
     simp only [i32r19, SB, x_bin, binV, intB, x_cvt, x_idxs, x_mov, if_true, reduceCtorEq, not_false_eq_true, h0, h4, h5, idx_tab]
     show Run T _ _ _ _
     refine Run.ret ⟨?_, rfl⟩
     first | (rw [f32, ite_f h0, ite_t h4, ite_t h5]; rfl) | (rw [f32, ite_f h0, ite_t h4, ite_t h5]; simp only [resV, ev_t, List.getD_cons_zero, List.getD_cons_succ, List.map_cons, List.map_nil, h0, h4, h5]; done) | (simp only [f32, if_true, Bool.false_eq_true, if_false, h0, h4, h5]; rfl)
    ·
     refine Run.skip ?_
     show Run T _ _ _ _
     refine Run.seq ?_
     refine Run.rgn ?_
     refine RunO.all ?_
     simp only [i32r19, SB, x_bin, binV, intB, x_cvt, x_idxs, x_mov, if_true, reduceCtorEq, not_false_eq_true, h0, h4, h5, idx_tab]
     show Run T _ _ _ _
     refine Run.ret ⟨?_, rfl⟩
     first | (rw [f32, ite_f h0, ite_t h4, ite_f h5]; rfl) | (rw [f32, ite_f h0, ite_t h4, ite_f h5]; simp only [resV, ev_t, List.getD_cons_zero, List.getD_cons_succ, List.map_cons, List.map_nil, h0, h4, h5]; done) | (simp only [f32, if_true, Bool.false_eq_true, if_false, h0, h4, h5]; rfl)
   ·
    refine Run.skip ?_
    show Run T _ _ _ _
    refine Run.seq ?_
    refine Run.seq ?_
    refine Run.rgn ?_
    refine RunO.all ?_
    simp only [i32r13, SB, x_bin, binV, intB, x_mov, if_true, reduceCtorEq, not_false_eq_true, h0, h4, idx_tab]
    show Run T _ _ _ _
    refine Run.ite (by rfl) (fun h6 => ?_) (fun h6 => ?_)
    ·
     refine Run.seq ?_
     refine Run.rgn ?_
     refine RunO.all ?_
     simp only [i32r14, SB, x_bin, binV, intB, x_mov, if_true, reduceCtorEq, not_false_eq_true, if_neg_u64, if_neg_one, h0, h4, h6, if_neg (show ¬ ((8 : Int) < 0) by decide), idx_tab]
     show Run T _ _ _ _
     refine Run.rgn ?_
     refine RunO.all ?_
     simp only [i32r15, SB, x_bin, binV, intB, x_mov, if_true, reduceCtorEq, not_false_eq_true, if_false, Bool.false_eq_true, Int.reduceBEq, Int.reduceBNe, Int.reduceLT, Int.reduceLE, Int.reduceGT, Int.reduceGE, decide_true, decide_false, beq_self_eq_true, bne_self_eq_false, h0, h4, h6, idx_tab]
     show Run T _ _ _ _
     refine Run.seq ?_
     refine Run.rgn ?_
     refine RunO.all ?_
     simp only [i32r19, SB, x_bin, binV, intB, x_cvt, x_idxs, x_mov, if_true, reduceCtorEq, not_false_eq_true, h0, h4, h6, idx_tab]
     show Run T _ _ _ _
     refine Run.ret ⟨?_, rfl⟩
     first | (rw [f32, ite_f h0, ite_f h4, ite_t h6]; rfl) | (rw [f32, ite_f h0, ite_f h4, ite_t h6]; simp only [resV, ev_t, List.getD_cons_zero, List.getD_cons_succ, List.map_cons, List.map_nil, h0, h4, h6]; done) | (simp only [f32, if_true, Bool.false_eq_true, if_false, h0, h4, h6]; rfl)
    ·
     refine Run.skip ?_
     show Run T _ _ _ _
     refine Run.seq ?_
     refine Run.rgn ?_
     refine RunO.all ?_
     simp only [i32r19, SB, x_bin, binV, intB, x_cvt, x_idxs, x_mov, if_true, reduceCtorEq, not_false_eq_true, h0, h4, h6, idx_tab]
     show Run T _ _ _ _
     refine Run.ret ⟨?_, rfl⟩
     first | (rw [f32, ite_f h0, ite_f h4, ite_f h6]; rfl) | (rw [f32, ite_f h0, ite_f h4, ite_f h6]; simp only [resV, ev_t, List.getD_cons_zero, List.getD_cons_succ, List.map_cons, List.map_nil, h0, h4, h6]; done) | (simp only [f32, if_true, Bool.false_eq_true, if_false, h0, h4, h6]; rfl)
theorem c32 (x0 : Int) (H : Heap) : PC T H 32 [.int .u64 x0] (.int .i64 (f32 x0)) := PC.now rfl rfl (w32 x0 )

end Go.Eng.Sca
