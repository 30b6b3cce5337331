/- The statement of ScalarNumbers in the small machine (it has no arguments). -/
import Derived.Test.YtiacbfphlgbiiaaScaTurnsL
import Derived.Test.YtiacbfphlgbiiaaScaOpsL
import Derived.Test.YtiacbfphlgbiiaaScaWordsL
import Derived.Test.YtiacbfphlgbiiaaEngW
namespace Go.Eng.Sca
open Go Go.Eng
set_option linter.unusedVariables false
set_option linter.unusedSimpArgs false
set_option maxHeartbeats 4000000
set_option maxRecDepth 20000

theorem k9 (to from' w : Int) (hw : Wd w) (H : Heap) : PC T H 9 [.int .u8 to, .int .u8 from', .int .u64 w] (.bool true) := by
  have hw' : Wd (f14 from' w) := f14_nn hw
  exact PC.now rfl rfl (w9 to from' w hw (by rw [turn_eq to from' hw]; simp) (by rw [turn_eq to from' hw]; simp) (by rw [turns_eq]; simp) (by rw [fitsb_eq to from' hw]; simp)
    (by rw [turn_eq to from' hw']; simp) (by rw [turn_eq to from' hw']; simp) (by rw [fitsb_eq to from' hw']; simp))
theorem k5 (op t a b : Int) (ha : Wd a) (hb : Wd b) (H : Heap) : PC T H 5 [.int .u8 op, .int .u8 t, .int .u64 a, .int .u64 b] (.bool true) := by
  have ha' : Wd (f14 t a) := f14_nn ha
  have hb' : Wd (f14 t b) := f14_nn hb
  exact PC.now rfl rfl (w5 op t a b ha.1 hb.2 hb.1 ha.2 (by rw [of_eq]; simp) (by rw [of_eq]; simp) (by rw [two_eq op t ha hb]; simp) (by rw [two_eq op t ha hb]; simp)
    (by rw [one_eq op t ha]; simp) (by rw [one_eq op t ha]; simp) (by rw [stops_eq]; simp) (by rw [two_eq op t ha' hb']; simp) (by rw [two_eq op t ha' hb']; simp)
    (by rw [one_eq op t ha']; simp) (by rw [one_eq op t ha']; simp) (by rw [stops_eq]; simp))
theorem k3 (t w : Int) (h : Wd w) (H : Heap) : PC T H 3 [.int .u8 t, .int .u64 w] (.bool true) :=
  PC.now rfl rfl (w3 t w (by rw [f11_12 h]; simp) (by rw [f13_14 h]; simp))

def endsL : List Int := [0, 1, 2, 7, 8, 9, 63, 64, 127, 128, 255, 256, 2147483647, 2147483648, 4294967296, 9007199254740993, 9223372036854775807, 9223372036854775808, 9223372036854775809, 18446744073709551615, 18446744073709551614, 18446744071562067968, 18446744071562067967, 9221120237041090560, 9221120237041090561, 18444492273895866368, 9218868437227405312, 18442240474082181120, 4602678819172646912, 13829653735729319117, 4643207697381772493, 4643211215818981376, 4746794007246405632, 4746794007248502784, 13970166044105166029, 13970166044105375744, 4890909195324358656, 4890909195324358655, 14114281232179134464, 14114281232179134465, 9094988921128908188, 13837084675114480435, 1]
def hE : Heap := [(15, endsL.map (V.int .u64))]
def sE : V := .sl 0 15 0 43 1 false
def envE : List V := [.un, .int .u64 18446744073709551615, .sl 0 15 0 43 1 false, .fz [.fl (some 4602678819172646912), .fl (some 13829653735729319117), .fl (some 4643207697381772493), .fl (some 4643211215818981376), .fl (some 4746794007246405632), .fl (some 4746794007248502784), .fl (some 13970166044105166029), .fl (some 13970166044105375744), .fl (some 4890909195324358656), .fl (some 4890909195324358655), .fl (some 14114281232179134464), .fl (some 14114281232179134465), .fl (some 9094988921128908188), .fl (some 13837084675114480435), .fl (some 1)], .int .i64 15, .un, .un, .un, .un, .un, .un, .un, .un, .un, .un, .un, .un, .un, .un, .un, .un, .un, .un, .un, .un, .int .i64 15, .fz [.fl (some 4602678819172646912), .fl (some 13829653735729319117), .fl (some 4643207697381772493), .fl (some 4643211215818981376), .fl (some 4746794007246405632), .fl (some 4746794007248502784), .fl (some 13970166044105166029), .fl (some 13970166044105375744), .fl (some 4890909195324358656), .fl (some 4890909195324358655), .fl (some 14114281232179134464), .fl (some 14114281232179134465), .fl (some 9094988921128908188), .fl (some 13837084675114480435), .fl (some 1)], .int .i64 15, .bool false, .un, .un, .un, .un, .un, .un, .un, .un, .un, .un, .un, .un, .un, .un, .un, .un, .un, .un, .un, .un, .un, .un, .un, .un, .un, .un, .un, .un, .un, .un, .un, .un, .un, .un, .un, .un, .un, .un, .un, .un, .un, .un, .un, .un, .un, .un, .un, .un, .un, .un, .un, .un, .un, .un, .un, .un, .un, .un, .un, .un, .un, .un, .un, .un, .un, .un, .un, .un, .un, .un, .un, .un, .un, .un, .un, .un, .un, .un, .un, .un, .un, .un, .un, .un, .un, .un, .un, .un, .un, .un, .un, .un, .un, .un, .un, .un, .un, .un, .un, .un, .un, .un, .un, .un, .un, .un, .un, .un, .un, .un, .un, .un, .un, .un, .un]
theorem ends_wd : ∀ i, i < 43 → 0 ≤ endsL.getD i 0 ∧ endsL.getD i 0 < 18446744073709551616 := by decide
theorem ends_ld {i : Nat} (h : i < 43) : ldV hE (.ptr 0 15 i) none = some (.int .u64 (endsL.getD i 0)) := by
  refine ld_at (cs := endsL.map (V.int .u64)) rfl ?_
  have hl : i < endsL.length := h
  simp [List.getD, hl]
theorem ends_ix {i : Nat} (h : i < 43) : idxaV sE (.int .i64 (i : Int)) 1 false = some (.ptr 0 15 i) := idx_sl h
theorem ends_len : lenV false sE = some (.int .i64 43) := rfl

/-- some texts, one behind the other -/
def seqs : List Ir → Ir → Ir
  | [], r => r
  | a :: l, r => .seq a (seqs l r)
theorem run_seqs {T : Nat → Option IFun} {k : Nat} {rest : Ir} {e : List V} {h : Heap} {Q : X → List V → Heap → Prop} : ∀ (xs : List Ir) {j : Nat} {env : List V} {H : Heap},
    exec (exF T k) j (Sca.seqs xs .skip) env H = some (.nrm, e, h) → Run T rest e h Q → Run T (Sca.seqs xs rest) env H Q
  | [], j, env, H, hx, hr => by
    cases j with
    | zero => simp [exec] at hx
    | succ j =>
      simp only [Sca.seqs, exec, Option.some.injEq, Prod.mk.injEq] at hx
      obtain ⟨_, rfl, rfl⟩ := hx
      exact hr
  | a :: l, j, env, H, hx, hr => by
    cases j with
    | zero => simp [exec] at hx
    | succ j =>
      simp only [Sca.seqs, exec] at hx
      cases h1 : exec (exF T k) j a env H with
      | none => rw [h1] at hx; simp at hx
      | some q =>
        obtain ⟨x, e1, H1⟩ := q
        rw [h1] at hx
        cases x with
        | nrm =>
          refine Run.seq ⟨max k j, .nrm, e1, H1, ?_, run_seqs l hx hr⟩
          exact exec_mono (exF_mono k (Nat.le_max_left k j)) j (Nat.le_max_right k j) h1
        | ret => simp at hx
        | ext i => simp at hx

theorem pre_E : exec (exF T 100) 100 (Sca.seqs [.rgn i10r0, .rgn i10r1, .rgn i10r2, .rgn i10r3, i10n15] .skip) (List.replicate 144 .un) [] = some (.nrm, envE, hE) := by kernel_rfl

/-- a closed text that ends in 'true' -/
def says (r : Option (X × List V × Heap)) : Bool := match r with
  | some (.ret, e, _) => (match resV [0] e with | .bool b => b | _ => false)
  | _ => false
theorem says_run {T : Nat → Option IFun} {k j : Nat} {ir : Ir} {env : List V} {H : Heap} (h : says (exec (exF T k) j ir env H) = true) : Run T ir env H (fin [0] fun r h => r = .bool true) := by
  unfold says at h
  split at h
  · rename_i e h' he
    refine ⟨max k j, .ret, e, h', exec_mono (exF_mono k (Nat.le_max_left k j)) j (Nat.le_max_right k j) he, ?_⟩
    show resV [0] e = .bool true
    split at h
    · rename_i b hb; rw [hb, h]
    · cases h
  · cases h
theorem post_E : says (exec (exF T 100) 100 i10n99 (((i10e85 (.int .u64 18446744073709551615) sE (.int .u8 7)).set 39 (.int .u8 7)).set 40 (.bool false)) hE) = true := by decide +kernel

theorem u8_succ {t : Nat} (h : t < 255) : IntKind.u8.wrap ((t : Int) + 1) = (t : Int) + 1 := by rw [IntKind.wrap_u8]; omega
theorem i64_succ {t : Nat} (h : t < 1000) : IntKind.i64.wrap ((t : Int) + 1) = (t : Int) + 1 := by rw [IntKind.wrap_i64]; omega

theorem numbers : Fn T 10 [] [] (fun r h => r = .bool true) := by
  refine Fn.enter t10 ?_
  show Run T (Sca.seqs [.rgn i10r0, .rgn i10r1, .rgn i10r2, .rgn i10r3, i10n15] i10n100) (List.replicate 144 .un) [] _
  refine run_seqs _ pre_E ?_
  refine Run.seq (Run.seq ?_)
  simp only [envE]
  refine Run.rgn (RunO.all ?_); simp only [i10r16, exOps_nil, exOps_cons, bindO_some, mapQ_some, mapW_some, x_mov, x_pick, x_bin, x_un, x_cvt, x_ld, x_b2s, x_idxa, x_idxs, x_fld, x_flda, x_boxf, x_boxr, x_bld, x_bslf, x_slc, x_len, x_ext, x_nchk, x_mkf, x_mki, x_fbin, x_fneg, x_i2f, x_f2i, x_xc, x_eqs, xl_ld, xl_b2s, x_st, x_boxh, x_alloc, x_bslh, x_mks, x_app, exOp_gt, exOp_gf, exOp_gf2, exOp_gs, put_some, put_none, ev_t, ev_c, List.getD_cons_zero, List.getD_cons_succ, List.set_cons_zero, List.set_cons_succ, Option.map_some, Option.map_none, optB_some, if_true, Bool.false_eq_true, if_false, ne_eq, reduceCtorEq, not_false_eq_true, not_true_eq_false, Bool.true_eq_false, len_vis, lenV_fz, lenV_sl, lenV_nils, lenV_str, binV, intB, unV, ld_fp_int, ld_fp_bool, ld_fp_str, ld_fp_fz, ld_fp_vis, ld_fp_sl, ld_fp_nils, ld_fp_ptr, ld_fp_fpp, ld_fp_nilp, ld_bx_int, ld_bx_bool, ld_bx_str, ld_bx_fz, ld_bx_vis, ld_bx_sl, ld_bx_nils, ld_bx_ptr, ld_bx_fpp, ld_bx_nilp, List.length_cons, List.length_nil, beq_self_eq_true, Bool.and_self, Bool.and_true, Bool.true_and]
  refine Run.block ?_
  refine Run.loopc (fun n e h => ∃ t : Nat, t ≤ 7 ∧ n = 7 - t ∧ h = hE ∧ e = i10e85 (.int .u64 18446744073709551615) sE (.int .u8 t)) _ ⟨0, by omega, rfl, rfl, (by simp only [clrEnv, List.set_cons_zero, List.set_cons_succ, vi, vis, Int.natCast_zero, Int.natCast_add, Int.natCast_one, i10e85, sE])⟩ ?_
  rintro n e h ⟨t, ht, rfl, rfl, rfl⟩
  simp only [i10e85]
  refine Run.seq (Run.seq ?_)
  refine Run.rgn (RunO.all ?_); simp only [i10r17, exOps_nil, exOps_cons, bindO_some, mapQ_some, mapW_some, x_mov, x_pick, x_bin, x_un, x_cvt, x_ld, x_b2s, x_idxa, x_idxs, x_fld, x_flda, x_boxf, x_boxr, x_bld, x_bslf, x_slc, x_len, x_ext, x_nchk, x_mkf, x_mki, x_fbin, x_fneg, x_i2f, x_f2i, x_xc, x_eqs, xl_ld, xl_b2s, x_st, x_boxh, x_alloc, x_bslh, x_mks, x_app, exOp_gt, exOp_gf, exOp_gf2, exOp_gs, put_some, put_none, ev_t, ev_c, List.getD_cons_zero, List.getD_cons_succ, List.set_cons_zero, List.set_cons_succ, Option.map_some, Option.map_none, optB_some, if_true, Bool.false_eq_true, if_false, ne_eq, reduceCtorEq, not_false_eq_true, not_true_eq_false, Bool.true_eq_false, len_vis, lenV_fz, lenV_sl, lenV_nils, lenV_str, binV, intB, unV, ld_fp_int, ld_fp_bool, ld_fp_str, ld_fp_fz, ld_fp_vis, ld_fp_sl, ld_fp_nils, ld_fp_ptr, ld_fp_fpp, ld_fp_nilp, ld_bx_int, ld_bx_bool, ld_bx_str, ld_bx_fz, ld_bx_vis, ld_bx_sl, ld_bx_nils, ld_bx_ptr, ld_bx_fpp, ld_bx_nilp, List.length_cons, List.length_nil, beq_self_eq_true, Bool.and_self, Bool.and_true, Bool.true_and]
  refine Run.ite (by rfl) (fun hlt => ?_) (fun hge => ?_)
  · have hlt : t < 7 := by have := of_decide_eq_true hlt; omega
    refine Run.skip (Run.seq (Run.block (Run.seq ?_)))
    refine Run.rgn (RunO.all ?_); simp only [i10r20, exOps_nil, exOps_cons, bindO_some, mapQ_some, mapW_some, x_mov, x_pick, x_bin, x_un, x_cvt, x_ld, x_b2s, x_idxa, x_idxs, x_fld, x_flda, x_boxf, x_boxr, x_bld, x_bslf, x_slc, x_len, x_ext, x_nchk, x_mkf, x_mki, x_fbin, x_fneg, x_i2f, x_f2i, x_xc, x_eqs, xl_ld, xl_b2s, x_st, x_boxh, x_alloc, x_bslh, x_mks, x_app, exOp_gt, exOp_gf, exOp_gf2, exOp_gs, put_some, put_none, ev_t, ev_c, List.getD_cons_zero, List.getD_cons_succ, List.set_cons_zero, List.set_cons_succ, Option.map_some, Option.map_none, optB_some, if_true, Bool.false_eq_true, if_false, ne_eq, reduceCtorEq, not_false_eq_true, not_true_eq_false, Bool.true_eq_false, len_vis, lenV_fz, lenV_sl, lenV_nils, lenV_str, binV, intB, unV, ld_fp_int, ld_fp_bool, ld_fp_str, ld_fp_fz, ld_fp_vis, ld_fp_sl, ld_fp_nils, ld_fp_ptr, ld_fp_fpp, ld_fp_nilp, ld_bx_int, ld_bx_bool, ld_bx_str, ld_bx_fz, ld_bx_vis, ld_bx_sl, ld_bx_nils, ld_bx_ptr, ld_bx_fpp, ld_bx_nilp, List.length_cons, List.length_nil, beq_self_eq_true, Bool.and_self, Bool.and_true, Bool.true_and]
    refine Run.block ?_
    refine Run.loopc (fun n e h => ∃ i : Nat, i ≤ 43 ∧ n = 43 - i ∧ h = hE ∧ e = i10e78 (.int .u64 18446744073709551615) sE (.int .u8 t) (.int .i64 i)) _ ⟨0, by omega, rfl, rfl, (by simp only [clrEnv, List.set_cons_zero, List.set_cons_succ, vi, vis, Int.natCast_zero, Int.natCast_add, Int.natCast_one, i10e78, sE])⟩ ?_
    rintro n e h ⟨i, hi, rfl, rfl, rfl⟩
    simp only [i10e78]
    refine Run.seq (Run.seq ?_)
    refine Run.rgn (RunO.all ?_); simp only [i10r21, exOps_nil, exOps_cons, bindO_some, mapQ_some, mapW_some, x_mov, x_pick, x_bin, x_un, x_cvt, x_ld, x_b2s, x_idxa, x_idxs, x_fld, x_flda, x_boxf, x_boxr, x_bld, x_bslf, x_slc, x_len, x_ext, x_nchk, x_mkf, x_mki, x_fbin, x_fneg, x_i2f, x_f2i, x_xc, x_eqs, xl_ld, xl_b2s, x_st, x_boxh, x_alloc, x_bslh, x_mks, x_app, exOp_gt, exOp_gf, exOp_gf2, exOp_gs, put_some, put_none, ev_t, ev_c, List.getD_cons_zero, List.getD_cons_succ, List.set_cons_zero, List.set_cons_succ, Option.map_some, Option.map_none, optB_some, if_true, Bool.false_eq_true, if_false, ne_eq, reduceCtorEq, not_false_eq_true, not_true_eq_false, Bool.true_eq_false, len_vis, lenV_fz, lenV_sl, lenV_nils, lenV_str, binV, intB, unV, ld_fp_int, ld_fp_bool, ld_fp_str, ld_fp_fz, ld_fp_vis, ld_fp_sl, ld_fp_nils, ld_fp_ptr, ld_fp_fpp, ld_fp_nilp, ld_bx_int, ld_bx_bool, ld_bx_str, ld_bx_fz, ld_bx_vis, ld_bx_sl, ld_bx_nils, ld_bx_ptr, ld_bx_fpp, ld_bx_nilp, List.length_cons, List.length_nil, beq_self_eq_true, Bool.and_self, Bool.and_true, Bool.true_and, ends_len]
    refine Run.ite (by rfl) (fun hlt2 => ?_) (fun hge2 => ?_)
    · have hlt2 : i < 43 := by have := of_decide_eq_true hlt2; omega
      have hw : Wd (endsL.getD i 0) := ends_wd i hlt2
      have hx := ends_ix hlt2
      have hd := ends_ld hlt2
      refine Run.skip (Run.seq (Run.block (Run.seq (Run.seq ?_))))
      refine Run.rgn (RunO.all ?_); simp only [i10r24, exOps_nil, exOps_cons, bindO_some, mapQ_some, mapW_some, x_mov, x_pick, x_bin, x_un, x_cvt, x_ld, x_b2s, x_idxa, x_idxs, x_fld, x_flda, x_boxf, x_boxr, x_bld, x_bslf, x_slc, x_len, x_ext, x_nchk, x_mkf, x_mki, x_fbin, x_fneg, x_i2f, x_f2i, x_xc, x_eqs, xl_ld, xl_b2s, x_st, x_boxh, x_alloc, x_bslh, x_mks, x_app, exOp_gt, exOp_gf, exOp_gf2, exOp_gs, put_some, put_none, ev_t, ev_c, List.getD_cons_zero, List.getD_cons_succ, List.set_cons_zero, List.set_cons_succ, Option.map_some, Option.map_none, optB_some, if_true, Bool.false_eq_true, if_false, ne_eq, reduceCtorEq, not_false_eq_true, not_true_eq_false, Bool.true_eq_false, len_vis, lenV_fz, lenV_sl, lenV_nils, lenV_str, binV, intB, unV, ld_fp_int, ld_fp_bool, ld_fp_str, ld_fp_fz, ld_fp_vis, ld_fp_sl, ld_fp_nils, ld_fp_ptr, ld_fp_fpp, ld_fp_nilp, ld_bx_int, ld_bx_bool, ld_bx_str, ld_bx_fz, ld_bx_vis, ld_bx_sl, ld_bx_nils, ld_bx_ptr, ld_bx_fpp, ld_bx_nilp, List.length_cons, List.length_nil, beq_self_eq_true, Bool.and_self, Bool.and_true, Bool.true_and]
      refine Run.block ?_
      refine Run.loopc (fun n e h => ∃ q : Nat, q ≤ 7 ∧ n = 7 - q ∧ h = hE ∧ e = i10e37 (.int .u64 18446744073709551615) sE (.int .u8 t) (.int .i64 i) (.int .u8 q)) _ ⟨0, by omega, rfl, rfl, (by simp only [clrEnv, List.set_cons_zero, List.set_cons_succ, vi, vis, Int.natCast_zero, Int.natCast_add, Int.natCast_one, i10e37, sE])⟩ ?_
      rintro n e h ⟨q, hq, rfl, rfl, rfl⟩
      simp only [i10e37]
      refine Run.seq (Run.seq ?_)
      refine Run.rgn (RunO.all ?_); simp only [i10r25, exOps_nil, exOps_cons, bindO_some, mapQ_some, mapW_some, x_mov, x_pick, x_bin, x_un, x_cvt, x_ld, x_b2s, x_idxa, x_idxs, x_fld, x_flda, x_boxf, x_boxr, x_bld, x_bslf, x_slc, x_len, x_ext, x_nchk, x_mkf, x_mki, x_fbin, x_fneg, x_i2f, x_f2i, x_xc, x_eqs, xl_ld, xl_b2s, x_st, x_boxh, x_alloc, x_bslh, x_mks, x_app, exOp_gt, exOp_gf, exOp_gf2, exOp_gs, put_some, put_none, ev_t, ev_c, List.getD_cons_zero, List.getD_cons_succ, List.set_cons_zero, List.set_cons_succ, Option.map_some, Option.map_none, optB_some, if_true, Bool.false_eq_true, if_false, ne_eq, reduceCtorEq, not_false_eq_true, not_true_eq_false, Bool.true_eq_false, len_vis, lenV_fz, lenV_sl, lenV_nils, lenV_str, binV, intB, unV, ld_fp_int, ld_fp_bool, ld_fp_str, ld_fp_fz, ld_fp_vis, ld_fp_sl, ld_fp_nils, ld_fp_ptr, ld_fp_fpp, ld_fp_nilp, ld_bx_int, ld_bx_bool, ld_bx_str, ld_bx_fz, ld_bx_vis, ld_bx_sl, ld_bx_nils, ld_bx_ptr, ld_bx_fpp, ld_bx_nilp, List.length_cons, List.length_nil, beq_self_eq_true, Bool.and_self, Bool.and_true, Bool.true_and]
      refine Run.ite (by rfl) (fun hlt3 => ?_) (fun hge3 => ?_)
      · have hlt3 : q < 7 := by have := of_decide_eq_true hlt3; omega
        refine Run.skip (Run.seq (Run.block (Run.seq (Run.rgn ?_))))
        refine RunO.pre 6 ?_; simp only [i10r28, List.take_succ_cons, List.take_zero, List.drop_succ_cons, List.drop_zero, exOps_nil, exOps_cons, bindO_some, mapQ_some, mapW_some, x_mov, x_pick, x_bin, x_un, x_cvt, x_ld, x_b2s, x_idxa, x_idxs, x_fld, x_flda, x_boxf, x_boxr, x_bld, x_bslf, x_slc, x_len, x_ext, x_nchk, x_mkf, x_mki, x_fbin, x_fneg, x_i2f, x_f2i, x_xc, x_eqs, xl_ld, xl_b2s, x_st, x_boxh, x_alloc, x_bslh, x_mks, x_app, exOp_gt, exOp_gf, exOp_gf2, exOp_gs, put_some, put_none, ev_t, ev_c, List.getD_cons_zero, List.getD_cons_succ, List.set_cons_zero, List.set_cons_succ, Option.map_some, Option.map_none, optB_some, if_true, Bool.false_eq_true, if_false, ne_eq, reduceCtorEq, not_false_eq_true, not_true_eq_false, Bool.true_eq_false, len_vis, lenV_fz, lenV_sl, lenV_nils, lenV_str, binV, intB, unV, ld_fp_int, ld_fp_bool, ld_fp_str, ld_fp_fz, ld_fp_vis, ld_fp_sl, ld_fp_nils, ld_fp_ptr, ld_fp_fpp, ld_fp_nilp, ld_bx_int, ld_bx_bool, ld_bx_str, ld_bx_fz, ld_bx_vis, ld_bx_sl, ld_bx_nils, ld_bx_ptr, ld_bx_fpp, ld_bx_nilp, List.length_cons, List.length_nil, beq_self_eq_true, Bool.and_self, Bool.and_true, Bool.true_and, hx, hd]
        refine RunO.c (k9 q t (endsL.getD i 0) hw _) ?_
        refine RunO.all ?_; simp only [exOps_nil, exOps_cons, bindO_some, mapQ_some, mapW_some, x_mov, x_pick, x_bin, x_un, x_cvt, x_ld, x_b2s, x_idxa, x_idxs, x_fld, x_flda, x_boxf, x_boxr, x_bld, x_bslf, x_slc, x_len, x_ext, x_nchk, x_mkf, x_mki, x_fbin, x_fneg, x_i2f, x_f2i, x_xc, x_eqs, xl_ld, xl_b2s, x_st, x_boxh, x_alloc, x_bslh, x_mks, x_app, exOp_gt, exOp_gf, exOp_gf2, exOp_gs, put_some, put_none, ev_t, ev_c, List.getD_cons_zero, List.getD_cons_succ, List.set_cons_zero, List.set_cons_succ, Option.map_some, Option.map_none, optB_some, if_true, Bool.false_eq_true, if_false, ne_eq, reduceCtorEq, not_false_eq_true, not_true_eq_false, Bool.true_eq_false, len_vis, lenV_fz, lenV_sl, lenV_nils, lenV_str, binV, intB, unV, ld_fp_int, ld_fp_bool, ld_fp_str, ld_fp_fz, ld_fp_vis, ld_fp_sl, ld_fp_nils, ld_fp_ptr, ld_fp_fpp, ld_fp_nilp, ld_bx_int, ld_bx_bool, ld_bx_str, ld_bx_fz, ld_bx_vis, ld_bx_sl, ld_bx_nils, ld_bx_ptr, ld_bx_fpp, ld_bx_nilp, List.length_cons, List.length_nil, beq_self_eq_true, Bool.and_self, Bool.and_true, Bool.true_and, unV]
        refine Run.ite (by rfl) (fun h => by cases h) (fun _ => ?_)
        refine Run.skip ?_
        refine Run.rgn (RunO.all ?_); simp only [i10r34, exOps_nil, exOps_cons, bindO_some, mapQ_some, mapW_some, x_mov, x_pick, x_bin, x_un, x_cvt, x_ld, x_b2s, x_idxa, x_idxs, x_fld, x_flda, x_boxf, x_boxr, x_bld, x_bslf, x_slc, x_len, x_ext, x_nchk, x_mkf, x_mki, x_fbin, x_fneg, x_i2f, x_f2i, x_xc, x_eqs, xl_ld, xl_b2s, x_st, x_boxh, x_alloc, x_bslh, x_mks, x_app, exOp_gt, exOp_gf, exOp_gf2, exOp_gs, put_some, put_none, ev_t, ev_c, List.getD_cons_zero, List.getD_cons_succ, List.set_cons_zero, List.set_cons_succ, Option.map_some, Option.map_none, optB_some, if_true, Bool.false_eq_true, if_false, ne_eq, reduceCtorEq, not_false_eq_true, not_true_eq_false, Bool.true_eq_false, len_vis, lenV_fz, lenV_sl, lenV_nils, lenV_str, binV, intB, unV, ld_fp_int, ld_fp_bool, ld_fp_str, ld_fp_fz, ld_fp_vis, ld_fp_sl, ld_fp_nils, ld_fp_ptr, ld_fp_fpp, ld_fp_nilp, ld_bx_int, ld_bx_bool, ld_bx_str, ld_bx_fz, ld_bx_vis, ld_bx_sl, ld_bx_nils, ld_bx_ptr, ld_bx_fpp, ld_bx_nilp, List.length_cons, List.length_nil, beq_self_eq_true, Bool.and_self, Bool.and_true, Bool.true_and, u8_succ (show q < 255 by omega)]
        exact ⟨7 - (q + 1), by omega, q + 1, by omega, rfl, rfl, (by simp only [clrEnv, List.set_cons_zero, List.set_cons_succ, vi, vis, Int.natCast_zero, Int.natCast_add, Int.natCast_one, i10e37, sE])⟩
      refine Run.exit ?_
      show Run T _ _ _ _
      refine Run.seq (Run.seq ?_)
      refine Run.rgn (RunO.all ?_); simp only [i10r40, exOps_nil, exOps_cons, bindO_some, mapQ_some, mapW_some, x_mov, x_pick, x_bin, x_un, x_cvt, x_ld, x_b2s, x_idxa, x_idxs, x_fld, x_flda, x_boxf, x_boxr, x_bld, x_bslf, x_slc, x_len, x_ext, x_nchk, x_mkf, x_mki, x_fbin, x_fneg, x_i2f, x_f2i, x_xc, x_eqs, xl_ld, xl_b2s, x_st, x_boxh, x_alloc, x_bslh, x_mks, x_app, exOp_gt, exOp_gf, exOp_gf2, exOp_gs, put_some, put_none, ev_t, ev_c, List.getD_cons_zero, List.getD_cons_succ, List.set_cons_zero, List.set_cons_succ, Option.map_some, Option.map_none, optB_some, if_true, Bool.false_eq_true, if_false, ne_eq, reduceCtorEq, not_false_eq_true, not_true_eq_false, Bool.true_eq_false, len_vis, lenV_fz, lenV_sl, lenV_nils, lenV_str, binV, intB, unV, ld_fp_int, ld_fp_bool, ld_fp_str, ld_fp_fz, ld_fp_vis, ld_fp_sl, ld_fp_nils, ld_fp_ptr, ld_fp_fpp, ld_fp_nilp, ld_bx_int, ld_bx_bool, ld_bx_str, ld_bx_fz, ld_bx_vis, ld_bx_sl, ld_bx_nils, ld_bx_ptr, ld_bx_fpp, ld_bx_nilp, List.length_cons, List.length_nil, beq_self_eq_true, Bool.and_self, Bool.and_true, Bool.true_and]
      refine Run.block ?_
      refine Run.loopc (fun n e h => ∃ q : Nat, q ≤ 22 ∧ n = 22 - q ∧ h = hE ∧ e = i10e64 (.int .u64 18446744073709551615) sE (.int .u8 t) (.int .i64 i) (.int .i64 q)) _ ⟨0, by omega, rfl, rfl, (by simp only [clrEnv, List.set_cons_zero, List.set_cons_succ, vi, vis, Int.natCast_zero, Int.natCast_add, Int.natCast_one, i10e64, sE])⟩ ?_
      rintro n e h ⟨k, hk, rfl, rfl, rfl⟩
      simp only [i10e64]
      refine Run.seq (Run.seq ?_)
      refine Run.rgn (RunO.all ?_); simp only [i10r41, exOps_nil, exOps_cons, bindO_some, mapQ_some, mapW_some, x_mov, x_pick, x_bin, x_un, x_cvt, x_ld, x_b2s, x_idxa, x_idxs, x_fld, x_flda, x_boxf, x_boxr, x_bld, x_bslf, x_slc, x_len, x_ext, x_nchk, x_mkf, x_mki, x_fbin, x_fneg, x_i2f, x_f2i, x_xc, x_eqs, xl_ld, xl_b2s, x_st, x_boxh, x_alloc, x_bslh, x_mks, x_app, exOp_gt, exOp_gf, exOp_gf2, exOp_gs, put_some, put_none, ev_t, ev_c, List.getD_cons_zero, List.getD_cons_succ, List.set_cons_zero, List.set_cons_succ, Option.map_some, Option.map_none, optB_some, if_true, Bool.false_eq_true, if_false, ne_eq, reduceCtorEq, not_false_eq_true, not_true_eq_false, Bool.true_eq_false, len_vis, lenV_fz, lenV_sl, lenV_nils, lenV_str, binV, intB, unV, ld_fp_int, ld_fp_bool, ld_fp_str, ld_fp_fz, ld_fp_vis, ld_fp_sl, ld_fp_nils, ld_fp_ptr, ld_fp_fpp, ld_fp_nilp, ld_bx_int, ld_bx_bool, ld_bx_str, ld_bx_fz, ld_bx_vis, ld_bx_sl, ld_bx_nils, ld_bx_ptr, ld_bx_fpp, ld_bx_nilp, List.length_cons, List.length_nil, beq_self_eq_true, Bool.and_self, Bool.and_true, Bool.true_and]
      refine Run.ite (by rfl) (fun hlt4 => ?_) (fun hge4 => ?_)
      · have hlt4 : k < 22 := by have := of_decide_eq_true hlt4; omega
        have hw2 : Wd (endsL.getD k 0) := ends_wd k (by omega)
        have hx2 := ends_ix (show k < 43 by omega)
        have hd2 := ends_ld (show k < 43 by omega)
        refine Run.skip (Run.seq (Run.block (Run.seq ?_)))
        refine Run.rgn (RunO.all ?_); simp only [i10r44, exOps_nil, exOps_cons, bindO_some, mapQ_some, mapW_some, x_mov, x_pick, x_bin, x_un, x_cvt, x_ld, x_b2s, x_idxa, x_idxs, x_fld, x_flda, x_boxf, x_boxr, x_bld, x_bslf, x_slc, x_len, x_ext, x_nchk, x_mkf, x_mki, x_fbin, x_fneg, x_i2f, x_f2i, x_xc, x_eqs, xl_ld, xl_b2s, x_st, x_boxh, x_alloc, x_bslh, x_mks, x_app, exOp_gt, exOp_gf, exOp_gf2, exOp_gs, put_some, put_none, ev_t, ev_c, List.getD_cons_zero, List.getD_cons_succ, List.set_cons_zero, List.set_cons_succ, Option.map_some, Option.map_none, optB_some, if_true, Bool.false_eq_true, if_false, ne_eq, reduceCtorEq, not_false_eq_true, not_true_eq_false, Bool.true_eq_false, len_vis, lenV_fz, lenV_sl, lenV_nils, lenV_str, binV, intB, unV, ld_fp_int, ld_fp_bool, ld_fp_str, ld_fp_fz, ld_fp_vis, ld_fp_sl, ld_fp_nils, ld_fp_ptr, ld_fp_fpp, ld_fp_nilp, ld_bx_int, ld_bx_bool, ld_bx_str, ld_bx_fz, ld_bx_vis, ld_bx_sl, ld_bx_nils, ld_bx_ptr, ld_bx_fpp, ld_bx_nilp, List.length_cons, List.length_nil, beq_self_eq_true, Bool.and_self, Bool.and_true, Bool.true_and]
        refine Run.block ?_
        refine Run.loopc (fun n e h => ∃ q : Nat, q ≤ 20 ∧ n = 20 - q ∧ h = hE ∧ e = i10e57 (.int .u64 18446744073709551615) sE (.int .u8 t) (.int .i64 i) (.int .i64 k) (.int .u8 q)) _ ⟨0, by omega, rfl, rfl, (by simp only [clrEnv, List.set_cons_zero, List.set_cons_succ, vi, vis, Int.natCast_zero, Int.natCast_add, Int.natCast_one, i10e57, sE])⟩ ?_
        rintro n e h ⟨q, hq, rfl, rfl, rfl⟩
        simp only [i10e57]
        refine Run.seq (Run.seq ?_)
        refine Run.rgn (RunO.all ?_); simp only [i10r45, exOps_nil, exOps_cons, bindO_some, mapQ_some, mapW_some, x_mov, x_pick, x_bin, x_un, x_cvt, x_ld, x_b2s, x_idxa, x_idxs, x_fld, x_flda, x_boxf, x_boxr, x_bld, x_bslf, x_slc, x_len, x_ext, x_nchk, x_mkf, x_mki, x_fbin, x_fneg, x_i2f, x_f2i, x_xc, x_eqs, xl_ld, xl_b2s, x_st, x_boxh, x_alloc, x_bslh, x_mks, x_app, exOp_gt, exOp_gf, exOp_gf2, exOp_gs, put_some, put_none, ev_t, ev_c, List.getD_cons_zero, List.getD_cons_succ, List.set_cons_zero, List.set_cons_succ, Option.map_some, Option.map_none, optB_some, if_true, Bool.false_eq_true, if_false, ne_eq, reduceCtorEq, not_false_eq_true, not_true_eq_false, Bool.true_eq_false, len_vis, lenV_fz, lenV_sl, lenV_nils, lenV_str, binV, intB, unV, ld_fp_int, ld_fp_bool, ld_fp_str, ld_fp_fz, ld_fp_vis, ld_fp_sl, ld_fp_nils, ld_fp_ptr, ld_fp_fpp, ld_fp_nilp, ld_bx_int, ld_bx_bool, ld_bx_str, ld_bx_fz, ld_bx_vis, ld_bx_sl, ld_bx_nils, ld_bx_ptr, ld_bx_fpp, ld_bx_nilp, List.length_cons, List.length_nil, beq_self_eq_true, Bool.and_self, Bool.and_true, Bool.true_and]
        refine Run.ite (by rfl) (fun hlt3 => ?_) (fun hge5 => ?_)
        · have hlt3 : q < 20 := by have := of_decide_eq_true hlt3; omega
          refine Run.skip (Run.seq (Run.block (Run.seq (Run.rgn ?_))))
          refine RunO.pre 10 ?_; simp only [i10r48, List.take_succ_cons, List.take_zero, List.drop_succ_cons, List.drop_zero, exOps_nil, exOps_cons, bindO_some, mapQ_some, mapW_some, x_mov, x_pick, x_bin, x_un, x_cvt, x_ld, x_b2s, x_idxa, x_idxs, x_fld, x_flda, x_boxf, x_boxr, x_bld, x_bslf, x_slc, x_len, x_ext, x_nchk, x_mkf, x_mki, x_fbin, x_fneg, x_i2f, x_f2i, x_xc, x_eqs, xl_ld, xl_b2s, x_st, x_boxh, x_alloc, x_bslh, x_mks, x_app, exOp_gt, exOp_gf, exOp_gf2, exOp_gs, put_some, put_none, ev_t, ev_c, List.getD_cons_zero, List.getD_cons_succ, List.set_cons_zero, List.set_cons_succ, Option.map_some, Option.map_none, optB_some, if_true, Bool.false_eq_true, if_false, ne_eq, reduceCtorEq, not_false_eq_true, not_true_eq_false, Bool.true_eq_false, len_vis, lenV_fz, lenV_sl, lenV_nils, lenV_str, binV, intB, unV, ld_fp_int, ld_fp_bool, ld_fp_str, ld_fp_fz, ld_fp_vis, ld_fp_sl, ld_fp_nils, ld_fp_ptr, ld_fp_fpp, ld_fp_nilp, ld_bx_int, ld_bx_bool, ld_bx_str, ld_bx_fz, ld_bx_vis, ld_bx_sl, ld_bx_nils, ld_bx_ptr, ld_bx_fpp, ld_bx_nilp, List.length_cons, List.length_nil, beq_self_eq_true, Bool.and_self, Bool.and_true, Bool.true_and, hx, hd, hx2, hd2]
          refine RunO.c (k5 q t (endsL.getD i 0) (endsL.getD k 0) hw hw2 _) ?_
          refine RunO.all ?_; simp only [exOps_nil, exOps_cons, bindO_some, mapQ_some, mapW_some, x_mov, x_pick, x_bin, x_un, x_cvt, x_ld, x_b2s, x_idxa, x_idxs, x_fld, x_flda, x_boxf, x_boxr, x_bld, x_bslf, x_slc, x_len, x_ext, x_nchk, x_mkf, x_mki, x_fbin, x_fneg, x_i2f, x_f2i, x_xc, x_eqs, xl_ld, xl_b2s, x_st, x_boxh, x_alloc, x_bslh, x_mks, x_app, exOp_gt, exOp_gf, exOp_gf2, exOp_gs, put_some, put_none, ev_t, ev_c, List.getD_cons_zero, List.getD_cons_succ, List.set_cons_zero, List.set_cons_succ, Option.map_some, Option.map_none, optB_some, if_true, Bool.false_eq_true, if_false, ne_eq, reduceCtorEq, not_false_eq_true, not_true_eq_false, Bool.true_eq_false, len_vis, lenV_fz, lenV_sl, lenV_nils, lenV_str, binV, intB, unV, ld_fp_int, ld_fp_bool, ld_fp_str, ld_fp_fz, ld_fp_vis, ld_fp_sl, ld_fp_nils, ld_fp_ptr, ld_fp_fpp, ld_fp_nilp, ld_bx_int, ld_bx_bool, ld_bx_str, ld_bx_fz, ld_bx_vis, ld_bx_sl, ld_bx_nils, ld_bx_ptr, ld_bx_fpp, ld_bx_nilp, List.length_cons, List.length_nil, beq_self_eq_true, Bool.and_self, Bool.and_true, Bool.true_and, unV]
          refine Run.ite (by rfl) (fun h => by cases h) (fun _ => ?_)
          refine Run.skip ?_
          refine Run.rgn (RunO.all ?_); simp only [i10r54, exOps_nil, exOps_cons, bindO_some, mapQ_some, mapW_some, x_mov, x_pick, x_bin, x_un, x_cvt, x_ld, x_b2s, x_idxa, x_idxs, x_fld, x_flda, x_boxf, x_boxr, x_bld, x_bslf, x_slc, x_len, x_ext, x_nchk, x_mkf, x_mki, x_fbin, x_fneg, x_i2f, x_f2i, x_xc, x_eqs, xl_ld, xl_b2s, x_st, x_boxh, x_alloc, x_bslh, x_mks, x_app, exOp_gt, exOp_gf, exOp_gf2, exOp_gs, put_some, put_none, ev_t, ev_c, List.getD_cons_zero, List.getD_cons_succ, List.set_cons_zero, List.set_cons_succ, Option.map_some, Option.map_none, optB_some, if_true, Bool.false_eq_true, if_false, ne_eq, reduceCtorEq, not_false_eq_true, not_true_eq_false, Bool.true_eq_false, len_vis, lenV_fz, lenV_sl, lenV_nils, lenV_str, binV, intB, unV, ld_fp_int, ld_fp_bool, ld_fp_str, ld_fp_fz, ld_fp_vis, ld_fp_sl, ld_fp_nils, ld_fp_ptr, ld_fp_fpp, ld_fp_nilp, ld_bx_int, ld_bx_bool, ld_bx_str, ld_bx_fz, ld_bx_vis, ld_bx_sl, ld_bx_nils, ld_bx_ptr, ld_bx_fpp, ld_bx_nilp, List.length_cons, List.length_nil, beq_self_eq_true, Bool.and_self, Bool.and_true, Bool.true_and, u8_succ (show q < 255 by omega)]
          exact ⟨20 - (q + 1), by omega, q + 1, by omega, rfl, rfl, (by simp only [clrEnv, List.set_cons_zero, List.set_cons_succ, vi, vis, Int.natCast_zero, Int.natCast_add, Int.natCast_one, i10e57, sE])⟩
        refine Run.exit ?_
        show Run T _ _ _ _
        refine Run.rgn (RunO.all ?_); simp only [i10r61, exOps_nil, exOps_cons, bindO_some, mapQ_some, mapW_some, x_mov, x_pick, x_bin, x_un, x_cvt, x_ld, x_b2s, x_idxa, x_idxs, x_fld, x_flda, x_boxf, x_boxr, x_bld, x_bslf, x_slc, x_len, x_ext, x_nchk, x_mkf, x_mki, x_fbin, x_fneg, x_i2f, x_f2i, x_xc, x_eqs, xl_ld, xl_b2s, x_st, x_boxh, x_alloc, x_bslh, x_mks, x_app, exOp_gt, exOp_gf, exOp_gf2, exOp_gs, put_some, put_none, ev_t, ev_c, List.getD_cons_zero, List.getD_cons_succ, List.set_cons_zero, List.set_cons_succ, Option.map_some, Option.map_none, optB_some, if_true, Bool.false_eq_true, if_false, ne_eq, reduceCtorEq, not_false_eq_true, not_true_eq_false, Bool.true_eq_false, len_vis, lenV_fz, lenV_sl, lenV_nils, lenV_str, binV, intB, unV, ld_fp_int, ld_fp_bool, ld_fp_str, ld_fp_fz, ld_fp_vis, ld_fp_sl, ld_fp_nils, ld_fp_ptr, ld_fp_fpp, ld_fp_nilp, ld_bx_int, ld_bx_bool, ld_bx_str, ld_bx_fz, ld_bx_vis, ld_bx_sl, ld_bx_nils, ld_bx_ptr, ld_bx_fpp, ld_bx_nilp, List.length_cons, List.length_nil, beq_self_eq_true, Bool.and_self, Bool.and_true, Bool.true_and, i64_succ (show k < 1000 by omega)]
        exact ⟨22 - (k + 1), by omega, k + 1, by omega, rfl, rfl, (by simp only [clrEnv, List.set_cons_zero, List.set_cons_succ, vi, vis, Int.natCast_zero, Int.natCast_add, Int.natCast_one, i10e64, sE])⟩
      refine Run.exit ?_
      show Run T _ _ _ _
      refine Run.seq (Run.rgn ?_)
      refine RunO.pre 5 ?_; simp only [i10r67, List.take_succ_cons, List.take_zero, List.drop_succ_cons, List.drop_zero, exOps_nil, exOps_cons, bindO_some, mapQ_some, mapW_some, x_mov, x_pick, x_bin, x_un, x_cvt, x_ld, x_b2s, x_idxa, x_idxs, x_fld, x_flda, x_boxf, x_boxr, x_bld, x_bslf, x_slc, x_len, x_ext, x_nchk, x_mkf, x_mki, x_fbin, x_fneg, x_i2f, x_f2i, x_xc, x_eqs, xl_ld, xl_b2s, x_st, x_boxh, x_alloc, x_bslh, x_mks, x_app, exOp_gt, exOp_gf, exOp_gf2, exOp_gs, put_some, put_none, ev_t, ev_c, List.getD_cons_zero, List.getD_cons_succ, List.set_cons_zero, List.set_cons_succ, Option.map_some, Option.map_none, optB_some, if_true, Bool.false_eq_true, if_false, ne_eq, reduceCtorEq, not_false_eq_true, not_true_eq_false, Bool.true_eq_false, len_vis, lenV_fz, lenV_sl, lenV_nils, lenV_str, binV, intB, unV, ld_fp_int, ld_fp_bool, ld_fp_str, ld_fp_fz, ld_fp_vis, ld_fp_sl, ld_fp_nils, ld_fp_ptr, ld_fp_fpp, ld_fp_nilp, ld_bx_int, ld_bx_bool, ld_bx_str, ld_bx_fz, ld_bx_vis, ld_bx_sl, ld_bx_nils, ld_bx_ptr, ld_bx_fpp, ld_bx_nilp, List.length_cons, List.length_nil, beq_self_eq_true, Bool.and_self, Bool.and_true, Bool.true_and, hx, hd]
      refine RunO.c (k3 t (endsL.getD i 0) hw _) ?_
      refine RunO.all ?_; simp only [exOps_nil, exOps_cons, bindO_some, mapQ_some, mapW_some, x_mov, x_pick, x_bin, x_un, x_cvt, x_ld, x_b2s, x_idxa, x_idxs, x_fld, x_flda, x_boxf, x_boxr, x_bld, x_bslf, x_slc, x_len, x_ext, x_nchk, x_mkf, x_mki, x_fbin, x_fneg, x_i2f, x_f2i, x_xc, x_eqs, xl_ld, xl_b2s, x_st, x_boxh, x_alloc, x_bslh, x_mks, x_app, exOp_gt, exOp_gf, exOp_gf2, exOp_gs, put_some, put_none, ev_t, ev_c, List.getD_cons_zero, List.getD_cons_succ, List.set_cons_zero, List.set_cons_succ, Option.map_some, Option.map_none, optB_some, if_true, Bool.false_eq_true, if_false, ne_eq, reduceCtorEq, not_false_eq_true, not_true_eq_false, Bool.true_eq_false, len_vis, lenV_fz, lenV_sl, lenV_nils, lenV_str, binV, intB, unV, ld_fp_int, ld_fp_bool, ld_fp_str, ld_fp_fz, ld_fp_vis, ld_fp_sl, ld_fp_nils, ld_fp_ptr, ld_fp_fpp, ld_fp_nilp, ld_bx_int, ld_bx_bool, ld_bx_str, ld_bx_fz, ld_bx_vis, ld_bx_sl, ld_bx_nils, ld_bx_ptr, ld_bx_fpp, ld_bx_nilp, List.length_cons, List.length_nil, beq_self_eq_true, Bool.and_self, Bool.and_true, Bool.true_and, unV]
      refine Run.ite (by rfl) (fun h => by cases h) (fun _ => ?_)
      refine Run.skip ?_
      refine Run.rgn (RunO.all ?_); simp only [i10r75, exOps_nil, exOps_cons, bindO_some, mapQ_some, mapW_some, x_mov, x_pick, x_bin, x_un, x_cvt, x_ld, x_b2s, x_idxa, x_idxs, x_fld, x_flda, x_boxf, x_boxr, x_bld, x_bslf, x_slc, x_len, x_ext, x_nchk, x_mkf, x_mki, x_fbin, x_fneg, x_i2f, x_f2i, x_xc, x_eqs, xl_ld, xl_b2s, x_st, x_boxh, x_alloc, x_bslh, x_mks, x_app, exOp_gt, exOp_gf, exOp_gf2, exOp_gs, put_some, put_none, ev_t, ev_c, List.getD_cons_zero, List.getD_cons_succ, List.set_cons_zero, List.set_cons_succ, Option.map_some, Option.map_none, optB_some, if_true, Bool.false_eq_true, if_false, ne_eq, reduceCtorEq, not_false_eq_true, not_true_eq_false, Bool.true_eq_false, len_vis, lenV_fz, lenV_sl, lenV_nils, lenV_str, binV, intB, unV, ld_fp_int, ld_fp_bool, ld_fp_str, ld_fp_fz, ld_fp_vis, ld_fp_sl, ld_fp_nils, ld_fp_ptr, ld_fp_fpp, ld_fp_nilp, ld_bx_int, ld_bx_bool, ld_bx_str, ld_bx_fz, ld_bx_vis, ld_bx_sl, ld_bx_nils, ld_bx_ptr, ld_bx_fpp, ld_bx_nilp, List.length_cons, List.length_nil, beq_self_eq_true, Bool.and_self, Bool.and_true, Bool.true_and, i64_succ (show i < 1000 by omega)]
      exact ⟨43 - (i + 1), by omega, i + 1, by omega, rfl, rfl, (by simp only [clrEnv, List.set_cons_zero, List.set_cons_succ, vi, vis, Int.natCast_zero, Int.natCast_add, Int.natCast_one, i10e78, sE])⟩
    refine Run.exit ?_
    show Run T _ _ _ _
    refine Run.rgn (RunO.all ?_); simp only [i10r82, exOps_nil, exOps_cons, bindO_some, mapQ_some, mapW_some, x_mov, x_pick, x_bin, x_un, x_cvt, x_ld, x_b2s, x_idxa, x_idxs, x_fld, x_flda, x_boxf, x_boxr, x_bld, x_bslf, x_slc, x_len, x_ext, x_nchk, x_mkf, x_mki, x_fbin, x_fneg, x_i2f, x_f2i, x_xc, x_eqs, xl_ld, xl_b2s, x_st, x_boxh, x_alloc, x_bslh, x_mks, x_app, exOp_gt, exOp_gf, exOp_gf2, exOp_gs, put_some, put_none, ev_t, ev_c, List.getD_cons_zero, List.getD_cons_succ, List.set_cons_zero, List.set_cons_succ, Option.map_some, Option.map_none, optB_some, if_true, Bool.false_eq_true, if_false, ne_eq, reduceCtorEq, not_false_eq_true, not_true_eq_false, Bool.true_eq_false, len_vis, lenV_fz, lenV_sl, lenV_nils, lenV_str, binV, intB, unV, ld_fp_int, ld_fp_bool, ld_fp_str, ld_fp_fz, ld_fp_vis, ld_fp_sl, ld_fp_nils, ld_fp_ptr, ld_fp_fpp, ld_fp_nilp, ld_bx_int, ld_bx_bool, ld_bx_str, ld_bx_fz, ld_bx_vis, ld_bx_sl, ld_bx_nils, ld_bx_ptr, ld_bx_fpp, ld_bx_nilp, List.length_cons, List.length_nil, beq_self_eq_true, Bool.and_self, Bool.and_true, Bool.true_and, u8_succ (show t < 255 by omega)]
    exact ⟨7 - (t + 1), by omega, t + 1, by omega, rfl, rfl, (by simp only [clrEnv, List.set_cons_zero, List.set_cons_succ, vi, vis, Int.natCast_zero, Int.natCast_add, Int.natCast_one, i10e85, sE])⟩
  have ht7 : t = 7 := by have := of_decide_eq_false hge; omega
  subst ht7
  refine Run.exit ?_
  show Run T _ _ _ _
  exact says_run post_E
theorem law_ScalarNumbers : Fn T 10 [] [] (fun r h => r = .bool true) := numbers
end Go.Eng.Sca
