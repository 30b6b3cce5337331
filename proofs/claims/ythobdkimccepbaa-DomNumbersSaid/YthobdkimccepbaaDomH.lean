/- Functions of this seat, run on unknown values by the rules of the small machine (no condition beyond those stated). -/
import Derived.Test.YthobdkimccepbaaDomG
namespace Go.Eng.Dom
open Go Go.Eng DomMath
set_option linter.unusedVariables false
set_option linter.unusedSimpArgs false

theorem ed_lt {rows : List (List Int)} (hok : okn rows = true) {a b : Nat} (h : Ed rows a b) : b < rows.length := by
  obtain ⟨hi, j, hj, e⟩ := edge_at h
  obtain ⟨m, e1, hm, _⟩ := edge hok hi hj
  rw [e1] at e; omega
theorem okn_pos {rows : List (List Int)} (hok : okn rows = true) : 0 < rows.length := by unfold okn at hok; simp at hok; exact hok.2
theorem rb_lt {rows : List (List Int)} (hok : okn rows = true) {b : Nat} (h : RB (Ed rows) b) : b < rows.length := by
  obtain ⟨l, h⟩ := h
  cases h with
  | nil => exact okn_pos hok
  | step _ e => exact ed_lt hok e
theorem refOversC {ws : List V} {rows : List (List Int)} (hw : IsRows ws rows) (S : Small rows) (hok : okn rows = true) (hf : V.free deepN (.fz ws) = true) (H : Heap) :
    ∃ M : List (List Bool), M.length = rows.length ∧ (∀ l ∈ M, l.length = rows.length) ∧
      (∀ a b, a < rows.length → ((M.getD a []).getD b false = true ↔ RB (Ed rows) a ∧ RB (Ed rows) b ∧ DB (Ed rows) a b)) ∧ PC T H 26 [.fz ws] (.fz (M.map fun l => .fz (l.map V.bool))) := by
  obtain ⟨w, ⟨M, rfl, h1, h2, h3⟩, h4⟩ := PC.ex (T := T) (H := H) (f := 26) (args := [.fz ws]) (P := fun w => ∃ M : List (List Bool), w = .fz (M.map fun l => .fz (l.map V.bool)) ∧ M.length = rows.length ∧ (∀ l ∈ M, l.length = rows.length) ∧
      ∀ a b, a < rows.length → ((M.getD a []).getD b false = true ↔ RB (Ed rows) a ∧ RB (Ed rows) b ∧ DB (Ed rows) a b))
    (by rw [List.all_cons, hf]; rfl) ((refOvers hw S hok hf).mono fun r h ⟨M, h1, h2, h3, h4⟩ => ⟨_, h1, M, rfl, h2, h3, h4⟩)
  exact ⟨M, h1, h2, h3, h4⟩
theorem mayC {ws : List V} {rows : List (List Int)} (hw : IsRows ws rows) (S : Small rows) (hf : V.free deepN (.fz ws) = true) (H : Heap) : PC T H 22 [.fz ws] (.bool (okn rows)) := PC.now (by rw [List.all_cons, hf]; rfl) rfl (fun H => may hw S H)
theorem refMayC {ws : List V} {rows : List (List Int)} (hw : IsRows ws rows) (S : Small rows) (hf : V.free deepN (.fz ws) = true) (H : Heap) : PC T H 25 [.fz ws] (.bool (okn rows)) := PC.now (by rw [List.all_cons, hf]; rfl) rfl (fun H => refMay hw S H)

/-- a buffer of its own, in a heap of its own -/
def OutV (h : Heap) (v : V) (l : List Int) : Prop := (l = [] ∧ v = .nils ∧ h = []) ∨ ∃ g, v = .sl 0 g 0 l.length 1 false ∧ h = [(g, l.map vi)]
theorem OutV.app {h : Heap} {v : V} {l : List Int} (O : OutV h v l) (hl : l.length ≤ 1048576) (x : Int) : ∃ v' h', appV h v (.fz [.int .i64 x]) 1 false 8 = some (v', h') ∧ OutV h' v' (l ++ [x]) := by
  rcases O with ⟨rfl, rfl, rfl⟩ | ⟨g, rfl, rfl⟩
  · exact ⟨_, _, app_new rfl rfl (by omega), .inr ⟨0, rfl, rfl⟩⟩
  · refine ⟨_, _, app_lst (f := vi) (l := l) (junk := []) (x := .int .i64 x) x (by rw [rdB_0, List.append_nil]) rfl rfl rfl (by omega), .inr ⟨g + 1, by simp, by simp⟩⟩
theorem OutV.deep {h : Heap} {v : V} {l : List Int} (O : OutV h v l) : ∃ w, Go.Eng.deep false h 39 v = some w ∧ IsInts w l := by
  rcases O with ⟨rfl, rfl, rfl⟩ | ⟨g, rfl, rfl⟩
  · exact ⟨.nils, rfl, .inr ⟨rfl, rfl⟩⟩
  · refine ⟨vis l, ?_, .inl rfl⟩
    exact deep_map (f := vi) (u := vi) (strict := false) (n := 38) (fun _ _ => rfl) (fun _ => rfl) (rdB_0 _ _ _)

set_option maxHeartbeats 1000000 in
theorem refTree {ws : List V} {rows : List (List Int)} (hw : IsRows ws rows) (S : Small rows) (hf : V.free deepN (.fz ws) = true) :
    Fn T 11 [.fz ws] [] (fun r h => (okn rows = false ∧ deep false h deepN r = some (.tup [.nils, .int .i64 4])) ∨ (okn rows = true ∧ ∃ w out, deep false h deepN r = some (.tup [w, .int .i64 0]) ∧ IsInts w out ∧ TreeOf rows out)) := by
  have hnl := S.len
  refine Fn.enter t11 ?_; simp only [i11, List.length_cons, List.length_nil, Nat.reduceAdd, Nat.reduceSub, List.replicate_succ, List.replicate_zero, List.cons_append, List.nil_append]
  refine Run.seqr ?_; simp only [i11r0, exOps_nil, exOps_cons, bindO_some, mapQ_some, mapW_some, x_mov, x_pick, x_bin, x_un, x_cvt, x_ld, x_b2s, x_idxa, x_idxs, x_fld, x_flda, x_boxf, x_boxr, x_bld, x_bslf, x_slc, x_len, x_ext, x_nchk, x_mkf, x_mki, xl_ld, xl_b2s, x_st, x_boxh, x_alloc, x_bslh, x_mks, x_app, exOp_gt, exOp_gf, exOp_gf2, exOp_gs, put_some, put_none, ev_t, ev_c, List.getD_cons_zero, List.getD_cons_succ, List.set_cons_zero, List.set_cons_succ, Option.map_some, Option.map_none, optB_some, if_true, Bool.false_eq_true, if_false, ne_eq, reduceCtorEq, not_false_eq_true, not_true_eq_false, Bool.true_eq_false, len_vis, lenV_fz, lenV_sl, lenV_nils, lenV_str, binV, intB, unV, ld_fp_int, ld_fp_bool, ld_fp_str, ld_fp_fz, ld_fp_vis, ld_fp_sl, ld_fp_nils, ld_fp_ptr, ld_fp_fpp, ld_fp_nilp, ld_bx_int, ld_bx_bool, ld_bx_str, ld_bx_fz, ld_bx_vis, ld_bx_sl, ld_bx_nils, ld_bx_ptr, ld_bx_fpp, ld_bx_nilp, List.length_cons, List.length_nil, beq_self_eq_true, Bool.and_self, Bool.and_true, Bool.true_and]
  refine Run.seq (Run.seq (Run.rgn ?_))
  refine RunO.pre 1 ?_; simp only [i11r1, List.take_succ_cons, List.take_zero, List.drop_succ_cons, List.drop_zero, exOps_nil, exOps_cons, bindO_some, mapQ_some, mapW_some, x_mov, x_pick, x_bin, x_un, x_cvt, x_ld, x_b2s, x_idxa, x_idxs, x_fld, x_flda, x_boxf, x_boxr, x_bld, x_bslf, x_slc, x_len, x_ext, x_nchk, x_mkf, x_mki, xl_ld, xl_b2s, x_st, x_boxh, x_alloc, x_bslh, x_mks, x_app, exOp_gt, exOp_gf, exOp_gf2, exOp_gs, put_some, put_none, ev_t, ev_c, List.getD_cons_zero, List.getD_cons_succ, List.set_cons_zero, List.set_cons_succ, Option.map_some, Option.map_none, optB_some, if_true, Bool.false_eq_true, if_false, ne_eq, reduceCtorEq, not_false_eq_true, not_true_eq_false, Bool.true_eq_false, len_vis, lenV_fz, lenV_sl, lenV_nils, lenV_str, binV, intB, unV, ld_fp_int, ld_fp_bool, ld_fp_str, ld_fp_fz, ld_fp_vis, ld_fp_sl, ld_fp_nils, ld_fp_ptr, ld_fp_fpp, ld_fp_nilp, ld_bx_int, ld_bx_bool, ld_bx_str, ld_bx_fz, ld_bx_vis, ld_bx_sl, ld_bx_nils, ld_bx_ptr, ld_bx_fpp, ld_bx_nilp, List.length_cons, List.length_nil, beq_self_eq_true, Bool.and_self, Bool.and_true, Bool.true_and]
  refine RunO.c (refMayC hw S hf _) ?_
  refine RunO.all ?_; simp only [exOps_nil, exOps_cons, bindO_some, mapQ_some, mapW_some, x_mov, x_pick, x_bin, x_un, x_cvt, x_ld, x_b2s, x_idxa, x_idxs, x_fld, x_flda, x_boxf, x_boxr, x_bld, x_bslf, x_slc, x_len, x_ext, x_nchk, x_mkf, x_mki, xl_ld, xl_b2s, x_st, x_boxh, x_alloc, x_bslh, x_mks, x_app, exOp_gt, exOp_gf, exOp_gf2, exOp_gs, put_some, put_none, ev_t, ev_c, List.getD_cons_zero, List.getD_cons_succ, List.set_cons_zero, List.set_cons_succ, Option.map_some, Option.map_none, optB_some, if_true, Bool.false_eq_true, if_false, ne_eq, reduceCtorEq, not_false_eq_true, not_true_eq_false, Bool.true_eq_false, len_vis, lenV_fz, lenV_sl, lenV_nils, lenV_str, binV, intB, unV, ld_fp_int, ld_fp_bool, ld_fp_str, ld_fp_fz, ld_fp_vis, ld_fp_sl, ld_fp_nils, ld_fp_ptr, ld_fp_fpp, ld_fp_nilp, ld_bx_int, ld_bx_bool, ld_bx_str, ld_bx_fz, ld_bx_vis, ld_bx_sl, ld_bx_nils, ld_bx_ptr, ld_bx_fpp, ld_bx_nilp, List.length_cons, List.length_nil, beq_self_eq_true, Bool.and_self, Bool.and_true, Bool.true_and, unV]
  refine Run.ite (by rfl) (fun h0 => ?_) (fun h0 => ?_)
  · have h0 : okn rows = false := by simpa using h0
    refine Run.seqr ?_; simp only [i11r2, exOps_nil, exOps_cons, bindO_some, mapQ_some, mapW_some, x_mov, x_pick, x_bin, x_un, x_cvt, x_ld, x_b2s, x_idxa, x_idxs, x_fld, x_flda, x_boxf, x_boxr, x_bld, x_bslf, x_slc, x_len, x_ext, x_nchk, x_mkf, x_mki, xl_ld, xl_b2s, x_st, x_boxh, x_alloc, x_bslh, x_mks, x_app, exOp_gt, exOp_gf, exOp_gf2, exOp_gs, put_some, put_none, ev_t, ev_c, List.getD_cons_zero, List.getD_cons_succ, List.set_cons_zero, List.set_cons_succ, Option.map_some, Option.map_none, optB_some, if_true, Bool.false_eq_true, if_false, ne_eq, reduceCtorEq, not_false_eq_true, not_true_eq_false, Bool.true_eq_false, len_vis, lenV_fz, lenV_sl, lenV_nils, lenV_str, binV, intB, unV, ld_fp_int, ld_fp_bool, ld_fp_str, ld_fp_fz, ld_fp_vis, ld_fp_sl, ld_fp_nils, ld_fp_ptr, ld_fp_fpp, ld_fp_nilp, ld_bx_int, ld_bx_bool, ld_bx_str, ld_bx_fz, ld_bx_vis, ld_bx_sl, ld_bx_nils, ld_bx_ptr, ld_bx_fpp, ld_bx_nilp, List.length_cons, List.length_nil, beq_self_eq_true, Bool.and_self, Bool.and_true, Bool.true_and]
    exact Run.ret (.inl ⟨h0, rfl⟩)
  have hok : okn rows = true := by simpa using h0
  refine Run.skip ?_
  obtain ⟨M, hM, hMr, hMs, hMc⟩ := refOversC hw S hok hf []
  refine Run.seq (Run.rgn ?_)
  refine RunO.pre 1 ?_; simp only [i11r6, List.take_succ_cons, List.take_zero, List.drop_succ_cons, List.drop_zero, exOps_nil, exOps_cons, bindO_some, mapQ_some, mapW_some, x_mov, x_pick, x_bin, x_un, x_cvt, x_ld, x_b2s, x_idxa, x_idxs, x_fld, x_flda, x_boxf, x_boxr, x_bld, x_bslf, x_slc, x_len, x_ext, x_nchk, x_mkf, x_mki, xl_ld, xl_b2s, x_st, x_boxh, x_alloc, x_bslh, x_mks, x_app, exOp_gt, exOp_gf, exOp_gf2, exOp_gs, put_some, put_none, ev_t, ev_c, List.getD_cons_zero, List.getD_cons_succ, List.set_cons_zero, List.set_cons_succ, Option.map_some, Option.map_none, optB_some, if_true, Bool.false_eq_true, if_false, ne_eq, reduceCtorEq, not_false_eq_true, not_true_eq_false, Bool.true_eq_false, len_vis, lenV_fz, lenV_sl, lenV_nils, lenV_str, binV, intB, unV, ld_fp_int, ld_fp_bool, ld_fp_str, ld_fp_fz, ld_fp_vis, ld_fp_sl, ld_fp_nils, ld_fp_ptr, ld_fp_fpp, ld_fp_nilp, ld_bx_int, ld_bx_bool, ld_bx_str, ld_bx_fz, ld_bx_vis, ld_bx_sl, ld_bx_nils, ld_bx_ptr, ld_bx_fpp, ld_bx_nilp, List.length_cons, List.length_nil, beq_self_eq_true, Bool.and_self, Bool.and_true, Bool.true_and]
  refine RunO.c hMc ?_
  refine RunO.all ?_; simp only [exOps_nil, exOps_cons, bindO_some, mapQ_some, mapW_some, x_mov, x_pick, x_bin, x_un, x_cvt, x_ld, x_b2s, x_idxa, x_idxs, x_fld, x_flda, x_boxf, x_boxr, x_bld, x_bslf, x_slc, x_len, x_ext, x_nchk, x_mkf, x_mki, xl_ld, xl_b2s, x_st, x_boxh, x_alloc, x_bslh, x_mks, x_app, exOp_gt, exOp_gf, exOp_gf2, exOp_gs, put_some, put_none, ev_t, ev_c, List.getD_cons_zero, List.getD_cons_succ, List.set_cons_zero, List.set_cons_succ, Option.map_some, Option.map_none, optB_some, if_true, Bool.false_eq_true, if_false, ne_eq, reduceCtorEq, not_false_eq_true, not_true_eq_false, Bool.true_eq_false, len_vis, lenV_fz, lenV_sl, lenV_nils, lenV_str, binV, intB, unV, ld_fp_int, ld_fp_bool, ld_fp_str, ld_fp_fz, ld_fp_vis, ld_fp_sl, ld_fp_nils, ld_fp_ptr, ld_fp_fpp, ld_fp_nilp, ld_bx_int, ld_bx_bool, ld_bx_str, ld_bx_fz, ld_bx_vis, ld_bx_sl, ld_bx_nils, ld_bx_ptr, ld_bx_fpp, ld_bx_nilp, List.length_cons, List.length_nil, beq_self_eq_true, Bool.and_self, Bool.and_true, Bool.true_and]
  refine Run.seqr ?_; simp only [i11r7, exOps_nil, exOps_cons, bindO_some, mapQ_some, mapW_some, x_mov, x_pick, x_bin, x_un, x_cvt, x_ld, x_b2s, x_idxa, x_idxs, x_fld, x_flda, x_boxf, x_boxr, x_bld, x_bslf, x_slc, x_len, x_ext, x_nchk, x_mkf, x_mki, xl_ld, xl_b2s, x_st, x_boxh, x_alloc, x_bslh, x_mks, x_app, exOp_gt, exOp_gf, exOp_gf2, exOp_gs, put_some, put_none, ev_t, ev_c, List.getD_cons_zero, List.getD_cons_succ, List.set_cons_zero, List.set_cons_succ, Option.map_some, Option.map_none, optB_some, if_true, Bool.false_eq_true, if_false, ne_eq, reduceCtorEq, not_false_eq_true, not_true_eq_false, Bool.true_eq_false, len_vis, lenV_fz, lenV_sl, lenV_nils, lenV_str, binV, intB, unV, ld_fp_int, ld_fp_bool, ld_fp_str, ld_fp_fz, ld_fp_vis, ld_fp_sl, ld_fp_nils, ld_fp_ptr, ld_fp_fpp, ld_fp_nilp, ld_bx_int, ld_bx_bool, ld_bx_str, ld_bx_fz, ld_bx_vis, ld_bx_sl, ld_bx_nils, ld_bx_ptr, ld_bx_fpp, ld_bx_nilp, List.length_cons, List.length_nil, beq_self_eq_true, Bool.and_self, Bool.and_true, Bool.true_and]
  refine Run.seq (Run.seq ?_)
  refine Run.rgn (RunO.all ?_); simp only [i11r8, exOps_nil, exOps_cons, bindO_some, mapQ_some, mapW_some, x_mov, x_pick, x_bin, x_un, x_cvt, x_ld, x_b2s, x_idxa, x_idxs, x_fld, x_flda, x_boxf, x_boxr, x_bld, x_bslf, x_slc, x_len, x_ext, x_nchk, x_mkf, x_mki, xl_ld, xl_b2s, x_st, x_boxh, x_alloc, x_bslh, x_mks, x_app, exOp_gt, exOp_gf, exOp_gf2, exOp_gs, put_some, put_none, ev_t, ev_c, List.getD_cons_zero, List.getD_cons_succ, List.set_cons_zero, List.set_cons_succ, Option.map_some, Option.map_none, optB_some, if_true, Bool.false_eq_true, if_false, ne_eq, reduceCtorEq, not_false_eq_true, not_true_eq_false, Bool.true_eq_false, len_vis, lenV_fz, lenV_sl, lenV_nils, lenV_str, binV, intB, unV, ld_fp_int, ld_fp_bool, ld_fp_str, ld_fp_fz, ld_fp_vis, ld_fp_sl, ld_fp_nils, ld_fp_ptr, ld_fp_fpp, ld_fp_nilp, ld_bx_int, ld_bx_bool, ld_bx_str, ld_bx_fz, ld_bx_vis, ld_bx_sl, ld_bx_nils, ld_bx_ptr, ld_bx_fpp, ld_bx_nilp, List.length_cons, List.length_nil, beq_self_eq_true, Bool.and_self, Bool.and_true, Bool.true_and]
  refine Run.block ?_
  refine Run.loopc (fun n e h => ∃ (out : List Int) (v : V), out.length ≤ rows.length ∧ n = rows.length - out.length ∧ OutV h v out ∧
    (∀ b, b < out.length → (b = 0 ∨ ¬ RB (Ed rows) b) → out.getD b (-1) = -1) ∧
    (∀ b, b < out.length → RB (Ed rows) b → b ≠ 0 → ∃ t : Nat, out.getD b (-1) = (t : Int) ∧ t ≠ b ∧ DB (Ed rows) t b ∧ ∀ d, d ≠ b → DB (Ed rows) d b → DB (Ed rows) d t) ∧
    e = i11e35 (.fz ws) (.fz (M.map fun l => .fz (l.map V.bool))) v (vi out.length)) rows.length
    ⟨[], .nils, by simp, by simp, .inl ⟨rfl, rfl, rfl⟩, (by intro b h; cases h), (by intro b h; cases h), (by simp only [clrEnv, List.set_cons_zero, List.set_cons_succ, vi, vis, Int.natCast_zero, Int.natCast_add, Int.natCast_one, i11e35, List.length_nil])⟩ ?_
  rintro n e h ⟨out, v, hol, rfl, hO, hno, hyes, rfl⟩
  simp only [i11e35, vi]
  refine Run.seq (Run.seq ?_)
  refine Run.rgn (RunO.all ?_); simp only [i11r9, exOps_nil, exOps_cons, bindO_some, mapQ_some, mapW_some, x_mov, x_pick, x_bin, x_un, x_cvt, x_ld, x_b2s, x_idxa, x_idxs, x_fld, x_flda, x_boxf, x_boxr, x_bld, x_bslf, x_slc, x_len, x_ext, x_nchk, x_mkf, x_mki, xl_ld, xl_b2s, x_st, x_boxh, x_alloc, x_bslh, x_mks, x_app, exOp_gt, exOp_gf, exOp_gf2, exOp_gs, put_some, put_none, ev_t, ev_c, List.getD_cons_zero, List.getD_cons_succ, List.set_cons_zero, List.set_cons_succ, Option.map_some, Option.map_none, optB_some, if_true, Bool.false_eq_true, if_false, ne_eq, reduceCtorEq, not_false_eq_true, not_true_eq_false, Bool.true_eq_false, len_vis, lenV_fz, lenV_sl, lenV_nils, lenV_str, binV, intB, unV, ld_fp_int, ld_fp_bool, ld_fp_str, ld_fp_fz, ld_fp_vis, ld_fp_sl, ld_fp_nils, ld_fp_ptr, ld_fp_fpp, ld_fp_nilp, ld_bx_int, ld_bx_bool, ld_bx_str, ld_bx_fz, ld_bx_vis, ld_bx_sl, ld_bx_nils, ld_bx_ptr, ld_bx_fpp, ld_bx_nilp, List.length_cons, List.length_nil, beq_self_eq_true, Bool.and_self, Bool.and_true, Bool.true_and, hw.1]
  refine Run.ite (by rfl) (fun hlt => ?_) (fun hge => ?_)
  · have hlt : out.length < rows.length := by have := of_decide_eq_true hlt; omega
    generalize hb : out.length = b at *
    refine Run.skip (Run.seq (Run.block ?_))
    refine Run.seqr ?_; simp only [i11r12, exOps_nil, exOps_cons, bindO_some, mapQ_some, mapW_some, x_mov, x_pick, x_bin, x_un, x_cvt, x_ld, x_b2s, x_idxa, x_idxs, x_fld, x_flda, x_boxf, x_boxr, x_bld, x_bslf, x_slc, x_len, x_ext, x_nchk, x_mkf, x_mki, xl_ld, xl_b2s, x_st, x_boxh, x_alloc, x_bslh, x_mks, x_app, exOp_gt, exOp_gf, exOp_gf2, exOp_gs, put_some, put_none, ev_t, ev_c, List.getD_cons_zero, List.getD_cons_succ, List.set_cons_zero, List.set_cons_succ, Option.map_some, Option.map_none, optB_some, if_true, Bool.false_eq_true, if_false, ne_eq, reduceCtorEq, not_false_eq_true, not_true_eq_false, Bool.true_eq_false, len_vis, lenV_fz, lenV_sl, lenV_nils, lenV_str, binV, intB, unV, ld_fp_int, ld_fp_bool, ld_fp_str, ld_fp_fz, ld_fp_vis, ld_fp_sl, ld_fp_nils, ld_fp_ptr, ld_fp_fpp, ld_fp_nilp, ld_bx_int, ld_bx_bool, ld_bx_str, ld_bx_fz, ld_bx_vis, ld_bx_sl, ld_bx_nils, ld_bx_ptr, ld_bx_fpp, ld_bx_nilp, List.length_cons, List.length_nil, beq_self_eq_true, Bool.and_self, Bool.and_true, Bool.true_and]
    refine Run.seq (Run.seq ?_)
    refine Run.rgn (RunO.all ?_); simp only [i11r13, exOps_nil, exOps_cons, bindO_some, mapQ_some, mapW_some, x_mov, x_pick, x_bin, x_un, x_cvt, x_ld, x_b2s, x_idxa, x_idxs, x_fld, x_flda, x_boxf, x_boxr, x_bld, x_bslf, x_slc, x_len, x_ext, x_nchk, x_mkf, x_mki, xl_ld, xl_b2s, x_st, x_boxh, x_alloc, x_bslh, x_mks, x_app, exOp_gt, exOp_gf, exOp_gf2, exOp_gs, put_some, put_none, ev_t, ev_c, List.getD_cons_zero, List.getD_cons_succ, List.set_cons_zero, List.set_cons_succ, Option.map_some, Option.map_none, optB_some, if_true, Bool.false_eq_true, if_false, ne_eq, reduceCtorEq, not_false_eq_true, not_true_eq_false, Bool.true_eq_false, len_vis, lenV_fz, lenV_sl, lenV_nils, lenV_str, binV, intB, unV, ld_fp_int, ld_fp_bool, ld_fp_str, ld_fp_fz, ld_fp_vis, ld_fp_sl, ld_fp_nils, ld_fp_ptr, ld_fp_fpp, ld_fp_nilp, ld_bx_int, ld_bx_bool, ld_bx_str, ld_bx_fz, ld_bx_vis, ld_bx_sl, ld_bx_nils, ld_bx_ptr, ld_bx_fpp, ld_bx_nilp, List.length_cons, List.length_nil, beq_self_eq_true, Bool.and_self, Bool.and_true, Bool.true_and]
    refine Run.block ?_
    refine Run.loopc (fun n e h' => ∃ (a : Nat) (near : Int), a ≤ rows.length ∧ n = rows.length - a ∧ h' = h ∧
      ((near = -1 ∧ ∀ a' < a, a' ≠ b → RB (Ed rows) b → ¬ DB (Ed rows) a' b) ∨ ∃ m : Nat, near = (m : Int) ∧ m < rows.length ∧ m ≠ b ∧ RB (Ed rows) b ∧ DB (Ed rows) m b ∧ ∀ a' < a, a' ≠ b → DB (Ed rows) a' b → DB (Ed rows) a' m) ∧
      e = i11e25 (.fz ws) (.fz (M.map fun l => .fz (l.map V.bool))) v (vi b) (vi near) (vi a)) rows.length
      ⟨0, -1, by omega, by omega, rfl, .inl ⟨rfl, by intro a h; omega⟩, (by simp only [clrEnv, List.set_cons_zero, List.set_cons_succ, vi, vis, Int.natCast_zero, Int.natCast_add, Int.natCast_one, i11e25])⟩ ?_
    rintro n e h' ⟨a, near, ha, rfl, rfl, hnear, rfl⟩
    simp only [i11e25, vi]
    refine Run.seq (Run.seq ?_)
    refine Run.rgn (RunO.all ?_); simp only [i11r14, exOps_nil, exOps_cons, bindO_some, mapQ_some, mapW_some, x_mov, x_pick, x_bin, x_un, x_cvt, x_ld, x_b2s, x_idxa, x_idxs, x_fld, x_flda, x_boxf, x_boxr, x_bld, x_bslf, x_slc, x_len, x_ext, x_nchk, x_mkf, x_mki, xl_ld, xl_b2s, x_st, x_boxh, x_alloc, x_bslh, x_mks, x_app, exOp_gt, exOp_gf, exOp_gf2, exOp_gs, put_some, put_none, ev_t, ev_c, List.getD_cons_zero, List.getD_cons_succ, List.set_cons_zero, List.set_cons_succ, Option.map_some, Option.map_none, optB_some, if_true, Bool.false_eq_true, if_false, ne_eq, reduceCtorEq, not_false_eq_true, not_true_eq_false, Bool.true_eq_false, len_vis, lenV_fz, lenV_sl, lenV_nils, lenV_str, binV, intB, unV, ld_fp_int, ld_fp_bool, ld_fp_str, ld_fp_fz, ld_fp_vis, ld_fp_sl, ld_fp_nils, ld_fp_ptr, ld_fp_fpp, ld_fp_nilp, ld_bx_int, ld_bx_bool, ld_bx_str, ld_bx_fz, ld_bx_vis, ld_bx_sl, ld_bx_nils, ld_bx_ptr, ld_bx_fpp, ld_bx_nilp, List.length_cons, List.length_nil, beq_self_eq_true, Bool.and_self, Bool.and_true, Bool.true_and, hw.1]
    refine Run.ite (by rfl) (fun hlta => ?_) (fun hgea => ?_)
    · have hlta : a < rows.length := by have := of_decide_eq_true hlta; omega
      have hsa := wrap_succ (show a ≤ 1048576 by omega)
      have row : ∀ k, k < rows.length → idxaV (.fz (M.map fun l => .fz (l.map V.bool))) (.int .i64 (k : Int)) 1 false = some (.fp (.fz ((M.getD k []).map V.bool))) := fun k hk => by
        rw [idx_lst (f := fun l : List Bool => V.fz (l.map V.bool)) (l := M) (i := k) (by omega) (fun _ => rfl), getD_nat (by omega)]
      have cell : ∀ k j, k < rows.length → j < rows.length → idxaV (.fz ((M.getD k []).map V.bool)) (.int .i64 (j : Int)) 1 false = some (.fp (.bool ((M.getD k []).getD j false))) := fun k j hk hj => by
        have : j < (M.getD k []).length := by rw [getD_nat (by omega), hMr _ (List.getElem_mem (by omega : k < M.length))]; exact hj
        rw [idx_lst (f := V.bool) (l := M.getD k []) (i := j) this (fun _ => rfl), getD_nat this]
      refine Run.skip (Run.seq (Run.block (Run.seq ?_)))
      by_cases hab : a = b
      · have q : ((a : Int) != (b : Int)) = false := by simp; omega
        refine Run.rgn (RunO.all ?_); simp only [i11r17, exOps_nil, exOps_cons, bindO_some, mapQ_some, mapW_some, x_mov, x_pick, x_bin, x_un, x_cvt, x_ld, x_b2s, x_idxa, x_idxs, x_fld, x_flda, x_boxf, x_boxr, x_bld, x_bslf, x_slc, x_len, x_ext, x_nchk, x_mkf, x_mki, xl_ld, xl_b2s, x_st, x_boxh, x_alloc, x_bslh, x_mks, x_app, exOp_gt, exOp_gf, exOp_gf2, exOp_gs, put_some, put_none, ev_t, ev_c, List.getD_cons_zero, List.getD_cons_succ, List.set_cons_zero, List.set_cons_succ, Option.map_some, Option.map_none, optB_some, if_true, Bool.false_eq_true, if_false, ne_eq, reduceCtorEq, not_false_eq_true, not_true_eq_false, Bool.true_eq_false, len_vis, lenV_fz, lenV_sl, lenV_nils, lenV_str, binV, intB, unV, ld_fp_int, ld_fp_bool, ld_fp_str, ld_fp_fz, ld_fp_vis, ld_fp_sl, ld_fp_nils, ld_fp_ptr, ld_fp_fpp, ld_fp_nilp, ld_bx_int, ld_bx_bool, ld_bx_str, ld_bx_fz, ld_bx_vis, ld_bx_sl, ld_bx_nils, ld_bx_ptr, ld_bx_fpp, ld_bx_nilp, List.length_cons, List.length_nil, beq_self_eq_true, Bool.and_self, Bool.and_true, Bool.true_and, q]
        refine Run.ite (by rfl) (fun h => by cases h) (fun _ => ?_)
        refine Run.skip ?_
        refine Run.rgn (RunO.all ?_); simp only [i11r22, exOps_nil, exOps_cons, bindO_some, mapQ_some, mapW_some, x_mov, x_pick, x_bin, x_un, x_cvt, x_ld, x_b2s, x_idxa, x_idxs, x_fld, x_flda, x_boxf, x_boxr, x_bld, x_bslf, x_slc, x_len, x_ext, x_nchk, x_mkf, x_mki, xl_ld, xl_b2s, x_st, x_boxh, x_alloc, x_bslh, x_mks, x_app, exOp_gt, exOp_gf, exOp_gf2, exOp_gs, put_some, put_none, ev_t, ev_c, List.getD_cons_zero, List.getD_cons_succ, List.set_cons_zero, List.set_cons_succ, Option.map_some, Option.map_none, optB_some, if_true, Bool.false_eq_true, if_false, ne_eq, reduceCtorEq, not_false_eq_true, not_true_eq_false, Bool.true_eq_false, len_vis, lenV_fz, lenV_sl, lenV_nils, lenV_str, binV, intB, unV, ld_fp_int, ld_fp_bool, ld_fp_str, ld_fp_fz, ld_fp_vis, ld_fp_sl, ld_fp_nils, ld_fp_ptr, ld_fp_fpp, ld_fp_nilp, ld_bx_int, ld_bx_bool, ld_bx_str, ld_bx_fz, ld_bx_vis, ld_bx_sl, ld_bx_nils, ld_bx_ptr, ld_bx_fpp, ld_bx_nilp, List.length_cons, List.length_nil, beq_self_eq_true, Bool.and_self, Bool.and_true, Bool.true_and, hsa]
        refine ⟨rows.length - (a + 1), by omega, a + 1, near, by omega, rfl, rfl, ?_, (by simp only [clrEnv, List.set_cons_zero, List.set_cons_succ, vi, vis, Int.natCast_zero, Int.natCast_add, Int.natCast_one, i11e25])⟩
        rcases hnear with ⟨h1, h2⟩ | ⟨m, h1, h2, h3, h4, h5, h6⟩
        · exact .inl ⟨h1, fun a' ha' hne => h2 a' (by omega) hne⟩
        · exact .inr ⟨m, h1, h2, h3, h4, h5, fun a' ha' hne => h6 a' (by omega) hne⟩
      have q : ((a : Int) != (b : Int)) = true := by simp; omega
      cases hMab : (M.getD a []).getD b false with
      | false =>
        refine Run.rgn (RunO.all ?_); simp only [i11r17, exOps_nil, exOps_cons, bindO_some, mapQ_some, mapW_some, x_mov, x_pick, x_bin, x_un, x_cvt, x_ld, x_b2s, x_idxa, x_idxs, x_fld, x_flda, x_boxf, x_boxr, x_bld, x_bslf, x_slc, x_len, x_ext, x_nchk, x_mkf, x_mki, xl_ld, xl_b2s, x_st, x_boxh, x_alloc, x_bslh, x_mks, x_app, exOp_gt, exOp_gf, exOp_gf2, exOp_gs, put_some, put_none, ev_t, ev_c, List.getD_cons_zero, List.getD_cons_succ, List.set_cons_zero, List.set_cons_succ, Option.map_some, Option.map_none, optB_some, if_true, Bool.false_eq_true, if_false, ne_eq, reduceCtorEq, not_false_eq_true, not_true_eq_false, Bool.true_eq_false, len_vis, lenV_fz, lenV_sl, lenV_nils, lenV_str, binV, intB, unV, ld_fp_int, ld_fp_bool, ld_fp_str, ld_fp_fz, ld_fp_vis, ld_fp_sl, ld_fp_nils, ld_fp_ptr, ld_fp_fpp, ld_fp_nilp, ld_bx_int, ld_bx_bool, ld_bx_str, ld_bx_fz, ld_bx_vis, ld_bx_sl, ld_bx_nils, ld_bx_ptr, ld_bx_fpp, ld_bx_nilp, List.length_cons, List.length_nil, beq_self_eq_true, Bool.and_self, Bool.and_true, Bool.true_and, q, row a hlta, cell a b hlta hlt, hMab]
        refine Run.ite (by rfl) (fun h => by cases h) (fun _ => ?_)
        refine Run.skip ?_
        refine Run.rgn (RunO.all ?_); simp only [i11r22, exOps_nil, exOps_cons, bindO_some, mapQ_some, mapW_some, x_mov, x_pick, x_bin, x_un, x_cvt, x_ld, x_b2s, x_idxa, x_idxs, x_fld, x_flda, x_boxf, x_boxr, x_bld, x_bslf, x_slc, x_len, x_ext, x_nchk, x_mkf, x_mki, xl_ld, xl_b2s, x_st, x_boxh, x_alloc, x_bslh, x_mks, x_app, exOp_gt, exOp_gf, exOp_gf2, exOp_gs, put_some, put_none, ev_t, ev_c, List.getD_cons_zero, List.getD_cons_succ, List.set_cons_zero, List.set_cons_succ, Option.map_some, Option.map_none, optB_some, if_true, Bool.false_eq_true, if_false, ne_eq, reduceCtorEq, not_false_eq_true, not_true_eq_false, Bool.true_eq_false, len_vis, lenV_fz, lenV_sl, lenV_nils, lenV_str, binV, intB, unV, ld_fp_int, ld_fp_bool, ld_fp_str, ld_fp_fz, ld_fp_vis, ld_fp_sl, ld_fp_nils, ld_fp_ptr, ld_fp_fpp, ld_fp_nilp, ld_bx_int, ld_bx_bool, ld_bx_str, ld_bx_fz, ld_bx_vis, ld_bx_sl, ld_bx_nils, ld_bx_ptr, ld_bx_fpp, ld_bx_nilp, List.length_cons, List.length_nil, beq_self_eq_true, Bool.and_self, Bool.and_true, Bool.true_and, hsa]
        refine ⟨rows.length - (a + 1), by omega, a + 1, near, by omega, rfl, rfl, ?_, (by simp only [clrEnv, List.set_cons_zero, List.set_cons_succ, vi, vis, Int.natCast_zero, Int.natCast_add, Int.natCast_one, i11e25])⟩
        have hn : RB (Ed rows) b → ¬ DB (Ed rows) a b := fun hr hd => by
          have := (hMs a b hlta).2 ⟨hd.reach hr, hr, hd⟩
          rw [hMab] at this; cases this
        rcases hnear with ⟨h1, h2⟩ | ⟨m, h1, h2, h3, h4, h5, h6⟩
        · refine .inl ⟨h1, fun a' ha' hne => ?_⟩
          by_cases c : a' = a
          · subst c; exact hn
          · exact h2 a' (by omega) hne
        · refine .inr ⟨m, h1, h2, h3, h4, h5, fun a' ha' hne hd => ?_⟩
          by_cases c : a' = a
          · subst c; exact absurd hd (hn h4)
          · exact h6 a' (by omega) hne hd
      | true =>
        obtain ⟨r1, r2, r3⟩ := (hMs a b hlta).1 hMab
        rcases hnear with ⟨h1, h2⟩ | ⟨m, h1, h2, h3, h4, h5, h6⟩
        · subst h1
          refine Run.rgn (RunO.all ?_); simp only [i11r17, exOps_nil, exOps_cons, bindO_some, mapQ_some, mapW_some, x_mov, x_pick, x_bin, x_un, x_cvt, x_ld, x_b2s, x_idxa, x_idxs, x_fld, x_flda, x_boxf, x_boxr, x_bld, x_bslf, x_slc, x_len, x_ext, x_nchk, x_mkf, x_mki, xl_ld, xl_b2s, x_st, x_boxh, x_alloc, x_bslh, x_mks, x_app, exOp_gt, exOp_gf, exOp_gf2, exOp_gs, put_some, put_none, ev_t, ev_c, List.getD_cons_zero, List.getD_cons_succ, List.set_cons_zero, List.set_cons_succ, Option.map_some, Option.map_none, optB_some, if_true, Bool.false_eq_true, if_false, ne_eq, reduceCtorEq, not_false_eq_true, not_true_eq_false, Bool.true_eq_false, len_vis, lenV_fz, lenV_sl, lenV_nils, lenV_str, binV, intB, unV, ld_fp_int, ld_fp_bool, ld_fp_str, ld_fp_fz, ld_fp_vis, ld_fp_sl, ld_fp_nils, ld_fp_ptr, ld_fp_fpp, ld_fp_nilp, ld_bx_int, ld_bx_bool, ld_bx_str, ld_bx_fz, ld_bx_vis, ld_bx_sl, ld_bx_nils, ld_bx_ptr, ld_bx_fpp, ld_bx_nilp, List.length_cons, List.length_nil, beq_self_eq_true, Bool.and_self, Bool.and_true, Bool.true_and, q, row a hlta, cell a b hlta hlt, hMab, show decide ((-1 : Int) < 0) = true from rfl]
          refine Run.ite (by rfl) (fun _ => ?_) (fun h => by cases h)
          refine Run.rgn (RunO.all ?_); simp only [i11r18, exOps_nil, exOps_cons, bindO_some, mapQ_some, mapW_some, x_mov, x_pick, x_bin, x_un, x_cvt, x_ld, x_b2s, x_idxa, x_idxs, x_fld, x_flda, x_boxf, x_boxr, x_bld, x_bslf, x_slc, x_len, x_ext, x_nchk, x_mkf, x_mki, xl_ld, xl_b2s, x_st, x_boxh, x_alloc, x_bslh, x_mks, x_app, exOp_gt, exOp_gf, exOp_gf2, exOp_gs, put_some, put_none, ev_t, ev_c, List.getD_cons_zero, List.getD_cons_succ, List.set_cons_zero, List.set_cons_succ, Option.map_some, Option.map_none, optB_some, if_true, Bool.false_eq_true, if_false, ne_eq, reduceCtorEq, not_false_eq_true, not_true_eq_false, Bool.true_eq_false, len_vis, lenV_fz, lenV_sl, lenV_nils, lenV_str, binV, intB, unV, ld_fp_int, ld_fp_bool, ld_fp_str, ld_fp_fz, ld_fp_vis, ld_fp_sl, ld_fp_nils, ld_fp_ptr, ld_fp_fpp, ld_fp_nilp, ld_bx_int, ld_bx_bool, ld_bx_str, ld_bx_fz, ld_bx_vis, ld_bx_sl, ld_bx_nils, ld_bx_ptr, ld_bx_fpp, ld_bx_nilp, List.length_cons, List.length_nil, beq_self_eq_true, Bool.and_self, Bool.and_true, Bool.true_and]
          refine Run.rgn (RunO.all ?_); simp only [i11r22, exOps_nil, exOps_cons, bindO_some, mapQ_some, mapW_some, x_mov, x_pick, x_bin, x_un, x_cvt, x_ld, x_b2s, x_idxa, x_idxs, x_fld, x_flda, x_boxf, x_boxr, x_bld, x_bslf, x_slc, x_len, x_ext, x_nchk, x_mkf, x_mki, xl_ld, xl_b2s, x_st, x_boxh, x_alloc, x_bslh, x_mks, x_app, exOp_gt, exOp_gf, exOp_gf2, exOp_gs, put_some, put_none, ev_t, ev_c, List.getD_cons_zero, List.getD_cons_succ, List.set_cons_zero, List.set_cons_succ, Option.map_some, Option.map_none, optB_some, if_true, Bool.false_eq_true, if_false, ne_eq, reduceCtorEq, not_false_eq_true, not_true_eq_false, Bool.true_eq_false, len_vis, lenV_fz, lenV_sl, lenV_nils, lenV_str, binV, intB, unV, ld_fp_int, ld_fp_bool, ld_fp_str, ld_fp_fz, ld_fp_vis, ld_fp_sl, ld_fp_nils, ld_fp_ptr, ld_fp_fpp, ld_fp_nilp, ld_bx_int, ld_bx_bool, ld_bx_str, ld_bx_fz, ld_bx_vis, ld_bx_sl, ld_bx_nils, ld_bx_ptr, ld_bx_fpp, ld_bx_nilp, List.length_cons, List.length_nil, beq_self_eq_true, Bool.and_self, Bool.and_true, Bool.true_and, hsa]
          refine ⟨rows.length - (a + 1), by omega, a + 1, (a : Int), by omega, rfl, rfl, .inr ⟨a, rfl, hlta, hab, r2, r3, fun a' ha' hne hd => ?_⟩, (by simp only [clrEnv, List.set_cons_zero, List.set_cons_succ, vi, vis, Int.natCast_zero, Int.natCast_add, Int.natCast_one, i11e25])⟩
          by_cases c : a' = a
          · subst c; exact DB.refl _
          · exact absurd hd (h2 a' (by omega) hne r2)
        · subst h1
          cases hMma : (M.getD m []).getD a false with
          | true =>
            obtain ⟨_, _, r4⟩ := (hMs m a h2).1 hMma
            refine Run.rgn (RunO.all ?_); simp only [i11r17, exOps_nil, exOps_cons, bindO_some, mapQ_some, mapW_some, x_mov, x_pick, x_bin, x_un, x_cvt, x_ld, x_b2s, x_idxa, x_idxs, x_fld, x_flda, x_boxf, x_boxr, x_bld, x_bslf, x_slc, x_len, x_ext, x_nchk, x_mkf, x_mki, xl_ld, xl_b2s, x_st, x_boxh, x_alloc, x_bslh, x_mks, x_app, exOp_gt, exOp_gf, exOp_gf2, exOp_gs, put_some, put_none, ev_t, ev_c, List.getD_cons_zero, List.getD_cons_succ, List.set_cons_zero, List.set_cons_succ, Option.map_some, Option.map_none, optB_some, if_true, Bool.false_eq_true, if_false, ne_eq, reduceCtorEq, not_false_eq_true, not_true_eq_false, Bool.true_eq_false, len_vis, lenV_fz, lenV_sl, lenV_nils, lenV_str, binV, intB, unV, ld_fp_int, ld_fp_bool, ld_fp_str, ld_fp_fz, ld_fp_vis, ld_fp_sl, ld_fp_nils, ld_fp_ptr, ld_fp_fpp, ld_fp_nilp, ld_bx_int, ld_bx_bool, ld_bx_str, ld_bx_fz, ld_bx_vis, ld_bx_sl, ld_bx_nils, ld_bx_ptr, ld_bx_fpp, ld_bx_nilp, List.length_cons, List.length_nil, beq_self_eq_true, Bool.and_self, Bool.and_true, Bool.true_and, q, row a hlta, cell a b hlta hlt, hMab, decide_eq_false (show ¬ (m : Int) < 0 by omega), row m h2, cell m a h2 hlta, hMma]
            refine Run.ite (by rfl) (fun _ => ?_) (fun h => by cases h)
            refine Run.rgn (RunO.all ?_); simp only [i11r18, exOps_nil, exOps_cons, bindO_some, mapQ_some, mapW_some, x_mov, x_pick, x_bin, x_un, x_cvt, x_ld, x_b2s, x_idxa, x_idxs, x_fld, x_flda, x_boxf, x_boxr, x_bld, x_bslf, x_slc, x_len, x_ext, x_nchk, x_mkf, x_mki, xl_ld, xl_b2s, x_st, x_boxh, x_alloc, x_bslh, x_mks, x_app, exOp_gt, exOp_gf, exOp_gf2, exOp_gs, put_some, put_none, ev_t, ev_c, List.getD_cons_zero, List.getD_cons_succ, List.set_cons_zero, List.set_cons_succ, Option.map_some, Option.map_none, optB_some, if_true, Bool.false_eq_true, if_false, ne_eq, reduceCtorEq, not_false_eq_true, not_true_eq_false, Bool.true_eq_false, len_vis, lenV_fz, lenV_sl, lenV_nils, lenV_str, binV, intB, unV, ld_fp_int, ld_fp_bool, ld_fp_str, ld_fp_fz, ld_fp_vis, ld_fp_sl, ld_fp_nils, ld_fp_ptr, ld_fp_fpp, ld_fp_nilp, ld_bx_int, ld_bx_bool, ld_bx_str, ld_bx_fz, ld_bx_vis, ld_bx_sl, ld_bx_nils, ld_bx_ptr, ld_bx_fpp, ld_bx_nilp, List.length_cons, List.length_nil, beq_self_eq_true, Bool.and_self, Bool.and_true, Bool.true_and]
            refine Run.rgn (RunO.all ?_); simp only [i11r22, exOps_nil, exOps_cons, bindO_some, mapQ_some, mapW_some, x_mov, x_pick, x_bin, x_un, x_cvt, x_ld, x_b2s, x_idxa, x_idxs, x_fld, x_flda, x_boxf, x_boxr, x_bld, x_bslf, x_slc, x_len, x_ext, x_nchk, x_mkf, x_mki, xl_ld, xl_b2s, x_st, x_boxh, x_alloc, x_bslh, x_mks, x_app, exOp_gt, exOp_gf, exOp_gf2, exOp_gs, put_some, put_none, ev_t, ev_c, List.getD_cons_zero, List.getD_cons_succ, List.set_cons_zero, List.set_cons_succ, Option.map_some, Option.map_none, optB_some, if_true, Bool.false_eq_true, if_false, ne_eq, reduceCtorEq, not_false_eq_true, not_true_eq_false, Bool.true_eq_false, len_vis, lenV_fz, lenV_sl, lenV_nils, lenV_str, binV, intB, unV, ld_fp_int, ld_fp_bool, ld_fp_str, ld_fp_fz, ld_fp_vis, ld_fp_sl, ld_fp_nils, ld_fp_ptr, ld_fp_fpp, ld_fp_nilp, ld_bx_int, ld_bx_bool, ld_bx_str, ld_bx_fz, ld_bx_vis, ld_bx_sl, ld_bx_nils, ld_bx_ptr, ld_bx_fpp, ld_bx_nilp, List.length_cons, List.length_nil, beq_self_eq_true, Bool.and_self, Bool.and_true, Bool.true_and, hsa]
            refine ⟨rows.length - (a + 1), by omega, a + 1, (a : Int), by omega, rfl, rfl, .inr ⟨a, rfl, hlta, hab, r2, r3, fun a' ha' hne hd => ?_⟩, (by simp only [clrEnv, List.set_cons_zero, List.set_cons_succ, vi, vis, Int.natCast_zero, Int.natCast_add, Int.natCast_one, i11e25])⟩
            by_cases c : a' = a
            · subst c; exact DB.refl _
            · exact (h6 a' (by omega) hne hd).trans r4
          | false =>
            refine Run.rgn (RunO.all ?_); simp only [i11r17, exOps_nil, exOps_cons, bindO_some, mapQ_some, mapW_some, x_mov, x_pick, x_bin, x_un, x_cvt, x_ld, x_b2s, x_idxa, x_idxs, x_fld, x_flda, x_boxf, x_boxr, x_bld, x_bslf, x_slc, x_len, x_ext, x_nchk, x_mkf, x_mki, xl_ld, xl_b2s, x_st, x_boxh, x_alloc, x_bslh, x_mks, x_app, exOp_gt, exOp_gf, exOp_gf2, exOp_gs, put_some, put_none, ev_t, ev_c, List.getD_cons_zero, List.getD_cons_succ, List.set_cons_zero, List.set_cons_succ, Option.map_some, Option.map_none, optB_some, if_true, Bool.false_eq_true, if_false, ne_eq, reduceCtorEq, not_false_eq_true, not_true_eq_false, Bool.true_eq_false, len_vis, lenV_fz, lenV_sl, lenV_nils, lenV_str, binV, intB, unV, ld_fp_int, ld_fp_bool, ld_fp_str, ld_fp_fz, ld_fp_vis, ld_fp_sl, ld_fp_nils, ld_fp_ptr, ld_fp_fpp, ld_fp_nilp, ld_bx_int, ld_bx_bool, ld_bx_str, ld_bx_fz, ld_bx_vis, ld_bx_sl, ld_bx_nils, ld_bx_ptr, ld_bx_fpp, ld_bx_nilp, List.length_cons, List.length_nil, beq_self_eq_true, Bool.and_self, Bool.and_true, Bool.true_and, q, row a hlta, cell a b hlta hlt, hMab, decide_eq_false (show ¬ (m : Int) < 0 by omega), row m h2, cell m a h2 hlta, hMma]
            refine Run.ite (by rfl) (fun h => by cases h) (fun _ => ?_)
            refine Run.skip ?_
            refine Run.rgn (RunO.all ?_); simp only [i11r22, exOps_nil, exOps_cons, bindO_some, mapQ_some, mapW_some, x_mov, x_pick, x_bin, x_un, x_cvt, x_ld, x_b2s, x_idxa, x_idxs, x_fld, x_flda, x_boxf, x_boxr, x_bld, x_bslf, x_slc, x_len, x_ext, x_nchk, x_mkf, x_mki, xl_ld, xl_b2s, x_st, x_boxh, x_alloc, x_bslh, x_mks, x_app, exOp_gt, exOp_gf, exOp_gf2, exOp_gs, put_some, put_none, ev_t, ev_c, List.getD_cons_zero, List.getD_cons_succ, List.set_cons_zero, List.set_cons_succ, Option.map_some, Option.map_none, optB_some, if_true, Bool.false_eq_true, if_false, ne_eq, reduceCtorEq, not_false_eq_true, not_true_eq_false, Bool.true_eq_false, len_vis, lenV_fz, lenV_sl, lenV_nils, lenV_str, binV, intB, unV, ld_fp_int, ld_fp_bool, ld_fp_str, ld_fp_fz, ld_fp_vis, ld_fp_sl, ld_fp_nils, ld_fp_ptr, ld_fp_fpp, ld_fp_nilp, ld_bx_int, ld_bx_bool, ld_bx_str, ld_bx_fz, ld_bx_vis, ld_bx_sl, ld_bx_nils, ld_bx_ptr, ld_bx_fpp, ld_bx_nilp, List.length_cons, List.length_nil, beq_self_eq_true, Bool.and_self, Bool.and_true, Bool.true_and, hsa]
            refine ⟨rows.length - (a + 1), by omega, a + 1, (m : Int), by omega, rfl, rfl, .inr ⟨m, rfl, h2, h3, h4, h5, fun a' ha' hne hd => ?_⟩, (by simp only [clrEnv, List.set_cons_zero, List.set_cons_succ, vi, vis, Int.natCast_zero, Int.natCast_add, Int.natCast_one, i11e25])⟩
            by_cases c : a' = a
            · subst c
              rcases DB.line hd h5 h4 with h | h
              · exact h
              · have := (hMs m a' h2).2 ⟨h5.reach h4, r1, h⟩
                rw [hMma] at this; cases this
            · exact h6 a' (by omega) hne hd
    · have hgea : a = rows.length := by have := of_decide_eq_false hgea; omega
      obtain ⟨v', h2, o1, o2⟩ := hO.app (by omega) near
      refine Run.exit ?_
      show Run T _ _ _ _
      refine Run.rgn (RunO.all ?_); simp only [i11r28, exOps_nil, exOps_cons, bindO_some, mapQ_some, mapW_some, x_mov, x_pick, x_bin, x_un, x_cvt, x_ld, x_b2s, x_idxa, x_idxs, x_fld, x_flda, x_boxf, x_boxr, x_bld, x_bslf, x_slc, x_len, x_ext, x_nchk, x_mkf, x_mki, xl_ld, xl_b2s, x_st, x_boxh, x_alloc, x_bslh, x_mks, x_app, exOp_gt, exOp_gf, exOp_gf2, exOp_gs, put_some, put_none, ev_t, ev_c, List.getD_cons_zero, List.getD_cons_succ, List.set_cons_zero, List.set_cons_succ, Option.map_some, Option.map_none, optB_some, if_true, Bool.false_eq_true, if_false, ne_eq, reduceCtorEq, not_false_eq_true, not_true_eq_false, Bool.true_eq_false, len_vis, lenV_fz, lenV_sl, lenV_nils, lenV_str, binV, intB, unV, ld_fp_int, ld_fp_bool, ld_fp_str, ld_fp_fz, ld_fp_vis, ld_fp_sl, ld_fp_nils, ld_fp_ptr, ld_fp_fpp, ld_fp_nilp, ld_bx_int, ld_bx_bool, ld_bx_str, ld_bx_fz, ld_bx_vis, ld_bx_sl, ld_bx_nils, ld_bx_ptr, ld_bx_fpp, ld_bx_nilp, List.length_cons, List.length_nil, beq_self_eq_true, Bool.and_self, Bool.and_true, Bool.true_and, List.map_cons, List.map_nil, bsl_i64, o1]
      refine Run.rgn (RunO.all ?_); simp only [i11r32, exOps_nil, exOps_cons, bindO_some, mapQ_some, mapW_some, x_mov, x_pick, x_bin, x_un, x_cvt, x_ld, x_b2s, x_idxa, x_idxs, x_fld, x_flda, x_boxf, x_boxr, x_bld, x_bslf, x_slc, x_len, x_ext, x_nchk, x_mkf, x_mki, xl_ld, xl_b2s, x_st, x_boxh, x_alloc, x_bslh, x_mks, x_app, exOp_gt, exOp_gf, exOp_gf2, exOp_gs, put_some, put_none, ev_t, ev_c, List.getD_cons_zero, List.getD_cons_succ, List.set_cons_zero, List.set_cons_succ, Option.map_some, Option.map_none, optB_some, if_true, Bool.false_eq_true, if_false, ne_eq, reduceCtorEq, not_false_eq_true, not_true_eq_false, Bool.true_eq_false, len_vis, lenV_fz, lenV_sl, lenV_nils, lenV_str, binV, intB, unV, ld_fp_int, ld_fp_bool, ld_fp_str, ld_fp_fz, ld_fp_vis, ld_fp_sl, ld_fp_nils, ld_fp_ptr, ld_fp_fpp, ld_fp_nilp, ld_bx_int, ld_bx_bool, ld_bx_str, ld_bx_fz, ld_bx_vis, ld_bx_sl, ld_bx_nils, ld_bx_ptr, ld_bx_fpp, ld_bx_nilp, List.length_cons, List.length_nil, beq_self_eq_true, Bool.and_self, Bool.and_true, Bool.true_and, wrap_succ (show b ≤ 1048576 by omega)]
      have hsame : ∀ y, y < b → (out ++ [near]).getD y (-1) = out.getD y (-1) := fun y hy => by simp only [List.getD, List.getElem?_append_left (show y < out.length by omega)]
      have hnew : (out ++ [near]).getD b (-1) = near := by rw [← hb]; simp [List.getD]
      have hlen : (out ++ [near]).length = b + 1 := by simp [hb]
      refine ⟨rows.length - (b + 1), by omega, out ++ [near], v', by omega, by rw [hlen], o2, ?_, ?_, (by simp only [clrEnv, List.set_cons_zero, List.set_cons_succ, vi, vis, Int.natCast_zero, Int.natCast_add, Int.natCast_one, i11e35, hlen])⟩
      · intro y hy hy2
        by_cases c : y = b
        · subst c
          rw [hnew]
          rcases hnear with ⟨h1, _⟩ | ⟨m, h1, h2, h3, h4, h5, h6⟩
          · exact h1
          · exfalso
            rcases hy2 with rfl | h
            · have := h5 [0] .nil
              exact h3 (List.mem_singleton.1 this)
            · exact h h4
        · rw [hsame y (by omega)]; exact hno y (by omega) hy2
      · intro y hy hr h0
        by_cases c : y = b
        · subst c
          rw [hnew]
          rcases hnear with ⟨h1, h2⟩ | ⟨m, h1, h2, h3, h4, h5, h6⟩
          · exact absurd (DB.zero y) (h2 0 (by omega) (fun h => h0 h.symm) hr)
          · exact ⟨m, h1, h3, h5, fun d hd hdb => h6 d (by rw [hgea]; exact rb_lt hok (hdb.reach hr)) hd hdb⟩
        · rw [hsame y (by omega)]; exact hyes y (by omega) hr h0
  · have hge : out.length = rows.length := by have := of_decide_eq_false hge; omega
    refine Run.exit ?_
    show Run T _ _ _ _
    refine Run.seqr ?_; simp only [i11r38, exOps_nil, exOps_cons, bindO_some, mapQ_some, mapW_some, x_mov, x_pick, x_bin, x_un, x_cvt, x_ld, x_b2s, x_idxa, x_idxs, x_fld, x_flda, x_boxf, x_boxr, x_bld, x_bslf, x_slc, x_len, x_ext, x_nchk, x_mkf, x_mki, xl_ld, xl_b2s, x_st, x_boxh, x_alloc, x_bslh, x_mks, x_app, exOp_gt, exOp_gf, exOp_gf2, exOp_gs, put_some, put_none, ev_t, ev_c, List.getD_cons_zero, List.getD_cons_succ, List.set_cons_zero, List.set_cons_succ, Option.map_some, Option.map_none, optB_some, if_true, Bool.false_eq_true, if_false, ne_eq, reduceCtorEq, not_false_eq_true, not_true_eq_false, Bool.true_eq_false, len_vis, lenV_fz, lenV_sl, lenV_nils, lenV_str, binV, intB, unV, ld_fp_int, ld_fp_bool, ld_fp_str, ld_fp_fz, ld_fp_vis, ld_fp_sl, ld_fp_nils, ld_fp_ptr, ld_fp_fpp, ld_fp_nilp, ld_bx_int, ld_bx_bool, ld_bx_str, ld_bx_fz, ld_bx_vis, ld_bx_sl, ld_bx_nils, ld_bx_ptr, ld_bx_fpp, ld_bx_nilp, List.length_cons, List.length_nil, beq_self_eq_true, Bool.and_self, Bool.and_true, Bool.true_and]
    obtain ⟨w, o1, o2⟩ := hO.deep
    refine Run.ret (.inr ⟨hok, w, out, ?_, o2, hge, fun b hb => hno b (by omega), fun b hb h0 => hyes b (by rw [hge]; exact rb_lt hok hb) hb h0⟩)
    have o3 : omap (Go.Eng.deep false h 39) [v, .int .i64 0] = some [w, .int .i64 0] := by
      have o4 : Go.Eng.deep false h 39 (.int .i64 0) = some (.int .i64 0) := rfl
      simp only [omap, o1, o4]
    show (omap (Go.Eng.deep false h 39) [v, .int .i64 0]).map V.tup = _
    rw [o3]; rfl
end Go.Eng.Dom
