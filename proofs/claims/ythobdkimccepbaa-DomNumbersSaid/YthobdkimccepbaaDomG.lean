/- Functions of this seat, run on unknown values by the rules of the small machine (no condition beyond those stated). -/
import Derived.Test.YthobdkimccepbaaDomF
namespace Go.Eng.Dom
open Go Go.Eng DomMath
set_option linter.unusedVariables false
set_option linter.unusedSimpArgs false

theorem ew_none {rows : List (List Int)} (b : Nat) : RB (Ew rows (-1)) b ↔ RB (Ed rows) b := by
  constructor
  · rintro ⟨l, h⟩
    induction h with
    | nil => exact .zero
    | step _ e ih => exact ih.step e.1
  · rintro ⟨l, h⟩
    induction h with
    | nil => exact .zero
    | step _ e ih => exact ih.step ⟨e, by omega⟩
theorem ew_way {rows : List (List Int)} {a b : Nat} (hab : a ≠ b) : RB (Ew rows (a : Int)) b ↔ ∃ l, Wy (Ed rows) b l ∧ a ∉ l := by
  constructor
  · rintro ⟨l, h⟩
    have key : ∀ {y l}, Wy (Ew rows (a : Int)) y l → a ≠ y → ∃ l, Wy (Ed rows) y l ∧ a ∉ l := by
      intro y l h
      induction h with
      | nil => intro h; exact ⟨_, .nil, by simpa using h⟩
      | @step l x y _ e ih =>
        intro h
        obtain ⟨l, h1, h2⟩ := ih (fun c => e.2 (by omega))
        exact ⟨_, h1.step e.1, by simp [h, h2]⟩
    exact key h hab
  · rintro ⟨l, h, hn⟩
    induction h with
    | nil => exact .zero
    | @step l x y hw e ih =>
      have h1 : a ∉ l := fun h => hn (List.mem_cons_of_mem _ h)
      have h2 : a ≠ x := fun c => h1 (by subst c; cases hw <;> simp)
      exact (ih h2 h1).step ⟨e, by omega⟩
theorem ew_dom {rows : List (List Int)} {a b : Nat} (hab : a ≠ b) : ¬ RB (Ew rows (a : Int)) b ↔ DB (Ed rows) a b := by
  rw [ew_way hab]
  constructor
  · intro h l hl
    false_or_by_contra
    rename_i hn
    exact h ⟨l, hl, hn⟩
  · rintro h ⟨l, hl, hn⟩
    exact hn (h l hl)

theorem refReachedC {ws : List V} {rows : List (List Int)} (hw : IsRows ws rows) (S : Small rows) (hok : okn rows = true) (x : Int) (H : Heap) (hf : V.free deepN (.fz ws) = true) :
    ∃ met : List Bool, met.length = rows.length ∧ (∀ b, met.getD b false = true ↔ RB (Ew rows x) b) ∧ PC T H 30 [.fz ws, vi x] (.fz (met.map V.bool)) := by
  obtain ⟨w, ⟨met, rfl, h1, h2⟩, h3⟩ := PC.ex (T := T) (H := H) (f := 30) (args := [.fz ws, vi x]) (P := fun w => ∃ met : List Bool, w = .fz (met.map V.bool) ∧ met.length = rows.length ∧ ∀ b, met.getD b false = true ↔ RB (Ew rows x) b)
    (by rw [List.all_cons, hf]; rfl) ((refReached hw S hok x).mono fun r h ⟨met, h1, h2, h3⟩ => ⟨_, h1, met, rfl, h2, h3⟩)
  exact ⟨met, h1, h2, h3⟩

/-- rows of answers in a heap -/
def outS (n k : Nat) : List V := (List.range k).map (fun i => V.sl (i + 1) 0 0 n 1 false) ++ List.replicate (n - k) .nils
def gridB (M : List (List Bool)) (n : Nat) : Heap := (0, outS n M.length) :: M.map (fun l => (0, l.map V.bool))
theorem outS_len {n k : Nat} (h : k ≤ n) : (outS n k).length = n := by simp [outS]; omega
theorem outS_set {n k : Nat} (h : k < n) : (outS n k).set k (.sl (k + 1) 0 0 n 1 false) = outS n (k + 1) := by
  unfold outS
  rw [List.set_append_right _ _ (by simp), List.range_succ, List.map_append]
  simp only [List.length_map, List.length_range, Nat.sub_self, List.map_cons, List.map_nil, List.append_assoc]
  rw [show n - k = (n - (k + 1)) + 1 by omega, List.replicate_succ, List.set_cons_zero]
  rfl
theorem outS_get {n k i : Nat} (h : i < k) : (outS n k)[i]? = some (.sl (i + 1) 0 0 n 1 false) := by
  unfold outS
  rw [List.getElem?_append_left (by simpa using h)]
  simp [h]
theorem grid_row (M : List (List Bool)) (l : List Bool) (n k : Nat) (h : k = M.length) : rdB (gridB (M ++ [l]) n) (k + 1) 0 = some (l.map V.bool) := by
  subst h
  unfold gridB
  rw [rdB_s]
  unfold rdB
  simp
theorem grid_set (M : List (List Bool)) (l l' : List Bool) (n k : Nat) (h : k = M.length) : (gridB (M ++ [l]) n).set (k + 1) (0, l'.map V.bool) = gridB (M ++ [l']) n := by
  subst h
  unfold gridB
  simp [List.set_append_right]
theorem grid_deep {M : List (List Bool)} {n : Nat} (hl : M.length = n) (hr : ∀ l ∈ M, l.length = n) : deep false (gridB M n) deepN (.sl 0 0 0 n 1 false) = some (.fz (M.map fun l => .fz (l.map V.bool))) := by
  have h1 : (List.range n).map (fun i => V.fz ((M.getD i []).map V.bool)) = M.map fun l => V.fz (l.map V.bool) := by
    refine List.ext_getElem (by simp [hl]) fun i h1 h2 => ?_
    have : i < M.length := by simpa using h2
    simp [List.getD, this]
  have h0 : rdB (gridB M n) 0 0 = some ((List.range n).map fun i => V.sl (i + 1) 0 0 n 1 false) := by
    unfold gridB outS
    rw [rdB_0, hl, Nat.sub_self, List.replicate_zero, List.append_nil]
  have := deep_map (f := fun i => V.sl (i + 1) 0 0 n 1 false) (u := fun i => V.fz ((M.getD i []).map V.bool)) (strict := false) (H := gridB M n) (n := 39) (c := 0) (g := 0) (r := List.range n) (fun i hi => ?_) (fun _ => rfl) h0
  · rw [h1, List.length_range] at this; exact this
  · have hi : i < M.length := by rw [hl]; exact List.mem_range.1 hi
    have e : rdB (gridB M n) (i + 1) 0 = some ((M.getD i []).map V.bool) := by
      unfold gridB
      rw [rdB_s]
      unfold rdB
      simp [List.getD, hi]
    have e2 : (M.getD i []).length = n := by rw [getD_nat hi]; exact hr _ (List.getElem_mem hi)
    have := deep_map (f := V.bool) (u := V.bool) (strict := false) (H := gridB M n) (n := 38) (c := i + 1) (g := 0) (r := M.getD i []) (fun _ _ => rfl) (fun _ => rfl) e
    rw [e2] at this
    exact this

theorem grid_len (M : List (List Bool)) (n : Nat) : (gridB M n).length = M.length + 1 := by simp [gridB]
theorem grid_new {M : List (List Bool)} {n : Nat} (l : List Bool) (h : M.length < n) : stV (gridB M n ++ [(0, l.map V.bool)]) (.ptr 0 0 M.length) (.sl (gridB M n).length 0 0 n 1 false) none = some (gridB (M ++ [l]) n) := by
  rw [grid_len]
  rw [st_at (cs := outS n M.length) (by unfold gridB; rw [List.cons_append, rdB_0]) (by rw [outS_len (by omega)]; exact h) rfl, outS_set h]
  simp [gridB]

set_option maxHeartbeats 1000000 in
theorem refOvers {ws : List V} {rows : List (List Int)} (hw : IsRows ws rows) (S : Small rows) (hok : okn rows = true) (hf : V.free deepN (.fz ws) = true) :
    Fn T 26 [.fz ws] [] (fun r h => ∃ M : List (List Bool), deep false h deepN r = some (.fz (M.map fun l => .fz (l.map V.bool))) ∧ M.length = rows.length ∧ (∀ l ∈ M, l.length = rows.length) ∧
      ∀ a b, a < rows.length → ((M.getD a []).getD b false = true ↔ RB (Ed rows) a ∧ RB (Ed rows) b ∧ DB (Ed rows) a b)) := by
  have hnl := S.len
  refine Fn.enter t26 ?_; simp only [i26, List.length_cons, List.length_nil, Nat.reduceAdd, Nat.reduceSub, List.replicate_succ, List.replicate_zero, List.cons_append, List.nil_append]
  refine Run.seqr ?_; simp only [i26r0, exOps_nil, exOps_cons, bindO_some, mapQ_some, mapW_some, x_mov, x_pick, x_bin, x_un, x_cvt, x_ld, x_b2s, x_idxa, x_idxs, x_fld, x_flda, x_boxf, x_boxr, x_bld, x_bslf, x_slc, x_len, x_ext, x_nchk, x_mkf, x_mki, xl_ld, xl_b2s, x_st, x_boxh, x_alloc, x_bslh, x_mks, x_app, exOp_gt, exOp_gf, exOp_gf2, exOp_gs, put_some, put_none, ev_t, ev_c, List.getD_cons_zero, List.getD_cons_succ, List.set_cons_zero, List.set_cons_succ, Option.map_some, Option.map_none, optB_some, if_true, Bool.false_eq_true, if_false, ne_eq, reduceCtorEq, not_false_eq_true, not_true_eq_false, Bool.true_eq_false, len_vis, lenV_fz, lenV_sl, lenV_nils, lenV_str, binV, intB, unV, ld_fp_int, ld_fp_bool, ld_fp_str, ld_fp_fz, ld_fp_vis, ld_fp_sl, ld_fp_nils, ld_fp_ptr, ld_fp_fpp, ld_fp_nilp, ld_bx_int, ld_bx_bool, ld_bx_str, ld_bx_fz, ld_bx_vis, ld_bx_sl, ld_bx_nils, ld_bx_ptr, ld_bx_fpp, ld_bx_nilp, List.length_cons, List.length_nil, beq_self_eq_true, Bool.and_self, Bool.and_true, Bool.true_and]
  obtain ⟨all, all1, all2, all3⟩ := refReachedC hw S hok (-1) [] hf
  refine Run.seq (Run.rgn ?_)
  refine RunO.pre 1 ?_; simp only [i26r1, List.take_succ_cons, List.take_zero, List.drop_succ_cons, List.drop_zero, exOps_nil, exOps_cons, bindO_some, mapQ_some, mapW_some, x_mov, x_pick, x_bin, x_un, x_cvt, x_ld, x_b2s, x_idxa, x_idxs, x_fld, x_flda, x_boxf, x_boxr, x_bld, x_bslf, x_slc, x_len, x_ext, x_nchk, x_mkf, x_mki, xl_ld, xl_b2s, x_st, x_boxh, x_alloc, x_bslh, x_mks, x_app, exOp_gt, exOp_gf, exOp_gf2, exOp_gs, put_some, put_none, ev_t, ev_c, List.getD_cons_zero, List.getD_cons_succ, List.set_cons_zero, List.set_cons_succ, Option.map_some, Option.map_none, optB_some, if_true, Bool.false_eq_true, if_false, ne_eq, reduceCtorEq, not_false_eq_true, not_true_eq_false, Bool.true_eq_false, len_vis, lenV_fz, lenV_sl, lenV_nils, lenV_str, binV, intB, unV, ld_fp_int, ld_fp_bool, ld_fp_str, ld_fp_fz, ld_fp_vis, ld_fp_sl, ld_fp_nils, ld_fp_ptr, ld_fp_fpp, ld_fp_nilp, ld_bx_int, ld_bx_bool, ld_bx_str, ld_bx_fz, ld_bx_vis, ld_bx_sl, ld_bx_nils, ld_bx_ptr, ld_bx_fpp, ld_bx_nilp, List.length_cons, List.length_nil, beq_self_eq_true, Bool.and_self, Bool.and_true, Bool.true_and]
  refine RunO.c all3 ?_
  refine RunO.all ?_; simp only [exOps_nil, exOps_cons, bindO_some, mapQ_some, mapW_some, x_mov, x_pick, x_bin, x_un, x_cvt, x_ld, x_b2s, x_idxa, x_idxs, x_fld, x_flda, x_boxf, x_boxr, x_bld, x_bslf, x_slc, x_len, x_ext, x_nchk, x_mkf, x_mki, xl_ld, xl_b2s, x_st, x_boxh, x_alloc, x_bslh, x_mks, x_app, exOp_gt, exOp_gf, exOp_gf2, exOp_gs, put_some, put_none, ev_t, ev_c, List.getD_cons_zero, List.getD_cons_succ, List.set_cons_zero, List.set_cons_succ, Option.map_some, Option.map_none, optB_some, if_true, Bool.false_eq_true, if_false, ne_eq, reduceCtorEq, not_false_eq_true, not_true_eq_false, Bool.true_eq_false, len_vis, lenV_fz, lenV_sl, lenV_nils, lenV_str, binV, intB, unV, ld_fp_int, ld_fp_bool, ld_fp_str, ld_fp_fz, ld_fp_vis, ld_fp_sl, ld_fp_nils, ld_fp_ptr, ld_fp_fpp, ld_fp_nilp, ld_bx_int, ld_bx_bool, ld_bx_str, ld_bx_fz, ld_bx_vis, ld_bx_sl, ld_bx_nils, ld_bx_ptr, ld_bx_fpp, ld_bx_nilp, List.length_cons, List.length_nil, beq_self_eq_true, Bool.and_self, Bool.and_true, Bool.true_and]
  refine Run.seqr ?_; simp only [i26r2, exOps_nil, exOps_cons, bindO_some, mapQ_some, mapW_some, x_mov, x_pick, x_bin, x_un, x_cvt, x_ld, x_b2s, x_idxa, x_idxs, x_fld, x_flda, x_boxf, x_boxr, x_bld, x_bslf, x_slc, x_len, x_ext, x_nchk, x_mkf, x_mki, xl_ld, xl_b2s, x_st, x_boxh, x_alloc, x_bslh, x_mks, x_app, exOp_gt, exOp_gf, exOp_gf2, exOp_gs, put_some, put_none, ev_t, ev_c, List.getD_cons_zero, List.getD_cons_succ, List.set_cons_zero, List.set_cons_succ, Option.map_some, Option.map_none, optB_some, if_true, Bool.false_eq_true, if_false, ne_eq, reduceCtorEq, not_false_eq_true, not_true_eq_false, Bool.true_eq_false, len_vis, lenV_fz, lenV_sl, lenV_nils, lenV_str, binV, intB, unV, ld_fp_int, ld_fp_bool, ld_fp_str, ld_fp_fz, ld_fp_vis, ld_fp_sl, ld_fp_nils, ld_fp_ptr, ld_fp_fpp, ld_fp_nilp, ld_bx_int, ld_bx_bool, ld_bx_str, ld_bx_fz, ld_bx_vis, ld_bx_sl, ld_bx_nils, ld_bx_ptr, ld_bx_fpp, ld_bx_nilp, List.length_cons, List.length_nil, beq_self_eq_true, Bool.and_self, Bool.and_true, Bool.true_and, hw.1, mks_lst (f := fun _ : Unit => V.nils) (H := []) (by_ := 24) () (by omega) hnl, List.nil_append, List.length_nil]
  refine Run.seq (Run.seq ?_)
  refine Run.rgn (RunO.all ?_); simp only [i26r3, exOps_nil, exOps_cons, bindO_some, mapQ_some, mapW_some, x_mov, x_pick, x_bin, x_un, x_cvt, x_ld, x_b2s, x_idxa, x_idxs, x_fld, x_flda, x_boxf, x_boxr, x_bld, x_bslf, x_slc, x_len, x_ext, x_nchk, x_mkf, x_mki, xl_ld, xl_b2s, x_st, x_boxh, x_alloc, x_bslh, x_mks, x_app, exOp_gt, exOp_gf, exOp_gf2, exOp_gs, put_some, put_none, ev_t, ev_c, List.getD_cons_zero, List.getD_cons_succ, List.set_cons_zero, List.set_cons_succ, Option.map_some, Option.map_none, optB_some, if_true, Bool.false_eq_true, if_false, ne_eq, reduceCtorEq, not_false_eq_true, not_true_eq_false, Bool.true_eq_false, len_vis, lenV_fz, lenV_sl, lenV_nils, lenV_str, binV, intB, unV, ld_fp_int, ld_fp_bool, ld_fp_str, ld_fp_fz, ld_fp_vis, ld_fp_sl, ld_fp_nils, ld_fp_ptr, ld_fp_fpp, ld_fp_nilp, ld_bx_int, ld_bx_bool, ld_bx_str, ld_bx_fz, ld_bx_vis, ld_bx_sl, ld_bx_nils, ld_bx_ptr, ld_bx_fpp, ld_bx_nilp, List.length_cons, List.length_nil, beq_self_eq_true, Bool.and_self, Bool.and_true, Bool.true_and]
  have hout : (List.replicate rows.length ()).map (fun _ => V.nils) = outS rows.length 0 := by simp [outS]
  refine Run.block ?_
  refine Run.loopc (fun n e h => ∃ (M : List (List Bool)), M.length ≤ rows.length ∧ n = rows.length - M.length ∧ (∀ l ∈ M, l.length = rows.length) ∧ (∀ a b, a < M.length → ((M.getD a []).getD b false = true ↔ RB (Ed rows) a ∧ RB (Ed rows) b ∧ DB (Ed rows) a b)) ∧
    h = gridB M rows.length ∧ e = i26e31 (.fz ws) (.fz (all.map V.bool)) (.sl 0 0 0 rows.length 1 false) (vi M.length)) rows.length
    ⟨[], by simp, by simp, by simp, by simp, by rw [hout]; rfl, (by simp only [clrEnv, List.set_cons_zero, List.set_cons_succ, vi, vis, Int.natCast_zero, Int.natCast_add, Int.natCast_one, i26e31, List.length_nil])⟩ ?_
  rintro n e h ⟨M, hM, rfl, hlen, hspec, rfl, rfl⟩
  simp only [i26e31, vi]
  refine Run.seq (Run.seq ?_)
  refine Run.rgn (RunO.all ?_); simp only [i26r4, exOps_nil, exOps_cons, bindO_some, mapQ_some, mapW_some, x_mov, x_pick, x_bin, x_un, x_cvt, x_ld, x_b2s, x_idxa, x_idxs, x_fld, x_flda, x_boxf, x_boxr, x_bld, x_bslf, x_slc, x_len, x_ext, x_nchk, x_mkf, x_mki, xl_ld, xl_b2s, x_st, x_boxh, x_alloc, x_bslh, x_mks, x_app, exOp_gt, exOp_gf, exOp_gf2, exOp_gs, put_some, put_none, ev_t, ev_c, List.getD_cons_zero, List.getD_cons_succ, List.set_cons_zero, List.set_cons_succ, Option.map_some, Option.map_none, optB_some, if_true, Bool.false_eq_true, if_false, ne_eq, reduceCtorEq, not_false_eq_true, not_true_eq_false, Bool.true_eq_false, len_vis, lenV_fz, lenV_sl, lenV_nils, lenV_str, binV, intB, unV, ld_fp_int, ld_fp_bool, ld_fp_str, ld_fp_fz, ld_fp_vis, ld_fp_sl, ld_fp_nils, ld_fp_ptr, ld_fp_fpp, ld_fp_nilp, ld_bx_int, ld_bx_bool, ld_bx_str, ld_bx_fz, ld_bx_vis, ld_bx_sl, ld_bx_nils, ld_bx_ptr, ld_bx_fpp, ld_bx_nilp, List.length_cons, List.length_nil, beq_self_eq_true, Bool.and_self, Bool.and_true, Bool.true_and, hw.1]
  refine Run.ite (by rfl) (fun hlt => ?_) (fun hge => ?_)
  · have hlt : M.length < rows.length := by have := of_decide_eq_true hlt; omega
    have hal : M.length < all.length := by omega
    have e1 : all[M.length] = all.getD M.length false := by simp [List.getD, hal]
    refine Run.skip (Run.seq (Run.block ?_))
    refine Run.seqr ?_; simp only [i26r7, exOps_nil, exOps_cons, bindO_some, mapQ_some, mapW_some, x_mov, x_pick, x_bin, x_un, x_cvt, x_ld, x_b2s, x_idxa, x_idxs, x_fld, x_flda, x_boxf, x_boxr, x_bld, x_bslf, x_slc, x_len, x_ext, x_nchk, x_mkf, x_mki, xl_ld, xl_b2s, x_st, x_boxh, x_alloc, x_bslh, x_mks, x_app, exOp_gt, exOp_gf, exOp_gf2, exOp_gs, put_some, put_none, ev_t, ev_c, List.getD_cons_zero, List.getD_cons_succ, List.set_cons_zero, List.set_cons_succ, Option.map_some, Option.map_none, optB_some, if_true, Bool.false_eq_true, if_false, ne_eq, reduceCtorEq, not_false_eq_true, not_true_eq_false, Bool.true_eq_false, len_vis, lenV_fz, lenV_sl, lenV_nils, lenV_str, binV, intB, unV, ld_fp_int, ld_fp_bool, ld_fp_str, ld_fp_fz, ld_fp_vis, ld_fp_sl, ld_fp_nils, ld_fp_ptr, ld_fp_fpp, ld_fp_nilp, ld_bx_int, ld_bx_bool, ld_bx_str, ld_bx_fz, ld_bx_vis, ld_bx_sl, ld_bx_nils, ld_bx_ptr, ld_bx_fpp, ld_bx_nilp, List.length_cons, List.length_nil, beq_self_eq_true, Bool.and_self, Bool.and_true, Bool.true_and, hw.1, mks_lst (f := V.bool) (H := gridB M rows.length) (by_ := 1) false (by omega) hnl, show idxaV (.sl 0 0 0 rows.length 1 false) (.int .i64 (M.length : Int)) 1 false = some (.ptr 0 0 M.length) from idx_sl hlt, grid_new (List.replicate rows.length false) hlt]
    refine Run.seq (Run.seq ?_)
    refine Run.rgn (RunO.all ?_); simp only [i26r8, exOps_nil, exOps_cons, bindO_some, mapQ_some, mapW_some, x_mov, x_pick, x_bin, x_un, x_cvt, x_ld, x_b2s, x_idxa, x_idxs, x_fld, x_flda, x_boxf, x_boxr, x_bld, x_bslf, x_slc, x_len, x_ext, x_nchk, x_mkf, x_mki, xl_ld, xl_b2s, x_st, x_boxh, x_alloc, x_bslh, x_mks, x_app, exOp_gt, exOp_gf, exOp_gf2, exOp_gs, put_some, put_none, ev_t, ev_c, List.getD_cons_zero, List.getD_cons_succ, List.set_cons_zero, List.set_cons_succ, Option.map_some, Option.map_none, optB_some, if_true, Bool.false_eq_true, if_false, ne_eq, reduceCtorEq, not_false_eq_true, not_true_eq_false, Bool.true_eq_false, len_vis, lenV_fz, lenV_sl, lenV_nils, lenV_str, binV, intB, unV, ld_fp_int, ld_fp_bool, ld_fp_str, ld_fp_fz, ld_fp_vis, ld_fp_sl, ld_fp_nils, ld_fp_ptr, ld_fp_fpp, ld_fp_nilp, ld_bx_int, ld_bx_bool, ld_bx_str, ld_bx_fz, ld_bx_vis, ld_bx_sl, ld_bx_nils, ld_bx_ptr, ld_bx_fpp, ld_bx_nilp, List.length_cons, List.length_nil, beq_self_eq_true, Bool.and_self, Bool.and_true, Bool.true_and, idx_lst (f := V.bool) (l := all) hal (fun _ => rfl)]
    have hsucc := wrap_succ (show M.length ≤ 1048576 by omega)
    -- what a row must say, once it is told
    have hnext : ∀ l : List Bool, l.length = rows.length → (∀ b, l.getD b false = true ↔ RB (Ed rows) M.length ∧ RB (Ed rows) b ∧ DB (Ed rows) M.length b) →
        (∀ l' ∈ M ++ [l], l'.length = rows.length) ∧ ∀ a b, a < (M ++ [l]).length → (((M ++ [l]).getD a []).getD b false = true ↔ RB (Ed rows) a ∧ RB (Ed rows) b ∧ DB (Ed rows) a b) := by
      intro l hl hs
      refine ⟨fun l' hl' => ?_, fun a b ha => ?_⟩
      · rcases List.mem_append.1 hl' with h | h
        · exact hlen l' h
        · rw [List.mem_singleton.1 h]; exact hl
      · by_cases c : a < M.length
        · have : (M ++ [l]).getD a [] = M.getD a [] := by simp only [List.getD, List.getElem?_append_left c]
          rw [this]; exact hspec a b c
        · have c2 : a = M.length := by simp at ha; omega
          subst c2
          have : (M ++ [l]).getD M.length [] = l := by simp [List.getD]
          rw [this]; exact hs b
    refine Run.ite (by rfl) (fun hf0 => ?_) (fun hf0 => ?_)
    · have hf : all.getD M.length false = false := by rw [← e1]; simpa using hf0
      refine Run.exit ?_
      show Run T _ _ _ _
      refine Run.rgn (RunO.all ?_); simp only [i26r28, exOps_nil, exOps_cons, bindO_some, mapQ_some, mapW_some, x_mov, x_pick, x_bin, x_un, x_cvt, x_ld, x_b2s, x_idxa, x_idxs, x_fld, x_flda, x_boxf, x_boxr, x_bld, x_bslf, x_slc, x_len, x_ext, x_nchk, x_mkf, x_mki, xl_ld, xl_b2s, x_st, x_boxh, x_alloc, x_bslh, x_mks, x_app, exOp_gt, exOp_gf, exOp_gf2, exOp_gs, put_some, put_none, ev_t, ev_c, List.getD_cons_zero, List.getD_cons_succ, List.set_cons_zero, List.set_cons_succ, Option.map_some, Option.map_none, optB_some, if_true, Bool.false_eq_true, if_false, ne_eq, reduceCtorEq, not_false_eq_true, not_true_eq_false, Bool.true_eq_false, len_vis, lenV_fz, lenV_sl, lenV_nils, lenV_str, binV, intB, unV, ld_fp_int, ld_fp_bool, ld_fp_str, ld_fp_fz, ld_fp_vis, ld_fp_sl, ld_fp_nils, ld_fp_ptr, ld_fp_fpp, ld_fp_nilp, ld_bx_int, ld_bx_bool, ld_bx_str, ld_bx_fz, ld_bx_vis, ld_bx_sl, ld_bx_nils, ld_bx_ptr, ld_bx_fpp, ld_bx_nilp, List.length_cons, List.length_nil, beq_self_eq_true, Bool.and_self, Bool.and_true, Bool.true_and, hsucc]
      have hn0 : ¬ RB (Ed rows) M.length := by
        rw [← ew_none, ← all2, hf]; exact Bool.false_ne_true
      obtain ⟨h1, h2⟩ := hnext (List.replicate rows.length false) (by simp) (fun b => by
        have : (List.replicate rows.length false).getD b false = false := by
          simp only [List.getD]
          rw [List.getElem?_replicate]; split <;> rfl
        rw [this]
        exact ⟨fun h => (by cases h), fun h => absurd h.1 hn0⟩)
      refine ⟨rows.length - (M.length + 1), by omega, M ++ [List.replicate rows.length false], by simp; omega, by simp, h1, h2, rfl, (by simp only [clrEnv, List.set_cons_zero, List.set_cons_succ, vi, vis, Int.natCast_zero, Int.natCast_add, Int.natCast_one, i26e31, List.length_append, List.length_cons, List.length_nil, Nat.zero_add])⟩
    · have hft : all.getD M.length false = true := by rw [← e1]; simpa using hf0
      have hra : RB (Ed rows) M.length := (ew_none _).1 ((all2 _).1 hft)
      refine Run.skip ?_
      obtain ⟨left, left1, left2, left3⟩ := refReachedC hw S hok (M.length : Int) (gridB (M ++ [List.replicate rows.length false]) rows.length) hf
      refine Run.seq (Run.rgn ?_)
      refine RunO.pre 2 ?_; simp only [i26r11, List.take_succ_cons, List.take_zero, List.drop_succ_cons, List.drop_zero, exOps_nil, exOps_cons, bindO_some, mapQ_some, mapW_some, x_mov, x_pick, x_bin, x_un, x_cvt, x_ld, x_b2s, x_idxa, x_idxs, x_fld, x_flda, x_boxf, x_boxr, x_bld, x_bslf, x_slc, x_len, x_ext, x_nchk, x_mkf, x_mki, xl_ld, xl_b2s, x_st, x_boxh, x_alloc, x_bslh, x_mks, x_app, exOp_gt, exOp_gf, exOp_gf2, exOp_gs, put_some, put_none, ev_t, ev_c, List.getD_cons_zero, List.getD_cons_succ, List.set_cons_zero, List.set_cons_succ, Option.map_some, Option.map_none, optB_some, if_true, Bool.false_eq_true, if_false, ne_eq, reduceCtorEq, not_false_eq_true, not_true_eq_false, Bool.true_eq_false, len_vis, lenV_fz, lenV_sl, lenV_nils, lenV_str, binV, intB, unV, ld_fp_int, ld_fp_bool, ld_fp_str, ld_fp_fz, ld_fp_vis, ld_fp_sl, ld_fp_nils, ld_fp_ptr, ld_fp_fpp, ld_fp_nilp, ld_bx_int, ld_bx_bool, ld_bx_str, ld_bx_fz, ld_bx_vis, ld_bx_sl, ld_bx_nils, ld_bx_ptr, ld_bx_fpp, ld_bx_nilp, List.length_cons, List.length_nil, beq_self_eq_true, Bool.and_self, Bool.and_true, Bool.true_and]
      refine RunO.c left3 ?_
      refine RunO.all ?_; simp only [exOps_nil, exOps_cons, bindO_some, mapQ_some, mapW_some, x_mov, x_pick, x_bin, x_un, x_cvt, x_ld, x_b2s, x_idxa, x_idxs, x_fld, x_flda, x_boxf, x_boxr, x_bld, x_bslf, x_slc, x_len, x_ext, x_nchk, x_mkf, x_mki, xl_ld, xl_b2s, x_st, x_boxh, x_alloc, x_bslh, x_mks, x_app, exOp_gt, exOp_gf, exOp_gf2, exOp_gs, put_some, put_none, ev_t, ev_c, List.getD_cons_zero, List.getD_cons_succ, List.set_cons_zero, List.set_cons_succ, Option.map_some, Option.map_none, optB_some, if_true, Bool.false_eq_true, if_false, ne_eq, reduceCtorEq, not_false_eq_true, not_true_eq_false, Bool.true_eq_false, len_vis, lenV_fz, lenV_sl, lenV_nils, lenV_str, binV, intB, unV, ld_fp_int, ld_fp_bool, ld_fp_str, ld_fp_fz, ld_fp_vis, ld_fp_sl, ld_fp_nils, ld_fp_ptr, ld_fp_fpp, ld_fp_nilp, ld_bx_int, ld_bx_bool, ld_bx_str, ld_bx_fz, ld_bx_vis, ld_bx_sl, ld_bx_nils, ld_bx_ptr, ld_bx_fpp, ld_bx_nilp, List.length_cons, List.length_nil, beq_self_eq_true, Bool.and_self, Bool.and_true, Bool.true_and]
      refine Run.seqr ?_; simp only [i26r12, exOps_nil, exOps_cons, bindO_some, mapQ_some, mapW_some, x_mov, x_pick, x_bin, x_un, x_cvt, x_ld, x_b2s, x_idxa, x_idxs, x_fld, x_flda, x_boxf, x_boxr, x_bld, x_bslf, x_slc, x_len, x_ext, x_nchk, x_mkf, x_mki, xl_ld, xl_b2s, x_st, x_boxh, x_alloc, x_bslh, x_mks, x_app, exOp_gt, exOp_gf, exOp_gf2, exOp_gs, put_some, put_none, ev_t, ev_c, List.getD_cons_zero, List.getD_cons_succ, List.set_cons_zero, List.set_cons_succ, Option.map_some, Option.map_none, optB_some, if_true, Bool.false_eq_true, if_false, ne_eq, reduceCtorEq, not_false_eq_true, not_true_eq_false, Bool.true_eq_false, len_vis, lenV_fz, lenV_sl, lenV_nils, lenV_str, binV, intB, unV, ld_fp_int, ld_fp_bool, ld_fp_str, ld_fp_fz, ld_fp_vis, ld_fp_sl, ld_fp_nils, ld_fp_ptr, ld_fp_fpp, ld_fp_nilp, ld_bx_int, ld_bx_bool, ld_bx_str, ld_bx_fz, ld_bx_vis, ld_bx_sl, ld_bx_nils, ld_bx_ptr, ld_bx_fpp, ld_bx_nilp, List.length_cons, List.length_nil, beq_self_eq_true, Bool.and_self, Bool.and_true, Bool.true_and]
      refine Run.block ?_
      refine Run.loopc (fun n e h => ∃ (b : Nat) (l : List Bool), b ≤ rows.length ∧ n = rows.length - b ∧ l.length = rows.length ∧ (∀ y, l.getD y false = true ↔ y < b ∧ RB (Ed rows) y ∧ DB (Ed rows) M.length y) ∧
        h = gridB (M ++ [l]) rows.length ∧ e = i26e21 (.fz ws) (.fz (all.map V.bool)) (.sl 0 0 0 rows.length 1 false) (vi M.length) (.fz (left.map V.bool)) (vi b)) rows.length
        ⟨0, List.replicate rows.length false, by omega, by omega, by simp, ?_, rfl, (by simp only [clrEnv, List.set_cons_zero, List.set_cons_succ, vi, vis, Int.natCast_zero, Int.natCast_add, Int.natCast_one, i26e21])⟩ ?_
      · intro y
        have : (List.replicate rows.length false).getD y false = false := by
          simp only [List.getD]
          rw [List.getElem?_replicate]; split <;> rfl
        rw [this]; exact ⟨fun h => (by cases h), fun h => absurd h.1 (by omega)⟩
      rintro n e h ⟨b, l, hb, rfl, hll, hls, rfl, rfl⟩
      simp only [i26e21, vi]
      refine Run.seq (Run.seq ?_)
      refine Run.rgn (RunO.all ?_); simp only [i26r13, exOps_nil, exOps_cons, bindO_some, mapQ_some, mapW_some, x_mov, x_pick, x_bin, x_un, x_cvt, x_ld, x_b2s, x_idxa, x_idxs, x_fld, x_flda, x_boxf, x_boxr, x_bld, x_bslf, x_slc, x_len, x_ext, x_nchk, x_mkf, x_mki, xl_ld, xl_b2s, x_st, x_boxh, x_alloc, x_bslh, x_mks, x_app, exOp_gt, exOp_gf, exOp_gf2, exOp_gs, put_some, put_none, ev_t, ev_c, List.getD_cons_zero, List.getD_cons_succ, List.set_cons_zero, List.set_cons_succ, Option.map_some, Option.map_none, optB_some, if_true, Bool.false_eq_true, if_false, ne_eq, reduceCtorEq, not_false_eq_true, not_true_eq_false, Bool.true_eq_false, len_vis, lenV_fz, lenV_sl, lenV_nils, lenV_str, binV, intB, unV, ld_fp_int, ld_fp_bool, ld_fp_str, ld_fp_fz, ld_fp_vis, ld_fp_sl, ld_fp_nils, ld_fp_ptr, ld_fp_fpp, ld_fp_nilp, ld_bx_int, ld_bx_bool, ld_bx_str, ld_bx_fz, ld_bx_vis, ld_bx_sl, ld_bx_nils, ld_bx_ptr, ld_bx_fpp, ld_bx_nilp, List.length_cons, List.length_nil, beq_self_eq_true, Bool.and_self, Bool.and_true, Bool.true_and, hw.1]
      refine Run.ite (by rfl) (fun hltb => ?_) (fun hgeb => ?_)
      · have hltb : b < rows.length := by have := of_decide_eq_true hltb; omega
        have hbl : b < all.length := by omega
        have e2 : all[b] = all.getD b false := by simp [List.getD, hbl]
        have hbl2 : b < left.length := by omega
        have e3 : left[b] = left.getD b false := by simp [List.getD, hbl2]
        have p1 : idxaV (.sl 0 0 0 rows.length 1 false) (.int .i64 (M.length : Int)) 1 false = some (.ptr 0 0 M.length) := idx_sl hlt
        have p2 : ldV (gridB (M ++ [l]) rows.length) (.ptr 0 0 M.length) none = some (.sl (M.length + 1) 0 0 rows.length 1 false) :=
          ld_at (cs := outS rows.length (M.length + 1)) (by unfold gridB; rw [rdB_0]; simp) (outS_get (by omega))
        have p3 := idx_lst (f := V.bool) (l := all) hbl (fun _ => rfl)
        have p4 := idx_lst (f := V.bool) (l := left) hbl2 (fun _ => rfl)
        have p5 : idxaV (.sl (M.length + 1) 0 0 rows.length 1 false) (.int .i64 (b : Int)) 1 false = some (.ptr (M.length + 1) 0 b) := idx_sl hltb
        have p6 : ∀ x : Bool, stV (gridB (M ++ [l]) rows.length) (.ptr (M.length + 1) 0 b) (.bool x) none = some (gridB (M ++ [l.set b x]) rows.length) := fun x => by
          rw [st_lst (f := V.bool) (l := l) x (grid_row M l rows.length M.length rfl) (by omega) rfl, grid_set M l (l.set b x) rows.length M.length rfl]
        have hsb := wrap_succ (show b ≤ 1048576 by omega)
        refine Run.skip (Run.seq (Run.block (Run.rgn ?_)))
        have fin : ∀ x : Bool, (x = true ↔ RB (Ed rows) b ∧ DB (Ed rows) M.length b) → ∀ y, (l.set b x).getD y false = true ↔ y < b + 1 ∧ RB (Ed rows) y ∧ DB (Ed rows) M.length y := by
          intro x hx y
          by_cases c : y = b
          · subst c; rw [DomMath.getD_set_eq (by omega), hx]; exact ⟨fun h => ⟨by omega, h⟩, fun h => h.2⟩
          · rw [DomMath.getD_set_ne (fun e => c e.symm), hls y]
            exact ⟨fun h => ⟨by omega, h.2⟩, fun h => ⟨by omega, h.2⟩⟩
        cases hab : all.getD b false with
        | false =>
          refine RunO.all ?_; simp only [exOps_nil, exOps_cons, bindO_some, mapQ_some, mapW_some, x_mov, x_pick, x_bin, x_un, x_cvt, x_ld, x_b2s, x_idxa, x_idxs, x_fld, x_flda, x_boxf, x_boxr, x_bld, x_bslf, x_slc, x_len, x_ext, x_nchk, x_mkf, x_mki, xl_ld, xl_b2s, x_st, x_boxh, x_alloc, x_bslh, x_mks, x_app, exOp_gt, exOp_gf, exOp_gf2, exOp_gs, put_some, put_none, ev_t, ev_c, List.getD_cons_zero, List.getD_cons_succ, List.set_cons_zero, List.set_cons_succ, Option.map_some, Option.map_none, optB_some, if_true, Bool.false_eq_true, if_false, ne_eq, reduceCtorEq, not_false_eq_true, not_true_eq_false, Bool.true_eq_false, len_vis, lenV_fz, lenV_sl, lenV_nils, lenV_str, binV, intB, unV, ld_fp_int, ld_fp_bool, ld_fp_str, ld_fp_fz, ld_fp_vis, ld_fp_sl, ld_fp_nils, ld_fp_ptr, ld_fp_fpp, ld_fp_nilp, ld_bx_int, ld_bx_bool, ld_bx_str, ld_bx_fz, ld_bx_vis, ld_bx_sl, ld_bx_nils, ld_bx_ptr, ld_bx_fpp, ld_bx_nilp, List.length_cons, List.length_nil, beq_self_eq_true, Bool.and_self, Bool.and_true, Bool.true_and, i26r16, p1, p2, p3, p4, p5, p6, e2, e3, hab]
          refine Run.rgn (RunO.all ?_); simp only [i26r18, exOps_nil, exOps_cons, bindO_some, mapQ_some, mapW_some, x_mov, x_pick, x_bin, x_un, x_cvt, x_ld, x_b2s, x_idxa, x_idxs, x_fld, x_flda, x_boxf, x_boxr, x_bld, x_bslf, x_slc, x_len, x_ext, x_nchk, x_mkf, x_mki, xl_ld, xl_b2s, x_st, x_boxh, x_alloc, x_bslh, x_mks, x_app, exOp_gt, exOp_gf, exOp_gf2, exOp_gs, put_some, put_none, ev_t, ev_c, List.getD_cons_zero, List.getD_cons_succ, List.set_cons_zero, List.set_cons_succ, Option.map_some, Option.map_none, optB_some, if_true, Bool.false_eq_true, if_false, ne_eq, reduceCtorEq, not_false_eq_true, not_true_eq_false, Bool.true_eq_false, len_vis, lenV_fz, lenV_sl, lenV_nils, lenV_str, binV, intB, unV, ld_fp_int, ld_fp_bool, ld_fp_str, ld_fp_fz, ld_fp_vis, ld_fp_sl, ld_fp_nils, ld_fp_ptr, ld_fp_fpp, ld_fp_nilp, ld_bx_int, ld_bx_bool, ld_bx_str, ld_bx_fz, ld_bx_vis, ld_bx_sl, ld_bx_nils, ld_bx_ptr, ld_bx_fpp, ld_bx_nilp, List.length_cons, List.length_nil, beq_self_eq_true, Bool.and_self, Bool.and_true, Bool.true_and, hsb]
          refine ⟨rows.length - (b + 1), by omega, b + 1, l.set b (false), by omega, rfl, by rw [List.length_set, hll], fin _ ?_, rfl, (by simp only [clrEnv, List.set_cons_zero, List.set_cons_succ, vi, vis, Int.natCast_zero, Int.natCast_add, Int.natCast_one, i26e21])⟩
          exact ⟨fun h => (by cases h), fun h => by
            have := (all2 b).2 ((ew_none b).2 h.1)
            rw [hab] at this; cases this⟩
        | true =>
          have hrb : RB (Ed rows) b := (ew_none _).1 ((all2 _).1 hab)
          by_cases hmb : M.length = b
          · have q : ((M.length : Int) == (b : Int)) = true := by simp; omega
            refine RunO.all ?_; simp only [exOps_nil, exOps_cons, bindO_some, mapQ_some, mapW_some, x_mov, x_pick, x_bin, x_un, x_cvt, x_ld, x_b2s, x_idxa, x_idxs, x_fld, x_flda, x_boxf, x_boxr, x_bld, x_bslf, x_slc, x_len, x_ext, x_nchk, x_mkf, x_mki, xl_ld, xl_b2s, x_st, x_boxh, x_alloc, x_bslh, x_mks, x_app, exOp_gt, exOp_gf, exOp_gf2, exOp_gs, put_some, put_none, ev_t, ev_c, List.getD_cons_zero, List.getD_cons_succ, List.set_cons_zero, List.set_cons_succ, Option.map_some, Option.map_none, optB_some, if_true, Bool.false_eq_true, if_false, ne_eq, reduceCtorEq, not_false_eq_true, not_true_eq_false, Bool.true_eq_false, len_vis, lenV_fz, lenV_sl, lenV_nils, lenV_str, binV, intB, unV, ld_fp_int, ld_fp_bool, ld_fp_str, ld_fp_fz, ld_fp_vis, ld_fp_sl, ld_fp_nils, ld_fp_ptr, ld_fp_fpp, ld_fp_nilp, ld_bx_int, ld_bx_bool, ld_bx_str, ld_bx_fz, ld_bx_vis, ld_bx_sl, ld_bx_nils, ld_bx_ptr, ld_bx_fpp, ld_bx_nilp, List.length_cons, List.length_nil, beq_self_eq_true, Bool.and_self, Bool.and_true, Bool.true_and, i26r16, p1, p2, p3, p4, p5, p6, e2, e3, hab, q]
            refine Run.rgn (RunO.all ?_); simp only [i26r18, exOps_nil, exOps_cons, bindO_some, mapQ_some, mapW_some, x_mov, x_pick, x_bin, x_un, x_cvt, x_ld, x_b2s, x_idxa, x_idxs, x_fld, x_flda, x_boxf, x_boxr, x_bld, x_bslf, x_slc, x_len, x_ext, x_nchk, x_mkf, x_mki, xl_ld, xl_b2s, x_st, x_boxh, x_alloc, x_bslh, x_mks, x_app, exOp_gt, exOp_gf, exOp_gf2, exOp_gs, put_some, put_none, ev_t, ev_c, List.getD_cons_zero, List.getD_cons_succ, List.set_cons_zero, List.set_cons_succ, Option.map_some, Option.map_none, optB_some, if_true, Bool.false_eq_true, if_false, ne_eq, reduceCtorEq, not_false_eq_true, not_true_eq_false, Bool.true_eq_false, len_vis, lenV_fz, lenV_sl, lenV_nils, lenV_str, binV, intB, unV, ld_fp_int, ld_fp_bool, ld_fp_str, ld_fp_fz, ld_fp_vis, ld_fp_sl, ld_fp_nils, ld_fp_ptr, ld_fp_fpp, ld_fp_nilp, ld_bx_int, ld_bx_bool, ld_bx_str, ld_bx_fz, ld_bx_vis, ld_bx_sl, ld_bx_nils, ld_bx_ptr, ld_bx_fpp, ld_bx_nilp, List.length_cons, List.length_nil, beq_self_eq_true, Bool.and_self, Bool.and_true, Bool.true_and, hsb]
            refine ⟨rows.length - (b + 1), by omega, b + 1, l.set b (true), by omega, rfl, by rw [List.length_set, hll], fin _ ?_, rfl, (by simp only [clrEnv, List.set_cons_zero, List.set_cons_succ, vi, vis, Int.natCast_zero, Int.natCast_add, Int.natCast_one, i26e21])⟩
            exact ⟨fun _ => ⟨hrb, by rw [hmb]; exact DB.refl _⟩, fun _ => rfl⟩
          · have q : ((M.length : Int) == (b : Int)) = false := by simp; omega
            refine RunO.all ?_; simp only [exOps_nil, exOps_cons, bindO_some, mapQ_some, mapW_some, x_mov, x_pick, x_bin, x_un, x_cvt, x_ld, x_b2s, x_idxa, x_idxs, x_fld, x_flda, x_boxf, x_boxr, x_bld, x_bslf, x_slc, x_len, x_ext, x_nchk, x_mkf, x_mki, xl_ld, xl_b2s, x_st, x_boxh, x_alloc, x_bslh, x_mks, x_app, exOp_gt, exOp_gf, exOp_gf2, exOp_gs, put_some, put_none, ev_t, ev_c, List.getD_cons_zero, List.getD_cons_succ, List.set_cons_zero, List.set_cons_succ, Option.map_some, Option.map_none, optB_some, if_true, Bool.false_eq_true, if_false, ne_eq, reduceCtorEq, not_false_eq_true, not_true_eq_false, Bool.true_eq_false, len_vis, lenV_fz, lenV_sl, lenV_nils, lenV_str, binV, intB, unV, ld_fp_int, ld_fp_bool, ld_fp_str, ld_fp_fz, ld_fp_vis, ld_fp_sl, ld_fp_nils, ld_fp_ptr, ld_fp_fpp, ld_fp_nilp, ld_bx_int, ld_bx_bool, ld_bx_str, ld_bx_fz, ld_bx_vis, ld_bx_sl, ld_bx_nils, ld_bx_ptr, ld_bx_fpp, ld_bx_nilp, List.length_cons, List.length_nil, beq_self_eq_true, Bool.and_self, Bool.and_true, Bool.true_and, i26r16, p1, p2, p3, p4, p5, p6, e2, e3, hab, q, unV]
            refine Run.rgn (RunO.all ?_); simp only [i26r18, exOps_nil, exOps_cons, bindO_some, mapQ_some, mapW_some, x_mov, x_pick, x_bin, x_un, x_cvt, x_ld, x_b2s, x_idxa, x_idxs, x_fld, x_flda, x_boxf, x_boxr, x_bld, x_bslf, x_slc, x_len, x_ext, x_nchk, x_mkf, x_mki, xl_ld, xl_b2s, x_st, x_boxh, x_alloc, x_bslh, x_mks, x_app, exOp_gt, exOp_gf, exOp_gf2, exOp_gs, put_some, put_none, ev_t, ev_c, List.getD_cons_zero, List.getD_cons_succ, List.set_cons_zero, List.set_cons_succ, Option.map_some, Option.map_none, optB_some, if_true, Bool.false_eq_true, if_false, ne_eq, reduceCtorEq, not_false_eq_true, not_true_eq_false, Bool.true_eq_false, len_vis, lenV_fz, lenV_sl, lenV_nils, lenV_str, binV, intB, unV, ld_fp_int, ld_fp_bool, ld_fp_str, ld_fp_fz, ld_fp_vis, ld_fp_sl, ld_fp_nils, ld_fp_ptr, ld_fp_fpp, ld_fp_nilp, ld_bx_int, ld_bx_bool, ld_bx_str, ld_bx_fz, ld_bx_vis, ld_bx_sl, ld_bx_nils, ld_bx_ptr, ld_bx_fpp, ld_bx_nilp, List.length_cons, List.length_nil, beq_self_eq_true, Bool.and_self, Bool.and_true, Bool.true_and, hsb]
            refine ⟨rows.length - (b + 1), by omega, b + 1, l.set b (!left.getD b false), by omega, rfl, by rw [List.length_set, hll], fin _ ?_, rfl, (by simp only [clrEnv, List.set_cons_zero, List.set_cons_succ, vi, vis, Int.natCast_zero, Int.natCast_add, Int.natCast_one, i26e21])⟩
            rw [← ew_dom hmb, ← left2 b]
            constructor
            · intro h; exact ⟨hrb, by simpa using h⟩
            · intro h; simpa using h.2
      · have hgeb : b = rows.length := by have := of_decide_eq_false hgeb; omega
        refine Run.exit ?_
        show Run T _ _ _ _
        refine Run.rgn (RunO.all ?_); simp only [i26r28, exOps_nil, exOps_cons, bindO_some, mapQ_some, mapW_some, x_mov, x_pick, x_bin, x_un, x_cvt, x_ld, x_b2s, x_idxa, x_idxs, x_fld, x_flda, x_boxf, x_boxr, x_bld, x_bslf, x_slc, x_len, x_ext, x_nchk, x_mkf, x_mki, xl_ld, xl_b2s, x_st, x_boxh, x_alloc, x_bslh, x_mks, x_app, exOp_gt, exOp_gf, exOp_gf2, exOp_gs, put_some, put_none, ev_t, ev_c, List.getD_cons_zero, List.getD_cons_succ, List.set_cons_zero, List.set_cons_succ, Option.map_some, Option.map_none, optB_some, if_true, Bool.false_eq_true, if_false, ne_eq, reduceCtorEq, not_false_eq_true, not_true_eq_false, Bool.true_eq_false, len_vis, lenV_fz, lenV_sl, lenV_nils, lenV_str, binV, intB, unV, ld_fp_int, ld_fp_bool, ld_fp_str, ld_fp_fz, ld_fp_vis, ld_fp_sl, ld_fp_nils, ld_fp_ptr, ld_fp_fpp, ld_fp_nilp, ld_bx_int, ld_bx_bool, ld_bx_str, ld_bx_fz, ld_bx_vis, ld_bx_sl, ld_bx_nils, ld_bx_ptr, ld_bx_fpp, ld_bx_nilp, List.length_cons, List.length_nil, beq_self_eq_true, Bool.and_self, Bool.and_true, Bool.true_and, hsucc]
        obtain ⟨h1, h2⟩ := hnext l hll (fun y => by
          rw [hls y]
          refine ⟨fun h => ⟨hra, h.2⟩, fun h => ⟨?_, h.2⟩⟩
          rw [hgeb, ← all1]
          have := (all2 y).2 ((ew_none y).2 h.2.1)
          false_or_by_contra
          rename_i hn
          have e : all.getD y false = false := by simp [List.getD, List.getElem?_eq_none (Nat.le_of_not_lt hn)]
          rw [e] at this; cases this)
        refine ⟨rows.length - (M.length + 1), by omega, M ++ [l], by simp; omega, by simp, h1, h2, rfl, (by simp only [clrEnv, List.set_cons_zero, List.set_cons_succ, vi, vis, Int.natCast_zero, Int.natCast_add, Int.natCast_one, i26e31, List.length_append, List.length_cons, List.length_nil, Nat.zero_add])⟩
  · have hge : M.length = rows.length := by have := of_decide_eq_false hge; omega
    refine Run.exit ?_
    show Run T _ _ _ _
    refine Run.seqr ?_; simp only [i26r34, exOps_nil, exOps_cons, bindO_some, mapQ_some, mapW_some, x_mov, x_pick, x_bin, x_un, x_cvt, x_ld, x_b2s, x_idxa, x_idxs, x_fld, x_flda, x_boxf, x_boxr, x_bld, x_bslf, x_slc, x_len, x_ext, x_nchk, x_mkf, x_mki, xl_ld, xl_b2s, x_st, x_boxh, x_alloc, x_bslh, x_mks, x_app, exOp_gt, exOp_gf, exOp_gf2, exOp_gs, put_some, put_none, ev_t, ev_c, List.getD_cons_zero, List.getD_cons_succ, List.set_cons_zero, List.set_cons_succ, Option.map_some, Option.map_none, optB_some, if_true, Bool.false_eq_true, if_false, ne_eq, reduceCtorEq, not_false_eq_true, not_true_eq_false, Bool.true_eq_false, len_vis, lenV_fz, lenV_sl, lenV_nils, lenV_str, binV, intB, unV, ld_fp_int, ld_fp_bool, ld_fp_str, ld_fp_fz, ld_fp_vis, ld_fp_sl, ld_fp_nils, ld_fp_ptr, ld_fp_fpp, ld_fp_nilp, ld_bx_int, ld_bx_bool, ld_bx_str, ld_bx_fz, ld_bx_vis, ld_bx_sl, ld_bx_nils, ld_bx_ptr, ld_bx_fpp, ld_bx_nilp, List.length_cons, List.length_nil, beq_self_eq_true, Bool.and_self, Bool.and_true, Bool.true_and]
    refine Run.ret ⟨M, grid_deep hge hlen, hge, hlen, ?_⟩
    rw [← hge]; exact hspec
end Go.Eng.Dom
