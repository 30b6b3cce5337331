/- Functions of this seat, run on unknown values by the rules of the small machine (no condition beyond those stated). -/
import Derived.Test.YthobdkimccepbaaDomH
namespace Go.Eng.Dom
open Go Go.Eng DomMath
set_option linter.unusedVariables false
set_option linter.unusedSimpArgs false

theorem nchk_ptr (b g o : Nat) : nchkV (.ptr b g o) = some (.ptr b g o) := rfl
theorem flda_ptr (b g o k : Nat) (s : Sh) : fldaV (.ptr b g o) k s = some (.ptr b g (o + k)) := rfl
/-- the net, as it stands behind a walk -/
structure NetH (n : Nat) (left : List Nat) (nextV : V) (lg : Nat) (H : Heap) : Prop where
  p : rdB H 1 0 = some [nextV, .sl 0 0 0 n 1 false, .sl 4 lg 0 left.length 1 false]
  r : rdB H 0 0 = some ((List.range n).map fun i => vn (rkF left i))
  l : rdB H 4 lg = some (left.map vn)
/-- a list of numbers in a buffer of a heap -/
def TreeH (tb : Nat) (tr : List Int) (H : Heap) : Prop := rdB H tb 0 = some (tr.map vi)
theorem get_of {tr : List Int} {x : Nat} (h : x < tr.length) : tr[x]? = some (tr.getD x (-1)) := by simp [List.getD, h]
theorem Sx_get {tr : List Int} {x : Nat} (h : Sx tr x) : tr.getD x (-1) = (tx tr x : Int) := by
  have := h.2
  unfold tx; omega
section
variable {n : Nat} {left : List Nat} {nextV : V} {lg : Nat} {H : Heap}
theorem NetH.ld0 (N : NetH n left nextV lg H) : ldV H (.ptr 1 0 0) none = some nextV := ld_at N.p rfl
theorem NetH.ld1 (N : NetH n left nextV lg H) : ldV H (.ptr 1 0 1) none = some (.sl 0 0 0 n 1 false) := ld_at N.p rfl
theorem NetH.ld2 (N : NetH n left nextV lg H) : ldV H (.ptr 1 0 2) none = some (.sl 4 lg 0 left.length 1 false) := ld_at N.p rfl
theorem NetH.rk (N : NetH n left nextV lg H) {x : Nat} (hx : x < n) : ldV H (.ptr 0 0 x) none = some (.int .i64 (rkF left x : Int)) :=
  ld_at N.r (by simp [hx, vn])
theorem TreeH.ld {tb : Nat} {tr : List Int} (h : TreeH tb tr H) {x : Nat} (hx : x < tr.length) : ldV H (.ptr tb 0 x) none = some (.int .i64 (tr.getD x (-1))) :=
  ld_lst (f := vi) (l := tr) (junk := []) (by rw [List.append_nil]; exact h) (get_of hx)
theorem Sx_set_self {rows : List (List Int)} {r k : Nat} {tr : List Int} (R : DomMath.Rd rows left r k tr) {x : Nat} (hx : Sx tr x) : x ∈ left := ((R.who x).1 hx).1

theorem meet {rows : List (List Int)} {r k tb : Nat} {tr : List Int} (W : WalkOf rows left) (R : DomMath.Rd rows left r k tr) (hn : n = rows.length) (N : NetH n left nextV lg H) (TH : TreeH tb tr H) {a b : Nat} (ha : Sx tr a) (hb : Sx tr b) :
    Fn T 29 [.ptr 1 0 0, .sl tb 0 0 n 1 false, vi a, vi b] H (fun r h => h = H ∧ ∃ m : Nat, r = vi m ∧ Sx tr m ∧ Ch (tx tr) a m ∧ Ch (tx tr) b m ∧ ∀ d, Ch (tx tr) a d → Ch (tx tr) b d → Ch (tx tr) m d) := by
  refine Fn.enter t29 ?_; simp only [i29, List.length_cons, List.length_nil, Nat.reduceAdd, Nat.reduceSub, List.replicate_succ, List.replicate_zero, List.cons_append, List.nil_append]
  refine Run.seqr ?_; simp only [i29r0, exOps_nil, exOps_cons, bindO_some, mapQ_some, mapW_some, x_mov, x_pick, x_bin, x_un, x_cvt, x_ld, x_b2s, x_idxa, x_idxs, x_fld, x_flda, x_boxf, x_boxr, x_bld, x_bslf, x_slc, x_len, x_ext, x_nchk, x_mkf, x_mki, xl_ld, xl_b2s, x_st, x_boxh, x_alloc, x_bslh, x_mks, x_app, exOp_gt, exOp_gf, exOp_gf2, exOp_gs, put_some, put_none, ev_t, ev_c, List.getD_cons_zero, List.getD_cons_succ, List.set_cons_zero, List.set_cons_succ, Option.map_some, Option.map_none, optB_some, if_true, Bool.false_eq_true, if_false, ne_eq, reduceCtorEq, not_false_eq_true, not_true_eq_false, Bool.true_eq_false, len_vis, lenV_fz, lenV_sl, lenV_nils, lenV_str, binV, intB, unV, ld_fp_int, ld_fp_bool, ld_fp_str, ld_fp_fz, ld_fp_vis, ld_fp_sl, ld_fp_nils, ld_fp_ptr, ld_fp_fpp, ld_fp_nilp, ld_bx_int, ld_bx_bool, ld_bx_str, ld_bx_fz, ld_bx_vis, ld_bx_sl, ld_bx_nils, ld_bx_ptr, ld_bx_fpp, ld_bx_nilp, List.length_cons, List.length_nil, beq_self_eq_true, Bool.and_self, Bool.and_true, Bool.true_and]
  refine Run.seq (Run.block ?_)
  refine Run.loopc (fun m e h => ∃ (x y : Nat), m = (left.length - rkF left x) + (left.length - rkF left y) ∧ Sx tr x ∧ Sx tr y ∧ Ch (tx tr) a x ∧ Ch (tx tr) b y ∧ (∀ d, Ch (tx tr) a d → Ch (tx tr) b d → Ch (tx tr) x d ∧ Ch (tx tr) y d) ∧ h = H ∧
    e = i29e11 (.ptr 1 0 0) (.sl tb 0 0 n 1 false) (vi x) (vi y)) _ ⟨a, b, rfl, ha, hb, .refl _, .refl _, fun d h1 h2 => ⟨h1, h2⟩, rfl, (by simp only [clrEnv, List.set_cons_zero, List.set_cons_succ, vi, vis, Int.natCast_zero, Int.natCast_add, Int.natCast_one, i29e11])⟩ ?_
  rintro m e h ⟨x, y, rfl, hx, hy, cx, cy, hd, rfl, rfl⟩
  simp only [i29e11, vi]
  refine Run.seq (Run.seq ?_)
  refine Run.rgn (RunO.all ?_); simp only [i29r1, exOps_nil, exOps_cons, bindO_some, mapQ_some, mapW_some, x_mov, x_pick, x_bin, x_un, x_cvt, x_ld, x_b2s, x_idxa, x_idxs, x_fld, x_flda, x_boxf, x_boxr, x_bld, x_bslf, x_slc, x_len, x_ext, x_nchk, x_mkf, x_mki, xl_ld, xl_b2s, x_st, x_boxh, x_alloc, x_bslh, x_mks, x_app, exOp_gt, exOp_gf, exOp_gf2, exOp_gs, put_some, put_none, ev_t, ev_c, List.getD_cons_zero, List.getD_cons_succ, List.set_cons_zero, List.set_cons_succ, Option.map_some, Option.map_none, optB_some, if_true, Bool.false_eq_true, if_false, ne_eq, reduceCtorEq, not_false_eq_true, not_true_eq_false, Bool.true_eq_false, len_vis, lenV_fz, lenV_sl, lenV_nils, lenV_str, binV, intB, unV, ld_fp_int, ld_fp_bool, ld_fp_str, ld_fp_fz, ld_fp_vis, ld_fp_sl, ld_fp_nils, ld_fp_ptr, ld_fp_fpp, ld_fp_nilp, ld_bx_int, ld_bx_bool, ld_bx_str, ld_bx_fz, ld_bx_vis, ld_bx_sl, ld_bx_nils, ld_bx_ptr, ld_bx_fpp, ld_bx_nilp, List.length_cons, List.length_nil, beq_self_eq_true, Bool.and_self, Bool.and_true, Bool.true_and]
  refine Run.ite (by rfl) (fun h1 => ?_) (fun h1 => ?_)
  · have hxy : x ≠ y := by intro e; subst e; simp at h1
    have hxn : x < n := by rw [hn, ← R.len]; exact hx.1
    have hyn : y < n := by rw [hn, ← R.len]; exact hy.1
    have mx := Sx_set_self R hx
    have my := Sx_set_self R hy
    have lx := rk_mem mx
    have ly := rk_mem my
    have dxy := idx_ne mx my hxy
    have bx := List.idxOf_lt_length_of_mem mx
    have by' := List.idxOf_lt_length_of_mem my
    have i0 := W.idx0
    have p1 : idxaV (.sl 0 0 0 n 1 false) (.int .i64 (x : Int)) 1 false = some (.ptr 0 0 x) := idx_sl hxn
    have p2 : idxaV (.sl 0 0 0 n 1 false) (.int .i64 (y : Int)) 1 false = some (.ptr 0 0 y) := idx_sl hyn
    have p3 : idxaV (.sl tb 0 0 n 1 false) (.int .i64 (x : Int)) 1 false = some (.ptr tb 0 x) := idx_sl hxn
    have p4 : idxaV (.sl tb 0 0 n 1 false) (.int .i64 (y : Int)) 1 false = some (.ptr tb 0 y) := idx_sl hyn
    have p5 := TH.ld hx.1
    have p6 := TH.ld hy.1
    rw [Sx_get hx] at p5
    rw [Sx_get hy] at p6
    refine Run.skip (Run.block (Run.seq ?_))
    refine Run.rgn (RunO.all ?_); simp only [i29r4, exOps_nil, exOps_cons, bindO_some, mapQ_some, mapW_some, x_mov, x_pick, x_bin, x_un, x_cvt, x_ld, x_b2s, x_idxa, x_idxs, x_fld, x_flda, x_boxf, x_boxr, x_bld, x_bslf, x_slc, x_len, x_ext, x_nchk, x_mkf, x_mki, xl_ld, xl_b2s, x_st, x_boxh, x_alloc, x_bslh, x_mks, x_app, exOp_gt, exOp_gf, exOp_gf2, exOp_gs, put_some, put_none, ev_t, ev_c, List.getD_cons_zero, List.getD_cons_succ, List.set_cons_zero, List.set_cons_succ, Option.map_some, Option.map_none, optB_some, if_true, Bool.false_eq_true, if_false, ne_eq, reduceCtorEq, not_false_eq_true, not_true_eq_false, Bool.true_eq_false, len_vis, lenV_fz, lenV_sl, lenV_nils, lenV_str, binV, intB, unV, ld_fp_int, ld_fp_bool, ld_fp_str, ld_fp_fz, ld_fp_vis, ld_fp_sl, ld_fp_nils, ld_fp_ptr, ld_fp_fpp, ld_fp_nilp, ld_bx_int, ld_bx_bool, ld_bx_str, ld_bx_fz, ld_bx_vis, ld_bx_sl, ld_bx_nils, ld_bx_ptr, ld_bx_fpp, ld_bx_nilp, List.length_cons, List.length_nil, beq_self_eq_true, Bool.and_self, Bool.and_true, Bool.true_and, nchk_ptr, flda_ptr, Nat.zero_add, N.ld1, p1, p2, N.rk hxn, N.rk hyn]
    refine Run.ite (by rfl) (fun h2 => ?_) (fun h2 => ?_)
    · have h2 : rkF left x < rkF left y := by have := of_decide_eq_true h2; omega
      have hx0 : x ≠ 0 := by rintro rfl; omega
      obtain ⟨u1, u2⟩ := R.inv.up x hx hx0
      refine Run.rgn (RunO.all ?_); simp only [i29r5, exOps_nil, exOps_cons, bindO_some, mapQ_some, mapW_some, x_mov, x_pick, x_bin, x_un, x_cvt, x_ld, x_b2s, x_idxa, x_idxs, x_fld, x_flda, x_boxf, x_boxr, x_bld, x_bslf, x_slc, x_len, x_ext, x_nchk, x_mkf, x_mki, xl_ld, xl_b2s, x_st, x_boxh, x_alloc, x_bslh, x_mks, x_app, exOp_gt, exOp_gf, exOp_gf2, exOp_gs, put_some, put_none, ev_t, ev_c, List.getD_cons_zero, List.getD_cons_succ, List.set_cons_zero, List.set_cons_succ, Option.map_some, Option.map_none, optB_some, if_true, Bool.false_eq_true, if_false, ne_eq, reduceCtorEq, not_false_eq_true, not_true_eq_false, Bool.true_eq_false, len_vis, lenV_fz, lenV_sl, lenV_nils, lenV_str, binV, intB, unV, ld_fp_int, ld_fp_bool, ld_fp_str, ld_fp_fz, ld_fp_vis, ld_fp_sl, ld_fp_nils, ld_fp_ptr, ld_fp_fpp, ld_fp_nilp, ld_bx_int, ld_bx_bool, ld_bx_str, ld_bx_fz, ld_bx_vis, ld_bx_sl, ld_bx_nils, ld_bx_ptr, ld_bx_fpp, ld_bx_nilp, List.length_cons, List.length_nil, beq_self_eq_true, Bool.and_self, Bool.and_true, Bool.true_and, p3, p5]
      have := Sx_set_self R u1
      have := rk_mem this
      refine ⟨_, ?_, tx tr x, y, rfl, u1, hy, cx.trans (.up hx0 (.refl _)), cy, fun d d1 d2 => ⟨?_, (hd d d1 d2).2⟩, rfl, (by simp only [clrEnv, List.set_cons_zero, List.set_cons_succ, vi, vis, Int.natCast_zero, Int.natCast_add, Int.natCast_one, i29e11])⟩
      · have := List.idxOf_lt_length_of_mem (Sx_set_self R u1); omega
      · obtain ⟨g1, g2⟩ := hd d d1 d2
        cases g1 with
        | refl => have := (R.inv.ch g2 hy).2.1; omega
        | up _ g => exact g
    · have h2 : rkF left y < rkF left x := by have := of_decide_eq_false h2; omega
      have hy0 : y ≠ 0 := by rintro rfl; omega
      obtain ⟨u1, u2⟩ := R.inv.up y hy hy0
      refine Run.rgn (RunO.all ?_); simp only [i29r6, exOps_nil, exOps_cons, bindO_some, mapQ_some, mapW_some, x_mov, x_pick, x_bin, x_un, x_cvt, x_ld, x_b2s, x_idxa, x_idxs, x_fld, x_flda, x_boxf, x_boxr, x_bld, x_bslf, x_slc, x_len, x_ext, x_nchk, x_mkf, x_mki, xl_ld, xl_b2s, x_st, x_boxh, x_alloc, x_bslh, x_mks, x_app, exOp_gt, exOp_gf, exOp_gf2, exOp_gs, put_some, put_none, ev_t, ev_c, List.getD_cons_zero, List.getD_cons_succ, List.set_cons_zero, List.set_cons_succ, Option.map_some, Option.map_none, optB_some, if_true, Bool.false_eq_true, if_false, ne_eq, reduceCtorEq, not_false_eq_true, not_true_eq_false, Bool.true_eq_false, len_vis, lenV_fz, lenV_sl, lenV_nils, lenV_str, binV, intB, unV, ld_fp_int, ld_fp_bool, ld_fp_str, ld_fp_fz, ld_fp_vis, ld_fp_sl, ld_fp_nils, ld_fp_ptr, ld_fp_fpp, ld_fp_nilp, ld_bx_int, ld_bx_bool, ld_bx_str, ld_bx_fz, ld_bx_vis, ld_bx_sl, ld_bx_nils, ld_bx_ptr, ld_bx_fpp, ld_bx_nilp, List.length_cons, List.length_nil, beq_self_eq_true, Bool.and_self, Bool.and_true, Bool.true_and, p4, p6]
      have := Sx_set_self R u1
      have := rk_mem this
      refine ⟨_, ?_, x, tx tr y, rfl, hx, u1, cx, cy.trans (.up hy0 (.refl _)), fun d d1 d2 => ⟨(hd d d1 d2).1, ?_⟩, rfl, (by simp only [clrEnv, List.set_cons_zero, List.set_cons_succ, vi, vis, Int.natCast_zero, Int.natCast_add, Int.natCast_one, i29e11])⟩
      · have := List.idxOf_lt_length_of_mem (Sx_set_self R u1); omega
      · obtain ⟨g1, g2⟩ := hd d d1 d2
        cases g2 with
        | refl => have := (R.inv.ch g1 hx).2.1; omega
        | up _ g => exact g
  · have hxy : x = y := by have : (x : Int) = y := by simpa using h1
                           omega
    subst hxy
    refine Run.exit ?_
    show Run T _ _ _ _
    refine Run.seqr ?_; simp only [i29r13, exOps_nil, exOps_cons, bindO_some, mapQ_some, mapW_some, x_mov, x_pick, x_bin, x_un, x_cvt, x_ld, x_b2s, x_idxa, x_idxs, x_fld, x_flda, x_boxf, x_boxr, x_bld, x_bslf, x_slc, x_len, x_ext, x_nchk, x_mkf, x_mki, xl_ld, xl_b2s, x_st, x_boxh, x_alloc, x_bslh, x_mks, x_app, exOp_gt, exOp_gf, exOp_gf2, exOp_gs, put_some, put_none, ev_t, ev_c, List.getD_cons_zero, List.getD_cons_succ, List.set_cons_zero, List.set_cons_succ, Option.map_some, Option.map_none, optB_some, if_true, Bool.false_eq_true, if_false, ne_eq, reduceCtorEq, not_false_eq_true, not_true_eq_false, Bool.true_eq_false, len_vis, lenV_fz, lenV_sl, lenV_nils, lenV_str, binV, intB, unV, ld_fp_int, ld_fp_bool, ld_fp_str, ld_fp_fz, ld_fp_vis, ld_fp_sl, ld_fp_nils, ld_fp_ptr, ld_fp_fpp, ld_fp_nilp, ld_bx_int, ld_bx_bool, ld_bx_str, ld_bx_fz, ld_bx_vis, ld_bx_sl, ld_bx_nils, ld_bx_ptr, ld_bx_fpp, ld_bx_nilp, List.length_cons, List.length_nil, beq_self_eq_true, Bool.and_self, Bool.and_true, Bool.true_and]
    exact Run.ret ⟨rfl, x, rfl, hx, cx, cy, fun d d1 d2 => (hd d d1 d2).1⟩

/-- a row of numbers, wherever it lies -/
structure RowIn (H : Heap) (v : V) (l : List Nat) : Prop where
  len : lenV false v = some (.int .i64 (l.length : Int))
  get : ∀ i, i < l.length → ∃ p, idxaV v (.int .i64 (i : Int)) 1 false = some p ∧ ldV H p none = some (.int .i64 ((l.getD i 0 : Nat) : Int))

theorem near {rows : List (List Int)} {r k tb : Nat} {tr : List Int} (W : WalkOf rows left) (R : DomMath.Rd rows left r k tr) (hn : n = rows.length) (N : NetH n left nextV lg H) (TH : TreeH tb tr H) {preds : List Nat} {v : V} (hv : RowIn H v preds) (hp : ∀ p ∈ preds, p < n) (hpl : preds.length ≤ 1099511627776) :
    Fn T 24 [.ptr 1 0 0, .sl tb 0 0 n 1 false, v] H (fun r h => h = H ∧ ((∃ m : Nat, r = vi m ∧ Sx tr m ∧ (∀ p ∈ preds, Sx tr p → Ch (tx tr) p m) ∧ ∀ d, (∀ p ∈ preds, Sx tr p → Ch (tx tr) p d) → Ch (tx tr) m d) ∨
      (r = vi (-1) ∧ ∀ p ∈ preds, ¬ Sx tr p))) := by
  refine Fn.enter t24 ?_; simp only [i24, List.length_cons, List.length_nil, Nat.reduceAdd, Nat.reduceSub, List.replicate_succ, List.replicate_zero, List.cons_append, List.nil_append]
  refine Run.seqr ?_; simp only [i24r0, exOps_nil, exOps_cons, bindO_some, mapQ_some, mapW_some, x_mov, x_pick, x_bin, x_un, x_cvt, x_ld, x_b2s, x_idxa, x_idxs, x_fld, x_flda, x_boxf, x_boxr, x_bld, x_bslf, x_slc, x_len, x_ext, x_nchk, x_mkf, x_mki, xl_ld, xl_b2s, x_st, x_boxh, x_alloc, x_bslh, x_mks, x_app, exOp_gt, exOp_gf, exOp_gf2, exOp_gs, put_some, put_none, ev_t, ev_c, List.getD_cons_zero, List.getD_cons_succ, List.set_cons_zero, List.set_cons_succ, Option.map_some, Option.map_none, optB_some, if_true, Bool.false_eq_true, if_false, ne_eq, reduceCtorEq, not_false_eq_true, not_true_eq_false, Bool.true_eq_false, len_vis, lenV_fz, lenV_sl, lenV_nils, lenV_str, binV, intB, unV, ld_fp_int, ld_fp_bool, ld_fp_str, ld_fp_fz, ld_fp_vis, ld_fp_sl, ld_fp_nils, ld_fp_ptr, ld_fp_fpp, ld_fp_nilp, ld_bx_int, ld_bx_bool, ld_bx_str, ld_bx_fz, ld_bx_vis, ld_bx_sl, ld_bx_nils, ld_bx_ptr, ld_bx_fpp, ld_bx_nilp, List.length_cons, List.length_nil, beq_self_eq_true, Bool.and_self, Bool.and_true, Bool.true_and]
  refine Run.seqr ?_; simp only [i24r1, exOps_nil, exOps_cons, bindO_some, mapQ_some, mapW_some, x_mov, x_pick, x_bin, x_un, x_cvt, x_ld, x_b2s, x_idxa, x_idxs, x_fld, x_flda, x_boxf, x_boxr, x_bld, x_bslf, x_slc, x_len, x_ext, x_nchk, x_mkf, x_mki, xl_ld, xl_b2s, x_st, x_boxh, x_alloc, x_bslh, x_mks, x_app, exOp_gt, exOp_gf, exOp_gf2, exOp_gs, put_some, put_none, ev_t, ev_c, List.getD_cons_zero, List.getD_cons_succ, List.set_cons_zero, List.set_cons_succ, Option.map_some, Option.map_none, optB_some, if_true, Bool.false_eq_true, if_false, ne_eq, reduceCtorEq, not_false_eq_true, not_true_eq_false, Bool.true_eq_false, len_vis, lenV_fz, lenV_sl, lenV_nils, lenV_str, binV, intB, unV, ld_fp_int, ld_fp_bool, ld_fp_str, ld_fp_fz, ld_fp_vis, ld_fp_sl, ld_fp_nils, ld_fp_ptr, ld_fp_fpp, ld_fp_nilp, ld_bx_int, ld_bx_bool, ld_bx_str, ld_bx_fz, ld_bx_vis, ld_bx_sl, ld_bx_nils, ld_bx_ptr, ld_bx_fpp, ld_bx_nilp, List.length_cons, List.length_nil, beq_self_eq_true, Bool.and_self, Bool.and_true, Bool.true_and]
  refine Run.seq (Run.seq ?_)
  refine Run.rgn (RunO.all ?_); simp only [i24r2, exOps_nil, exOps_cons, bindO_some, mapQ_some, mapW_some, x_mov, x_pick, x_bin, x_un, x_cvt, x_ld, x_b2s, x_idxa, x_idxs, x_fld, x_flda, x_boxf, x_boxr, x_bld, x_bslf, x_slc, x_len, x_ext, x_nchk, x_mkf, x_mki, xl_ld, xl_b2s, x_st, x_boxh, x_alloc, x_bslh, x_mks, x_app, exOp_gt, exOp_gf, exOp_gf2, exOp_gs, put_some, put_none, ev_t, ev_c, List.getD_cons_zero, List.getD_cons_succ, List.set_cons_zero, List.set_cons_succ, Option.map_some, Option.map_none, optB_some, if_true, Bool.false_eq_true, if_false, ne_eq, reduceCtorEq, not_false_eq_true, not_true_eq_false, Bool.true_eq_false, len_vis, lenV_fz, lenV_sl, lenV_nils, lenV_str, binV, intB, unV, ld_fp_int, ld_fp_bool, ld_fp_str, ld_fp_fz, ld_fp_vis, ld_fp_sl, ld_fp_nils, ld_fp_ptr, ld_fp_fpp, ld_fp_nilp, ld_bx_int, ld_bx_bool, ld_bx_str, ld_bx_fz, ld_bx_vis, ld_bx_sl, ld_bx_nils, ld_bx_ptr, ld_bx_fpp, ld_bx_nilp, List.length_cons, List.length_nil, beq_self_eq_true, Bool.and_self, Bool.and_true, Bool.true_and, hv.len]
  refine Run.block ?_
  refine Run.loopc (fun m e h => ∃ (i : Nat) (x : Int), i ≤ preds.length ∧ m = preds.length - i ∧ h = H ∧
    ((∃ y : Nat, x = (y : Int) ∧ Sx tr y ∧ (∀ p ∈ preds.take i, Sx tr p → Ch (tx tr) p y) ∧ ∀ d, (∀ p ∈ preds.take i, Sx tr p → Ch (tx tr) p d) → Ch (tx tr) y d) ∨ (x = -1 ∧ ∀ p ∈ preds.take i, ¬ Sx tr p)) ∧
    e = i24e21 (.ptr 1 0 0) (.sl tb 0 0 n 1 false) (vi x) v (vi preds.length) (vi i)) preds.length ⟨0, -1, by omega, by omega, rfl, .inr ⟨rfl, by simp⟩, (by simp only [clrEnv, List.set_cons_zero, List.set_cons_succ, vi, vis, Int.natCast_zero, Int.natCast_add, Int.natCast_one, i24e21])⟩ ?_
  rintro m e h ⟨i, x, hi, rfl, rfl, hx, rfl⟩
  simp only [i24e21, vi]
  refine Run.seqr ?_; simp only [i24r3, exOps_nil, exOps_cons, bindO_some, mapQ_some, mapW_some, x_mov, x_pick, x_bin, x_un, x_cvt, x_ld, x_b2s, x_idxa, x_idxs, x_fld, x_flda, x_boxf, x_boxr, x_bld, x_bslf, x_slc, x_len, x_ext, x_nchk, x_mkf, x_mki, xl_ld, xl_b2s, x_st, x_boxh, x_alloc, x_bslh, x_mks, x_app, exOp_gt, exOp_gf, exOp_gf2, exOp_gs, put_some, put_none, ev_t, ev_c, List.getD_cons_zero, List.getD_cons_succ, List.set_cons_zero, List.set_cons_succ, Option.map_some, Option.map_none, optB_some, if_true, Bool.false_eq_true, if_false, ne_eq, reduceCtorEq, not_false_eq_true, not_true_eq_false, Bool.true_eq_false, len_vis, lenV_fz, lenV_sl, lenV_nils, lenV_str, binV, intB, unV, ld_fp_int, ld_fp_bool, ld_fp_str, ld_fp_fz, ld_fp_vis, ld_fp_sl, ld_fp_nils, ld_fp_ptr, ld_fp_fpp, ld_fp_nilp, ld_bx_int, ld_bx_bool, ld_bx_str, ld_bx_fz, ld_bx_vis, ld_bx_sl, ld_bx_nils, ld_bx_ptr, ld_bx_fpp, ld_bx_nilp, List.length_cons, List.length_nil, beq_self_eq_true, Bool.and_self, Bool.and_true, Bool.true_and]
  refine Run.seq (Run.ite (by rfl) (fun hlt => ?_) (fun hge => ?_))
  · have hlt : i < preds.length := by have := of_decide_eq_true hlt; omega
    obtain ⟨q, g1, g2⟩ := hv.get i hlt
    have e0 : preds.getD i 0 = preds[i] := getD_nat hlt 0
    have hmem : preds[i] ∈ preds := List.getElem_mem hlt
    rw [e0] at g2
    generalize hpe : preds[i] = p at *
    have hpn := hp p hmem
    have htl : p < tr.length := by rw [R.len, ← hn]; exact hpn
    have htake : preds.take (i + 1) = preds.take i ++ [p] := by rw [List.take_succ_eq_append_getElem hlt, hpe]
    have hsucc : IntKind.i64.wrap ((i : Int) + 1) = (i : Int) + 1 := wrap64_in (by omega) (by omega)
    refine Run.skip (Run.seq (Run.block ?_))
    refine Run.seqr ?_; simp only [i24r5, exOps_nil, exOps_cons, bindO_some, mapQ_some, mapW_some, x_mov, x_pick, x_bin, x_un, x_cvt, x_ld, x_b2s, x_idxa, x_idxs, x_fld, x_flda, x_boxf, x_boxr, x_bld, x_bslf, x_slc, x_len, x_ext, x_nchk, x_mkf, x_mki, xl_ld, xl_b2s, x_st, x_boxh, x_alloc, x_bslh, x_mks, x_app, exOp_gt, exOp_gf, exOp_gf2, exOp_gs, put_some, put_none, ev_t, ev_c, List.getD_cons_zero, List.getD_cons_succ, List.set_cons_zero, List.set_cons_succ, Option.map_some, Option.map_none, optB_some, if_true, Bool.false_eq_true, if_false, ne_eq, reduceCtorEq, not_false_eq_true, not_true_eq_false, Bool.true_eq_false, len_vis, lenV_fz, lenV_sl, lenV_nils, lenV_str, binV, intB, unV, ld_fp_int, ld_fp_bool, ld_fp_str, ld_fp_fz, ld_fp_vis, ld_fp_sl, ld_fp_nils, ld_fp_ptr, ld_fp_fpp, ld_fp_nilp, ld_bx_int, ld_bx_bool, ld_bx_str, ld_bx_fz, ld_bx_vis, ld_bx_sl, ld_bx_nils, ld_bx_ptr, ld_bx_fpp, ld_bx_nilp, List.length_cons, List.length_nil, beq_self_eq_true, Bool.and_self, Bool.and_true, Bool.true_and, g1, g2]
    refine Run.block (Run.seq ?_)
    refine Run.rgn (RunO.all ?_); simp only [i24r6, exOps_nil, exOps_cons, bindO_some, mapQ_some, mapW_some, x_mov, x_pick, x_bin, x_un, x_cvt, x_ld, x_b2s, x_idxa, x_idxs, x_fld, x_flda, x_boxf, x_boxr, x_bld, x_bslf, x_slc, x_len, x_ext, x_nchk, x_mkf, x_mki, xl_ld, xl_b2s, x_st, x_boxh, x_alloc, x_bslh, x_mks, x_app, exOp_gt, exOp_gf, exOp_gf2, exOp_gs, put_some, put_none, ev_t, ev_c, List.getD_cons_zero, List.getD_cons_succ, List.set_cons_zero, List.set_cons_succ, Option.map_some, Option.map_none, optB_some, if_true, Bool.false_eq_true, if_false, ne_eq, reduceCtorEq, not_false_eq_true, not_true_eq_false, Bool.true_eq_false, len_vis, lenV_fz, lenV_sl, lenV_nils, lenV_str, binV, intB, unV, ld_fp_int, ld_fp_bool, ld_fp_str, ld_fp_fz, ld_fp_vis, ld_fp_sl, ld_fp_nils, ld_fp_ptr, ld_fp_fpp, ld_fp_nilp, ld_bx_int, ld_bx_bool, ld_bx_str, ld_bx_fz, ld_bx_vis, ld_bx_sl, ld_bx_nils, ld_bx_ptr, ld_bx_fpp, ld_bx_nilp, List.length_cons, List.length_nil, beq_self_eq_true, Bool.and_self, Bool.and_true, Bool.true_and, show idxaV (.sl tb 0 0 n 1 false) (.int .i64 (p : Int)) 1 false = some (.ptr tb 0 p) from idx_sl hpn, TH.ld htl]
    refine Run.ite (by rfl) (fun h1 => ?_) (fun h1 => ?_)
    · have h1 : ¬ Sx tr p := fun h => by have := of_decide_eq_true h1; have := h.2; omega
      refine Run.skip ?_
      refine Run.rgn (RunO.all ?_); simp only [i24r17, exOps_nil, exOps_cons, bindO_some, mapQ_some, mapW_some, x_mov, x_pick, x_bin, x_un, x_cvt, x_ld, x_b2s, x_idxa, x_idxs, x_fld, x_flda, x_boxf, x_boxr, x_bld, x_bslf, x_slc, x_len, x_ext, x_nchk, x_mkf, x_mki, xl_ld, xl_b2s, x_st, x_boxh, x_alloc, x_bslh, x_mks, x_app, exOp_gt, exOp_gf, exOp_gf2, exOp_gs, put_some, put_none, ev_t, ev_c, List.getD_cons_zero, List.getD_cons_succ, List.set_cons_zero, List.set_cons_succ, Option.map_some, Option.map_none, optB_some, if_true, Bool.false_eq_true, if_false, ne_eq, reduceCtorEq, not_false_eq_true, not_true_eq_false, Bool.true_eq_false, len_vis, lenV_fz, lenV_sl, lenV_nils, lenV_str, binV, intB, unV, ld_fp_int, ld_fp_bool, ld_fp_str, ld_fp_fz, ld_fp_vis, ld_fp_sl, ld_fp_nils, ld_fp_ptr, ld_fp_fpp, ld_fp_nilp, ld_bx_int, ld_bx_bool, ld_bx_str, ld_bx_fz, ld_bx_vis, ld_bx_sl, ld_bx_nils, ld_bx_ptr, ld_bx_fpp, ld_bx_nilp, List.length_cons, List.length_nil, beq_self_eq_true, Bool.and_self, Bool.and_true, Bool.true_and, hsucc]
      refine ⟨preds.length - (i + 1), by omega, i + 1, x, by omega, rfl, rfl, ?_, (by simp only [clrEnv, List.set_cons_zero, List.set_cons_succ, vi, vis, Int.natCast_zero, Int.natCast_add, Int.natCast_one, i24e21])⟩
      rw [htake]
      rcases hx with ⟨y, rfl, h2, h3, h4⟩ | ⟨rfl, h2⟩
      · refine .inl ⟨y, rfl, h2, fun p' hp' hs => ?_, fun d hd => h4 d fun p' hp' hs => hd p' (List.mem_append_left _ hp') hs⟩
        rcases List.mem_append.1 hp' with h | h
        · exact h3 p' h hs
        · rw [List.mem_singleton.1 h] at hs; exact absurd hs h1
      · refine .inr ⟨rfl, fun p' hp' => ?_⟩
        rcases List.mem_append.1 hp' with h | h
        · exact h2 p' h
        · rw [List.mem_singleton.1 h]; exact h1
    · have h1 : Sx tr p := ⟨htl, by have := of_decide_eq_false h1; omega⟩
      refine Run.seq ?_
      rcases hx with ⟨y, rfl, h2, h3, h4⟩ | ⟨rfl, h2⟩
      · refine Run.rgn (RunO.all ?_); simp only [i24r7, exOps_nil, exOps_cons, bindO_some, mapQ_some, mapW_some, x_mov, x_pick, x_bin, x_un, x_cvt, x_ld, x_b2s, x_idxa, x_idxs, x_fld, x_flda, x_boxf, x_boxr, x_bld, x_bslf, x_slc, x_len, x_ext, x_nchk, x_mkf, x_mki, xl_ld, xl_b2s, x_st, x_boxh, x_alloc, x_bslh, x_mks, x_app, exOp_gt, exOp_gf, exOp_gf2, exOp_gs, put_some, put_none, ev_t, ev_c, List.getD_cons_zero, List.getD_cons_succ, List.set_cons_zero, List.set_cons_succ, Option.map_some, Option.map_none, optB_some, if_true, Bool.false_eq_true, if_false, ne_eq, reduceCtorEq, not_false_eq_true, not_true_eq_false, Bool.true_eq_false, len_vis, lenV_fz, lenV_sl, lenV_nils, lenV_str, binV, intB, unV, ld_fp_int, ld_fp_bool, ld_fp_str, ld_fp_fz, ld_fp_vis, ld_fp_sl, ld_fp_nils, ld_fp_ptr, ld_fp_fpp, ld_fp_nilp, ld_bx_int, ld_bx_bool, ld_bx_str, ld_bx_fz, ld_bx_vis, ld_bx_sl, ld_bx_nils, ld_bx_ptr, ld_bx_fpp, ld_bx_nilp, List.length_cons, List.length_nil, beq_self_eq_true, Bool.and_self, Bool.and_true, Bool.true_and, decide_eq_false (show ¬ (y : Int) < 0 by omega)]
        refine Run.ite (by rfl) (fun h => by cases h) (fun _ => ?_)
        refine Run.rgn ?_
        refine RunO.pre 4 ?_; simp only [i24r9, List.take_succ_cons, List.take_zero, List.drop_succ_cons, List.drop_zero, exOps_nil, exOps_cons, bindO_some, mapQ_some, mapW_some, x_mov, x_pick, x_bin, x_un, x_cvt, x_ld, x_b2s, x_idxa, x_idxs, x_fld, x_flda, x_boxf, x_boxr, x_bld, x_bslf, x_slc, x_len, x_ext, x_nchk, x_mkf, x_mki, xl_ld, xl_b2s, x_st, x_boxh, x_alloc, x_bslh, x_mks, x_app, exOp_gt, exOp_gf, exOp_gf2, exOp_gs, put_some, put_none, ev_t, ev_c, List.getD_cons_zero, List.getD_cons_succ, List.set_cons_zero, List.set_cons_succ, Option.map_some, Option.map_none, optB_some, if_true, Bool.false_eq_true, if_false, ne_eq, reduceCtorEq, not_false_eq_true, not_true_eq_false, Bool.true_eq_false, len_vis, lenV_fz, lenV_sl, lenV_nils, lenV_str, binV, intB, unV, ld_fp_int, ld_fp_bool, ld_fp_str, ld_fp_fz, ld_fp_vis, ld_fp_sl, ld_fp_nils, ld_fp_ptr, ld_fp_fpp, ld_fp_nilp, ld_bx_int, ld_bx_bool, ld_bx_str, ld_bx_fz, ld_bx_vis, ld_bx_sl, ld_bx_nils, ld_bx_ptr, ld_bx_fpp, ld_bx_nilp, List.length_cons, List.length_nil, beq_self_eq_true, Bool.and_self, Bool.and_true, Bool.true_and]
        refine RunO.h (by rfl) ((meet W R hn N TH h2 h1).mono ?_)
        rintro r' h' ⟨rfl, z, rfl, z1, z2, z3, z4⟩
        refine RunO.all ?_; simp only [exOps_nil, exOps_cons, bindO_some, mapQ_some, mapW_some, x_mov, x_pick, x_bin, x_un, x_cvt, x_ld, x_b2s, x_idxa, x_idxs, x_fld, x_flda, x_boxf, x_boxr, x_bld, x_bslf, x_slc, x_len, x_ext, x_nchk, x_mkf, x_mki, xl_ld, xl_b2s, x_st, x_boxh, x_alloc, x_bslh, x_mks, x_app, exOp_gt, exOp_gf, exOp_gf2, exOp_gs, put_some, put_none, ev_t, ev_c, List.getD_cons_zero, List.getD_cons_succ, List.set_cons_zero, List.set_cons_succ, Option.map_some, Option.map_none, optB_some, if_true, Bool.false_eq_true, if_false, ne_eq, reduceCtorEq, not_false_eq_true, not_true_eq_false, Bool.true_eq_false, len_vis, lenV_fz, lenV_sl, lenV_nils, lenV_str, binV, intB, unV, ld_fp_int, ld_fp_bool, ld_fp_str, ld_fp_fz, ld_fp_vis, ld_fp_sl, ld_fp_nils, ld_fp_ptr, ld_fp_fpp, ld_fp_nilp, ld_bx_int, ld_bx_bool, ld_bx_str, ld_bx_fz, ld_bx_vis, ld_bx_sl, ld_bx_nils, ld_bx_ptr, ld_bx_fpp, ld_bx_nilp, List.length_cons, List.length_nil, beq_self_eq_true, Bool.and_self, Bool.and_true, Bool.true_and, vi]
        refine Run.rgn (RunO.all ?_); simp only [i24r17, exOps_nil, exOps_cons, bindO_some, mapQ_some, mapW_some, x_mov, x_pick, x_bin, x_un, x_cvt, x_ld, x_b2s, x_idxa, x_idxs, x_fld, x_flda, x_boxf, x_boxr, x_bld, x_bslf, x_slc, x_len, x_ext, x_nchk, x_mkf, x_mki, xl_ld, xl_b2s, x_st, x_boxh, x_alloc, x_bslh, x_mks, x_app, exOp_gt, exOp_gf, exOp_gf2, exOp_gs, put_some, put_none, ev_t, ev_c, List.getD_cons_zero, List.getD_cons_succ, List.set_cons_zero, List.set_cons_succ, Option.map_some, Option.map_none, optB_some, if_true, Bool.false_eq_true, if_false, ne_eq, reduceCtorEq, not_false_eq_true, not_true_eq_false, Bool.true_eq_false, len_vis, lenV_fz, lenV_sl, lenV_nils, lenV_str, binV, intB, unV, ld_fp_int, ld_fp_bool, ld_fp_str, ld_fp_fz, ld_fp_vis, ld_fp_sl, ld_fp_nils, ld_fp_ptr, ld_fp_fpp, ld_fp_nilp, ld_bx_int, ld_bx_bool, ld_bx_str, ld_bx_fz, ld_bx_vis, ld_bx_sl, ld_bx_nils, ld_bx_ptr, ld_bx_fpp, ld_bx_nilp, List.length_cons, List.length_nil, beq_self_eq_true, Bool.and_self, Bool.and_true, Bool.true_and, hsucc]
        refine ⟨preds.length - (i + 1), by omega, i + 1, (z : Int), by omega, rfl, rfl, .inl ⟨z, rfl, z1, ?_, ?_⟩, (by simp only [clrEnv, List.set_cons_zero, List.set_cons_succ, vi, vis, Int.natCast_zero, Int.natCast_add, Int.natCast_one, i24e21])⟩
        · rw [htake]
          intro p' hp' hs
          rcases List.mem_append.1 hp' with h | h
          · exact (h3 p' h hs).trans z2
          · rw [List.mem_singleton.1 h]; exact z3
        · rw [htake]
          intro d hd
          exact z4 d (h4 d fun p' hp' hs => hd p' (List.mem_append_left _ hp') hs) (hd p (by simp) h1)
      · refine Run.rgn (RunO.all ?_); simp only [i24r7, exOps_nil, exOps_cons, bindO_some, mapQ_some, mapW_some, x_mov, x_pick, x_bin, x_un, x_cvt, x_ld, x_b2s, x_idxa, x_idxs, x_fld, x_flda, x_boxf, x_boxr, x_bld, x_bslf, x_slc, x_len, x_ext, x_nchk, x_mkf, x_mki, xl_ld, xl_b2s, x_st, x_boxh, x_alloc, x_bslh, x_mks, x_app, exOp_gt, exOp_gf, exOp_gf2, exOp_gs, put_some, put_none, ev_t, ev_c, List.getD_cons_zero, List.getD_cons_succ, List.set_cons_zero, List.set_cons_succ, Option.map_some, Option.map_none, optB_some, if_true, Bool.false_eq_true, if_false, ne_eq, reduceCtorEq, not_false_eq_true, not_true_eq_false, Bool.true_eq_false, len_vis, lenV_fz, lenV_sl, lenV_nils, lenV_str, binV, intB, unV, ld_fp_int, ld_fp_bool, ld_fp_str, ld_fp_fz, ld_fp_vis, ld_fp_sl, ld_fp_nils, ld_fp_ptr, ld_fp_fpp, ld_fp_nilp, ld_bx_int, ld_bx_bool, ld_bx_str, ld_bx_fz, ld_bx_vis, ld_bx_sl, ld_bx_nils, ld_bx_ptr, ld_bx_fpp, ld_bx_nilp, List.length_cons, List.length_nil, beq_self_eq_true, Bool.and_self, Bool.and_true, Bool.true_and, show decide ((-1 : Int) < 0) = true from rfl]
        refine Run.ite (by rfl) (fun _ => ?_) (fun h => by cases h)
        refine Run.rgn (RunO.all ?_); simp only [i24r8, exOps_nil, exOps_cons, bindO_some, mapQ_some, mapW_some, x_mov, x_pick, x_bin, x_un, x_cvt, x_ld, x_b2s, x_idxa, x_idxs, x_fld, x_flda, x_boxf, x_boxr, x_bld, x_bslf, x_slc, x_len, x_ext, x_nchk, x_mkf, x_mki, xl_ld, xl_b2s, x_st, x_boxh, x_alloc, x_bslh, x_mks, x_app, exOp_gt, exOp_gf, exOp_gf2, exOp_gs, put_some, put_none, ev_t, ev_c, List.getD_cons_zero, List.getD_cons_succ, List.set_cons_zero, List.set_cons_succ, Option.map_some, Option.map_none, optB_some, if_true, Bool.false_eq_true, if_false, ne_eq, reduceCtorEq, not_false_eq_true, not_true_eq_false, Bool.true_eq_false, len_vis, lenV_fz, lenV_sl, lenV_nils, lenV_str, binV, intB, unV, ld_fp_int, ld_fp_bool, ld_fp_str, ld_fp_fz, ld_fp_vis, ld_fp_sl, ld_fp_nils, ld_fp_ptr, ld_fp_fpp, ld_fp_nilp, ld_bx_int, ld_bx_bool, ld_bx_str, ld_bx_fz, ld_bx_vis, ld_bx_sl, ld_bx_nils, ld_bx_ptr, ld_bx_fpp, ld_bx_nilp, List.length_cons, List.length_nil, beq_self_eq_true, Bool.and_self, Bool.and_true, Bool.true_and]
        refine Run.rgn (RunO.all ?_); simp only [i24r17, exOps_nil, exOps_cons, bindO_some, mapQ_some, mapW_some, x_mov, x_pick, x_bin, x_un, x_cvt, x_ld, x_b2s, x_idxa, x_idxs, x_fld, x_flda, x_boxf, x_boxr, x_bld, x_bslf, x_slc, x_len, x_ext, x_nchk, x_mkf, x_mki, xl_ld, xl_b2s, x_st, x_boxh, x_alloc, x_bslh, x_mks, x_app, exOp_gt, exOp_gf, exOp_gf2, exOp_gs, put_some, put_none, ev_t, ev_c, List.getD_cons_zero, List.getD_cons_succ, List.set_cons_zero, List.set_cons_succ, Option.map_some, Option.map_none, optB_some, if_true, Bool.false_eq_true, if_false, ne_eq, reduceCtorEq, not_false_eq_true, not_true_eq_false, Bool.true_eq_false, len_vis, lenV_fz, lenV_sl, lenV_nils, lenV_str, binV, intB, unV, ld_fp_int, ld_fp_bool, ld_fp_str, ld_fp_fz, ld_fp_vis, ld_fp_sl, ld_fp_nils, ld_fp_ptr, ld_fp_fpp, ld_fp_nilp, ld_bx_int, ld_bx_bool, ld_bx_str, ld_bx_fz, ld_bx_vis, ld_bx_sl, ld_bx_nils, ld_bx_ptr, ld_bx_fpp, ld_bx_nilp, List.length_cons, List.length_nil, beq_self_eq_true, Bool.and_self, Bool.and_true, Bool.true_and, hsucc]
        refine ⟨preds.length - (i + 1), by omega, i + 1, (p : Int), by omega, rfl, rfl, .inl ⟨p, rfl, h1, ?_, ?_⟩, (by simp only [clrEnv, List.set_cons_zero, List.set_cons_succ, vi, vis, Int.natCast_zero, Int.natCast_add, Int.natCast_one, i24e21])⟩
        · rw [htake]
          intro p' hp' hs
          rcases List.mem_append.1 hp' with h | h
          · exact absurd hs (h2 p' h)
          · rw [List.mem_singleton.1 h]; exact .refl _
        · rw [htake]
          intro d hd
          exact hd p (by simp) h1
  · have hge : i = preds.length := by have := of_decide_eq_false hge; omega
    refine Run.exit ?_
    show Run T _ _ _ _
    refine Run.seqr ?_; simp only [i24r24, exOps_nil, exOps_cons, bindO_some, mapQ_some, mapW_some, x_mov, x_pick, x_bin, x_un, x_cvt, x_ld, x_b2s, x_idxa, x_idxs, x_fld, x_flda, x_boxf, x_boxr, x_bld, x_bslf, x_slc, x_len, x_ext, x_nchk, x_mkf, x_mki, xl_ld, xl_b2s, x_st, x_boxh, x_alloc, x_bslh, x_mks, x_app, exOp_gt, exOp_gf, exOp_gf2, exOp_gs, put_some, put_none, ev_t, ev_c, List.getD_cons_zero, List.getD_cons_succ, List.set_cons_zero, List.set_cons_succ, Option.map_some, Option.map_none, optB_some, if_true, Bool.false_eq_true, if_false, ne_eq, reduceCtorEq, not_false_eq_true, not_true_eq_false, Bool.true_eq_false, len_vis, lenV_fz, lenV_sl, lenV_nils, lenV_str, binV, intB, unV, ld_fp_int, ld_fp_bool, ld_fp_str, ld_fp_fz, ld_fp_vis, ld_fp_sl, ld_fp_nils, ld_fp_ptr, ld_fp_fpp, ld_fp_nilp, ld_bx_int, ld_bx_bool, ld_bx_str, ld_bx_fz, ld_bx_vis, ld_bx_sl, ld_bx_nils, ld_bx_ptr, ld_bx_fpp, ld_bx_nilp, List.length_cons, List.length_nil, beq_self_eq_true, Bool.and_self, Bool.and_true, Bool.true_and]
    refine Run.ret ⟨rfl, ?_⟩
    rw [hge, List.take_length] at hx
    rcases hx with ⟨y, rfl, h2, h3, h4⟩ | ⟨rfl, h2⟩
    · exact .inl ⟨y, rfl, h2, h3, h4⟩
    · exact .inr ⟨rfl, h2⟩
end
end Go.Eng.Dom
