/- Functions of this seat, run on unknown values by the rules of the small machine (no condition beyond those stated). -/
import Derived.Test.YthobdkimccepbaaDomE
import Derived.Test.YthobdkimccepbaaEngW
namespace Go.Eng.Dom
open Go Go.Eng DomMath
set_option linter.unusedVariables false
set_option linter.unusedSimpArgs false

/-- nodes that were met, and those that wait -/
structure Wl (E : Nat → Nat → Prop) (n : Nat) (met : List Bool) (wait : List Nat) (ex : Nat → Prop) : Prop where
  len : met.length = n
  zero : met.getD 0 false = true
  r : ∀ b, met.getD b false = true → RB E b
  w : ∀ b ∈ wait, b < n ∧ met.getD b false = true
  c : ∀ a b, met.getD a false = true → a ∉ wait → ¬ ex a → E a b → met.getD b false = true
section
variable {E : Nat → Nat → Prop} {n : Nat} {met : List Bool} {wait : List Nat} {ex : Nat → Prop}
theorem Wl.start (hn : 0 < n) : Wl E n ((List.replicate n false).set 0 true) [0] (fun _ => False) := by
  have h : ∀ b, ((List.replicate n false).set 0 true).getD b false = true ↔ b = 0 := by
    intro b
    by_cases c : b = 0
    · subst c; rw [DomMath.getD_set_eq (by simpa using hn)]; simp
    · rw [DomMath.getD_set_ne (fun e => c e.symm)]
      have : (List.replicate n false).getD b false = false := by
        simp only [List.getD]
        rw [List.getElem?_replicate]; split <;> rfl
      rw [this]; simp [c]
  refine ⟨by simp, (h 0).2 rfl, fun b hb => by rw [(h b).1 hb]; exact .zero, fun b hb => ?_, fun a b ha hn => ?_⟩
  · rw [List.mem_singleton] at hb; subst hb; exact ⟨hn, (h 0).2 rfl⟩
  · exact absurd (List.mem_singleton.2 ((h a).1 ha)) hn
theorem Wl.sub {wait' : List Nat} {i : Nat} (h : Wl E n met wait' (fun _ => False)) (h1 : ∀ x ∈ wait, x ∈ wait') (h2 : ∀ x ∈ wait', x ∈ wait ∨ x = i) : Wl E n met wait (fun a => a = i) :=
  ⟨h.len, h.zero, h.r, fun b hb => h.w b (h1 b hb), fun a b ha hn hx e => h.c a b ha (fun hm => by rcases h2 a hm with h | h; exact hn h; exact hx h) id e⟩
theorem Wl.push {wait' : List Nat} {i b : Nat} (h : Wl E n met wait ex) (hi : met.getD i false = true) (e : E i b) (hb : b < n) (hw : ∀ x, x ∈ wait' ↔ x ∈ wait ∨ x = b) : Wl E n (met.set b true) wait' ex := by
  have hs : ∀ x, (met.set b true).getD x false = true ↔ met.getD x false = true ∨ x = b := by
    intro x
    by_cases c : x = b
    · subst c; rw [DomMath.getD_set_eq (by rw [h.len]; exact hb)]; simp
    · rw [DomMath.getD_set_ne (fun e => c e.symm)]; simp [c]
  refine ⟨by rw [List.length_set, h.len], (hs 0).2 (.inl h.zero), fun x hx => ?_, fun x hx => ?_, fun a x ha hn hx e' => ?_⟩
  · rcases (hs x).1 hx with h1 | h1
    · exact h.r x h1
    · subst h1; exact (h.r i hi).step e
  · rcases (hw x).1 hx with h1 | h1
    · exact ⟨(h.w x h1).1, (hs x).2 (.inl (h.w x h1).2)⟩
    · subst h1; exact ⟨hb, (hs x).2 (.inr rfl)⟩
  · rcases (hs a).1 ha with h1 | h1
    · exact (hs x).2 (.inl (h.c a x h1 (fun hm => hn ((hw a).2 (.inl hm))) hx e'))
    · exact absurd ((hw a).2 (.inr h1)) hn
theorem Wl.close {i : Nat} (h : Wl E n met wait (fun a => a = i)) (hc : ∀ b, E i b → met.getD b false = true) : Wl E n met wait (fun _ => False) :=
  ⟨h.len, h.zero, h.r, h.w, fun a b ha hn _ e => by
    by_cases c : a = i
    · subst c; exact hc b e
    · exact h.c a b ha hn c e⟩
theorem Wl.done (h : Wl E n met [] (fun _ => False)) (b : Nat) : met.getD b false = true ↔ RB E b :=
  ⟨h.r b, fun hb => by
    obtain ⟨l, hl⟩ := hb
    induction hl with
    | nil => exact h.zero
    | step _ e ih => exact h.c _ _ ih (by simp) id e⟩
theorem Wl.lt {b : Nat} (h : Wl E n met wait ex) (hb : met.getD b false = true) : b < n := by
  rw [← h.len]
  false_or_by_contra
  rename_i hn
  have : met.getD b false = false := by simp [List.getD, List.getElem?_eq_none (Nat.le_of_not_lt hn)]
  rw [this] at hb; cases hb
end
theorem cnt_set {met : List Bool} {b : Nat} (hb : b < met.length) (h : met.getD b false = false) : (met.set b true).count false + 1 = met.count false := by
  have h1 : met[b] = false := by rw [← h]; simp [List.getD, hb]
  have h2 := List.count_set (a := true) (b := false) (h := hb)
  have h3 : 0 < met.count false := List.count_pos_iff.2 (by rw [← h1]; exact List.getElem_mem hb)
  rw [h1] at h2
  simp at h2
  omega
/-- an edge that is told in a row -/
theorem edge {rows : List (List Int)} (hok : okn rows = true) {i j : Nat} (hi : i < rows.length) (hj : j < (rows.getD i []).length) : ∃ m : Nat, (rows.getD i []).getD j 0 = (m : Int) ∧ m < rows.length ∧ Ed rows i m := by
  have h : 0 ≤ (rows.getD i []).getD j 0 ∧ (rows.getD i []).getD j 0 < rows.length := by
    false_or_by_contra
    rename_i hn
    rw [not_okn hi hj hn] at hok; cases hok
  refine ⟨((rows.getD i []).getD j 0).toNat, by omega, by omega, ?_⟩
  unfold Ed
  rw [Int.toNat_of_nonneg h.1, getD_nat hj]
  exact List.getElem_mem hj
theorem edge_at {rows : List (List Int)} {i b : Nat} (h : Ed rows i b) : i < rows.length ∧ ∃ j, j < (rows.getD i []).length ∧ (rows.getD i []).getD j 0 = (b : Int) := by
  unfold Ed at h
  have hi : i < rows.length := by
    false_or_by_contra
    rename_i hn
    have : rows.getD i [] = [] := by simp [List.getD, List.getElem?_eq_none (Nat.le_of_not_lt hn)]
    rw [this] at h; cases h
  obtain ⟨j, hj, e⟩ := List.getElem_of_mem h
  exact ⟨hi, j, hj, by rw [getD_nat hj, e]⟩
def vn (k : Nat) : V := .int .i64 (k : Int)
def Ew (rows : List (List Int)) (w : Int) (a b : Nat) : Prop := Ed rows a b ∧ (a : Int) ≠ w

theorem refReached {ws : List V} {rows : List (List Int)} (hw : IsRows ws rows) (S : Small rows) (hok : okn rows = true) (x : Int) :
    Fn T 30 [.fz ws, vi x] [] (fun r h => ∃ met : List Bool, deep false h deepN r = some (.fz (met.map V.bool)) ∧ met.length = rows.length ∧ ∀ b, met.getD b false = true ↔ RB (Ew rows x) b) := by
  have hn : 0 < rows.length := by unfold okn at hok; simp at hok; exact hok.2
  have hnl := S.len
  have hst : [0].length + ((List.replicate rows.length false).set 0 true).count false ≤ rows.length := by
    have := cnt_set (met := List.replicate rows.length false) (b := 0) (by simpa using hn) (by simp [List.getD, hn])
    rw [List.count_replicate_self] at this
    simp only [List.length_cons, List.length_nil]; omega
  refine Fn.enter t30 ?_; simp only [i30, List.length_cons, List.length_nil, Nat.reduceAdd, Nat.reduceSub, List.replicate_succ, List.replicate_zero, List.cons_append, List.nil_append]
  refine Run.seqr ?_; simp only [i30r0, exOps_nil, exOps_cons, bindO_some, mapQ_some, mapW_some, x_mov, x_pick, x_bin, x_un, x_cvt, x_ld, x_b2s, x_idxa, x_idxs, x_fld, x_flda, x_boxf, x_boxr, x_bld, x_bslf, x_slc, x_len, x_ext, x_nchk, x_mkf, x_mki, xl_ld, xl_b2s, x_st, x_boxh, x_alloc, x_bslh, x_mks, x_app, exOp_gt, exOp_gf, exOp_gf2, exOp_gs, put_some, put_none, ev_t, ev_c, List.getD_cons_zero, List.getD_cons_succ, List.set_cons_zero, List.set_cons_succ, Option.map_some, Option.map_none, optB_some, if_true, Bool.false_eq_true, if_false, ne_eq, reduceCtorEq, not_false_eq_true, not_true_eq_false, Bool.true_eq_false, len_vis, lenV_fz, lenV_sl, lenV_nils, lenV_str, binV, intB, unV, ld_fp_int, ld_fp_bool, ld_fp_str, ld_fp_fz, ld_fp_vis, ld_fp_sl, ld_fp_nils, ld_fp_ptr, ld_fp_fpp, ld_fp_nilp, ld_bx_int, ld_bx_bool, ld_bx_str, ld_bx_fz, ld_bx_vis, ld_bx_sl, ld_bx_nils, ld_bx_ptr, ld_bx_fpp, ld_bx_nilp, List.length_cons, List.length_nil, beq_self_eq_true, Bool.and_self, Bool.and_true, Bool.true_and]
  refine Run.seqr ?_; simp only [i30r1, exOps_nil, exOps_cons, bindO_some, mapQ_some, mapW_some, x_mov, x_pick, x_bin, x_un, x_cvt, x_ld, x_b2s, x_idxa, x_idxs, x_fld, x_flda, x_boxf, x_boxr, x_bld, x_bslf, x_slc, x_len, x_ext, x_nchk, x_mkf, x_mki, xl_ld, xl_b2s, x_st, x_boxh, x_alloc, x_bslh, x_mks, x_app, exOp_gt, exOp_gf, exOp_gf2, exOp_gs, put_some, put_none, ev_t, ev_c, List.getD_cons_zero, List.getD_cons_succ, List.set_cons_zero, List.set_cons_succ, Option.map_some, Option.map_none, optB_some, if_true, Bool.false_eq_true, if_false, ne_eq, reduceCtorEq, not_false_eq_true, not_true_eq_false, Bool.true_eq_false, len_vis, lenV_fz, lenV_sl, lenV_nils, lenV_str, binV, intB, unV, ld_fp_int, ld_fp_bool, ld_fp_str, ld_fp_fz, ld_fp_vis, ld_fp_sl, ld_fp_nils, ld_fp_ptr, ld_fp_fpp, ld_fp_nilp, ld_bx_int, ld_bx_bool, ld_bx_str, ld_bx_fz, ld_bx_vis, ld_bx_sl, ld_bx_nils, ld_bx_ptr, ld_bx_fpp, ld_bx_nilp, List.length_cons, List.length_nil, beq_self_eq_true, Bool.and_self, Bool.and_true, Bool.true_and, hw.1, mks_lst (f := V.bool) (H := []) (by_ := 1) false (by omega) hnl, List.nil_append, List.length_nil]
  refine Run.seqr ?_; simp only [i30r2, exOps_nil, exOps_cons, bindO_some, mapQ_some, mapW_some, x_mov, x_pick, x_bin, x_un, x_cvt, x_ld, x_b2s, x_idxa, x_idxs, x_fld, x_flda, x_boxf, x_boxr, x_bld, x_bslf, x_slc, x_len, x_ext, x_nchk, x_mkf, x_mki, xl_ld, xl_b2s, x_st, x_boxh, x_alloc, x_bslh, x_mks, x_app, exOp_gt, exOp_gf, exOp_gf2, exOp_gs, put_some, put_none, ev_t, ev_c, List.getD_cons_zero, List.getD_cons_succ, List.set_cons_zero, List.set_cons_succ, Option.map_some, Option.map_none, optB_some, if_true, Bool.false_eq_true, if_false, ne_eq, reduceCtorEq, not_false_eq_true, not_true_eq_false, Bool.true_eq_false, len_vis, lenV_fz, lenV_sl, lenV_nils, lenV_str, binV, intB, unV, ld_fp_int, ld_fp_bool, ld_fp_str, ld_fp_fz, ld_fp_vis, ld_fp_sl, ld_fp_nils, ld_fp_ptr, ld_fp_fpp, ld_fp_nilp, ld_bx_int, ld_bx_bool, ld_bx_str, ld_bx_fz, ld_bx_vis, ld_bx_sl, ld_bx_nils, ld_bx_ptr, ld_bx_fpp, ld_bx_nilp, List.length_cons, List.length_nil, beq_self_eq_true, Bool.and_self, Bool.and_true, Bool.true_and, show idxaV (.sl 0 0 0 rows.length 1 false) (.int .i64 0) 1 false = some (.ptr 0 0 0) from idx_sl hn, st_lst (f := V.bool) (H := [(0, (List.replicate rows.length false).map V.bool)]) true (rdB_0 _ _ _) (by simpa using hn) rfl]
  refine Run.seqr ?_; simp only [i30r3, exOps_nil, exOps_cons, bindO_some, mapQ_some, mapW_some, x_mov, x_pick, x_bin, x_un, x_cvt, x_ld, x_b2s, x_idxa, x_idxs, x_fld, x_flda, x_boxf, x_boxr, x_bld, x_bslf, x_slc, x_len, x_ext, x_nchk, x_mkf, x_mki, xl_ld, xl_b2s, x_st, x_boxh, x_alloc, x_bslh, x_mks, x_app, exOp_gt, exOp_gf, exOp_gf2, exOp_gs, put_some, put_none, ev_t, ev_c, List.getD_cons_zero, List.getD_cons_succ, List.set_cons_zero, List.set_cons_succ, Option.map_some, Option.map_none, optB_some, if_true, Bool.false_eq_true, if_false, ne_eq, reduceCtorEq, not_false_eq_true, not_true_eq_false, Bool.true_eq_false, len_vis, lenV_fz, lenV_sl, lenV_nils, lenV_str, binV, intB, unV, ld_fp_int, ld_fp_bool, ld_fp_str, ld_fp_fz, ld_fp_vis, ld_fp_sl, ld_fp_nils, ld_fp_ptr, ld_fp_fpp, ld_fp_nilp, ld_bx_int, ld_bx_bool, ld_bx_str, ld_bx_fz, ld_bx_vis, ld_bx_sl, ld_bx_nils, ld_bx_ptr, ld_bx_fpp, ld_bx_nilp, List.length_cons, List.length_nil, beq_self_eq_true, Bool.and_self, Bool.and_true, Bool.true_and, show ∀ H : Heap, bslV H 1 false 1 (.int .i64 0) [(0, .int .i64 0)] false = some (.sl H.length 0 0 1 1 false, H ++ [(0, [.int .i64 0])]) from fun _ => rfl, List.map_cons, List.map_nil, List.cons_append, List.nil_append]
  refine Run.seq (Run.block ?_)
  refine Run.loopc (fun n e h => ∃ (met : List Bool) (wait : List Nat) (g : Nat) (junk : List V), n = wait.length + 2 * met.count false ∧ Wl (Ew rows x) rows.length met wait (fun _ => False) ∧ wait.length + met.count false ≤ rows.length ∧
    h = [(0, met.map V.bool), (g, wait.map vn ++ junk)] ∧ e = i30e34 (.fz ws) (vi x) (.sl 0 0 0 rows.length 1 false) (.sl 1 g 0 wait.length 1 false))
    _ ⟨_, [0], 0, [], rfl, Wl.start hn, hst, rfl, (by simp only [clrEnv, List.set_cons_zero, List.set_cons_succ, vi, vis, Int.natCast_zero, Int.natCast_add, Int.natCast_one, i30e34, List.length_cons, List.length_nil, Nat.zero_add])⟩ ?_
  rintro n e h ⟨met, wait, g, junk, rfl, W, hwl, rfl, rfl⟩
  simp only [i30e34, vi]
  refine Run.seq (Run.seq ?_)
  refine Run.rgn (RunO.all ?_); simp only [i30r4, exOps_nil, exOps_cons, bindO_some, mapQ_some, mapW_some, x_mov, x_pick, x_bin, x_un, x_cvt, x_ld, x_b2s, x_idxa, x_idxs, x_fld, x_flda, x_boxf, x_boxr, x_bld, x_bslf, x_slc, x_len, x_ext, x_nchk, x_mkf, x_mki, xl_ld, xl_b2s, x_st, x_boxh, x_alloc, x_bslh, x_mks, x_app, exOp_gt, exOp_gf, exOp_gf2, exOp_gs, put_some, put_none, ev_t, ev_c, List.getD_cons_zero, List.getD_cons_succ, List.set_cons_zero, List.set_cons_succ, Option.map_some, Option.map_none, optB_some, if_true, Bool.false_eq_true, if_false, ne_eq, reduceCtorEq, not_false_eq_true, not_true_eq_false, Bool.true_eq_false, len_vis, lenV_fz, lenV_sl, lenV_nils, lenV_str, binV, intB, unV, ld_fp_int, ld_fp_bool, ld_fp_str, ld_fp_fz, ld_fp_vis, ld_fp_sl, ld_fp_nils, ld_fp_ptr, ld_fp_fpp, ld_fp_nilp, ld_bx_int, ld_bx_bool, ld_bx_str, ld_bx_fz, ld_bx_vis, ld_bx_sl, ld_bx_nils, ld_bx_ptr, ld_bx_fpp, ld_bx_nilp, List.length_cons, List.length_nil, beq_self_eq_true, Bool.and_self, Bool.and_true, Bool.true_and]
  refine Run.ite (by rfl) (fun hlt => ?_) (fun hge => ?_)
  · have hlt : 0 < wait.length := by have := of_decide_eq_true hlt; omega
    obtain ⟨rest, i, rfl⟩ : ∃ rest i, wait = rest ++ [i] := snoc_of hlt
    have hl1 : (rest ++ [i]).length = rest.length + 1 := by simp
    obtain ⟨hin, him⟩ := W.w i (by simp)
    obtain ⟨w, a1, a2, _, a3⟩ := rowsAt hw hin
    have hrl := S.at hin
    have q0 : IntKind.i64.wrap (((rest ++ [i]).length : Int) - 1) = (rest.length : Int) := by rw [hl1, wrap64_in (by omega) (by omega)]; omega
    have q1 : ldV [(0, met.map V.bool), (g, (rest ++ [i]).map vn ++ junk)] (.ptr 1 g rest.length) none = some (vn i) := ld_lst (f := vn) (l := rest ++ [i]) (junk := junk) (by rw [rdB_s, rdB_0]) (by simp)
    refine Run.skip (Run.block ?_)
    refine Run.seqr ?_; simp only [i30r7, exOps_nil, exOps_cons, bindO_some, mapQ_some, mapW_some, x_mov, x_pick, x_bin, x_un, x_cvt, x_ld, x_b2s, x_idxa, x_idxs, x_fld, x_flda, x_boxf, x_boxr, x_bld, x_bslf, x_slc, x_len, x_ext, x_nchk, x_mkf, x_mki, xl_ld, xl_b2s, x_st, x_boxh, x_alloc, x_bslh, x_mks, x_app, exOp_gt, exOp_gf, exOp_gf2, exOp_gs, put_some, put_none, ev_t, ev_c, List.getD_cons_zero, List.getD_cons_succ, List.set_cons_zero, List.set_cons_succ, Option.map_some, Option.map_none, optB_some, if_true, Bool.false_eq_true, if_false, ne_eq, reduceCtorEq, not_false_eq_true, not_true_eq_false, Bool.true_eq_false, len_vis, lenV_fz, lenV_sl, lenV_nils, lenV_str, binV, intB, unV, ld_fp_int, ld_fp_bool, ld_fp_str, ld_fp_fz, ld_fp_vis, ld_fp_sl, ld_fp_nils, ld_fp_ptr, ld_fp_fpp, ld_fp_nilp, ld_bx_int, ld_bx_bool, ld_bx_str, ld_bx_fz, ld_bx_vis, ld_bx_sl, ld_bx_nils, ld_bx_ptr, ld_bx_fpp, ld_bx_nilp, List.length_cons, List.length_nil, beq_self_eq_true, Bool.and_self, Bool.and_true, Bool.true_and, q0, show idxaV (.sl 1 g 0 (rest ++ [i]).length 1 false) (.int .i64 (rest.length : Int)) 1 false = some (.ptr 1 g rest.length) from idx_sl (by rw [hl1]; omega), q1]
    refine Run.seqr ?_; simp only [i30r8, exOps_nil, exOps_cons, bindO_some, mapQ_some, mapW_some, x_mov, x_pick, x_bin, x_un, x_cvt, x_ld, x_b2s, x_idxa, x_idxs, x_fld, x_flda, x_boxf, x_boxr, x_bld, x_bslf, x_slc, x_len, x_ext, x_nchk, x_mkf, x_mki, xl_ld, xl_b2s, x_st, x_boxh, x_alloc, x_bslh, x_mks, x_app, exOp_gt, exOp_gf, exOp_gf2, exOp_gs, put_some, put_none, ev_t, ev_c, List.getD_cons_zero, List.getD_cons_succ, List.set_cons_zero, List.set_cons_succ, Option.map_some, Option.map_none, optB_some, if_true, Bool.false_eq_true, if_false, ne_eq, reduceCtorEq, not_false_eq_true, not_true_eq_false, Bool.true_eq_false, len_vis, lenV_fz, lenV_sl, lenV_nils, lenV_str, binV, intB, unV, ld_fp_int, ld_fp_bool, ld_fp_str, ld_fp_fz, ld_fp_vis, ld_fp_sl, ld_fp_nils, ld_fp_ptr, ld_fp_fpp, ld_fp_nilp, ld_bx_int, ld_bx_bool, ld_bx_str, ld_bx_fz, ld_bx_vis, ld_bx_sl, ld_bx_nils, ld_bx_ptr, ld_bx_fpp, ld_bx_nilp, List.length_cons, List.length_nil, beq_self_eq_true, Bool.and_self, Bool.and_true, Bool.true_and, q0, show slcV (.sl 1 g 0 (rest ++ [i]).length 1 false) none (some (.int .i64 (rest.length : Int))) 1 = some (.sl 1 g 0 rest.length 1 false) by rw [hl1]; exact slc_pop (by omega) rfl]
    refine Run.seq (Run.seq ?_)
    refine Run.rgn (RunO.all ?_); simp only [i30r9, exOps_nil, exOps_cons, bindO_some, mapQ_some, mapW_some, x_mov, x_pick, x_bin, x_un, x_cvt, x_ld, x_b2s, x_idxa, x_idxs, x_fld, x_flda, x_boxf, x_boxr, x_bld, x_bslf, x_slc, x_len, x_ext, x_nchk, x_mkf, x_mki, xl_ld, xl_b2s, x_st, x_boxh, x_alloc, x_bslh, x_mks, x_app, exOp_gt, exOp_gf, exOp_gf2, exOp_gs, put_some, put_none, ev_t, ev_c, List.getD_cons_zero, List.getD_cons_succ, List.set_cons_zero, List.set_cons_succ, Option.map_some, Option.map_none, optB_some, if_true, Bool.false_eq_true, if_false, ne_eq, reduceCtorEq, not_false_eq_true, not_true_eq_false, Bool.true_eq_false, len_vis, lenV_fz, lenV_sl, lenV_nils, lenV_str, binV, intB, unV, ld_fp_int, ld_fp_bool, ld_fp_str, ld_fp_fz, ld_fp_vis, ld_fp_sl, ld_fp_nils, ld_fp_ptr, ld_fp_fpp, ld_fp_nilp, ld_bx_int, ld_bx_bool, ld_bx_str, ld_bx_fz, ld_bx_vis, ld_bx_sl, ld_bx_nils, ld_bx_ptr, ld_bx_fpp, ld_bx_nilp, List.length_cons, List.length_nil, beq_self_eq_true, Bool.and_self, Bool.and_true, Bool.true_and, vn]
    have W1 : Wl (Ew rows x) rows.length met rest (fun a => a = i) := W.sub (fun y hy => by simp [hy]) (fun y hy => by simpa using hy)
    have hjunk : (rest ++ [i]).map vn ++ junk = rest.map vn ++ (vn i :: junk) := by simp
    refine Run.ite (by rfl) (fun hx => ?_) (fun hx => ?_)
    · have hx : (i : Int) = x := by simpa using hx
      refine Run.exit ?_
      refine ⟨_, ?_, met, rest, g, vn i :: junk, rfl, W1.close (fun b hb => absurd hx hb.2), by rw [hl1] at hwl; omega, by rw [hjunk], (by simp only [clrEnv, List.set_cons_zero, List.set_cons_succ, vi, vis, Int.natCast_zero, Int.natCast_add, Int.natCast_one, i30e34])⟩
      rw [hl1]; omega
    · have hx : (i : Int) ≠ x := by simpa using hx
      refine Run.skip ?_
      refine Run.seqr ?_; simp only [i30r12, exOps_nil, exOps_cons, bindO_some, mapQ_some, mapW_some, x_mov, x_pick, x_bin, x_un, x_cvt, x_ld, x_b2s, x_idxa, x_idxs, x_fld, x_flda, x_boxf, x_boxr, x_bld, x_bslf, x_slc, x_len, x_ext, x_nchk, x_mkf, x_mki, xl_ld, xl_b2s, x_st, x_boxh, x_alloc, x_bslh, x_mks, x_app, exOp_gt, exOp_gf, exOp_gf2, exOp_gs, put_some, put_none, ev_t, ev_c, List.getD_cons_zero, List.getD_cons_succ, List.set_cons_zero, List.set_cons_succ, Option.map_some, Option.map_none, optB_some, if_true, Bool.false_eq_true, if_false, ne_eq, reduceCtorEq, not_false_eq_true, not_true_eq_false, Bool.true_eq_false, len_vis, lenV_fz, lenV_sl, lenV_nils, lenV_str, binV, intB, unV, ld_fp_int, ld_fp_bool, ld_fp_str, ld_fp_fz, ld_fp_vis, ld_fp_sl, ld_fp_nils, ld_fp_ptr, ld_fp_fpp, ld_fp_nilp, ld_bx_int, ld_bx_bool, ld_bx_str, ld_bx_fz, ld_bx_vis, ld_bx_sl, ld_bx_nils, ld_bx_ptr, ld_bx_fpp, ld_bx_nilp, List.length_cons, List.length_nil, beq_self_eq_true, Bool.and_self, Bool.and_true, Bool.true_and]
      refine Run.block ?_
      refine Run.loopc (fun n e h => ∃ (j : Nat) (met' : List Bool) (wait' : List Nat) (g' : Nat) (junk' : List V), j ≤ (rows.getD i []).length ∧ n = (rows.getD i []).length - j ∧ Wl (Ew rows x) rows.length met' wait' (fun a => a = i) ∧ met'.getD i false = true ∧
        wait'.length + 2 * met'.count false ≤ rest.length + 2 * met.count false ∧ wait'.length + met'.count false ≤ rest.length + met.count false ∧ (∀ j' < j, ∀ b : Nat, (rows.getD i []).getD j' 0 = (b : Int) → met'.getD b false = true) ∧
        h = [(0, met'.map V.bool), (g', wait'.map vn ++ junk')] ∧ e = i30e26 (.fz ws) (vi x) (.sl 0 0 0 rows.length 1 false) (.sl 1 g' 0 wait'.length 1 false) (vn i) (vi j))
        _ ⟨0, met, rest, g, vn i :: junk, by omega, rfl, W1, him, by omega, by omega, by intro j' h; omega, by rw [hjunk], (by simp only [clrEnv, List.set_cons_zero, List.set_cons_succ, vi, vis, Int.natCast_zero, Int.natCast_add, Int.natCast_one, i30e26, vn])⟩ ?_
      rintro n e h ⟨j, met', wait', g', junk', hj, rfl, W2, him2, hm1, hm2, hall, rfl, rfl⟩
      simp only [i30e26, vi, vn]
      refine Run.seq (Run.seq ?_)
      refine Run.rgn (RunO.all ?_); simp only [i30r13, exOps_nil, exOps_cons, bindO_some, mapQ_some, mapW_some, x_mov, x_pick, x_bin, x_un, x_cvt, x_ld, x_b2s, x_idxa, x_idxs, x_fld, x_flda, x_boxf, x_boxr, x_bld, x_bslf, x_slc, x_len, x_ext, x_nchk, x_mkf, x_mki, xl_ld, xl_b2s, x_st, x_boxh, x_alloc, x_bslh, x_mks, x_app, exOp_gt, exOp_gf, exOp_gf2, exOp_gs, put_some, put_none, ev_t, ev_c, List.getD_cons_zero, List.getD_cons_succ, List.set_cons_zero, List.set_cons_succ, Option.map_some, Option.map_none, optB_some, if_true, Bool.false_eq_true, if_false, ne_eq, reduceCtorEq, not_false_eq_true, not_true_eq_false, Bool.true_eq_false, len_vis, lenV_fz, lenV_sl, lenV_nils, lenV_str, binV, intB, unV, ld_fp_int, ld_fp_bool, ld_fp_str, ld_fp_fz, ld_fp_vis, ld_fp_sl, ld_fp_nils, ld_fp_ptr, ld_fp_fpp, ld_fp_nilp, ld_bx_int, ld_bx_bool, ld_bx_str, ld_bx_fz, ld_bx_vis, ld_bx_sl, ld_bx_nils, ld_bx_ptr, ld_bx_fpp, ld_bx_nilp, List.length_cons, List.length_nil, beq_self_eq_true, Bool.and_self, Bool.and_true, Bool.true_and, a2, a3, a1.len]
      refine Run.ite (by rfl) (fun hltj => ?_) (fun hgej => ?_)
      · have hltj : j < (rows.getD i []).length := by have := of_decide_eq_true hltj; omega
        obtain ⟨b, e1, hb, hed⟩ := edge hok hin hltj
        have hbl : b < met'.length := by rw [W2.len]; exact hb
        have q2 := intsAt a1 hltj
        rw [e1] at q2
        have q3 : idxaV (.sl 0 0 0 rows.length 1 false) (.int .i64 (b : Int)) 1 false = some (.ptr 0 0 b) := idx_sl hb
        have q4 : ldV [(0, met'.map V.bool), (g', wait'.map vn ++ junk')] (.ptr 0 0 b) none = some (.bool met'[b]) := ld_lst (f := V.bool) (l := met') (junk := []) (by rw [rdB_0, List.append_nil]) (by simp [hbl])
        have eb : met'[b] = met'.getD b false := by simp [List.getD, hbl]
        refine Run.skip (Run.seq (Run.block (Run.seq ?_)))
        refine Run.rgn (RunO.all ?_); simp only [i30r16, exOps_nil, exOps_cons, bindO_some, mapQ_some, mapW_some, x_mov, x_pick, x_bin, x_un, x_cvt, x_ld, x_b2s, x_idxa, x_idxs, x_fld, x_flda, x_boxf, x_boxr, x_bld, x_bslf, x_slc, x_len, x_ext, x_nchk, x_mkf, x_mki, xl_ld, xl_b2s, x_st, x_boxh, x_alloc, x_bslh, x_mks, x_app, exOp_gt, exOp_gf, exOp_gf2, exOp_gs, put_some, put_none, ev_t, ev_c, List.getD_cons_zero, List.getD_cons_succ, List.set_cons_zero, List.set_cons_succ, Option.map_some, Option.map_none, optB_some, if_true, Bool.false_eq_true, if_false, ne_eq, reduceCtorEq, not_false_eq_true, not_true_eq_false, Bool.true_eq_false, len_vis, lenV_fz, lenV_sl, lenV_nils, lenV_str, binV, intB, unV, ld_fp_int, ld_fp_bool, ld_fp_str, ld_fp_fz, ld_fp_vis, ld_fp_sl, ld_fp_nils, ld_fp_ptr, ld_fp_fpp, ld_fp_nilp, ld_bx_int, ld_bx_bool, ld_bx_str, ld_bx_fz, ld_bx_vis, ld_bx_sl, ld_bx_nils, ld_bx_ptr, ld_bx_fpp, ld_bx_nilp, List.length_cons, List.length_nil, beq_self_eq_true, Bool.and_self, Bool.and_true, Bool.true_and, a2, a3, q2, q3, q4]
        have wsucc := wrap_succ (show j ≤ 1048576 by omega)
        refine Run.ite (by rfl) (fun hf => ?_) (fun hf => ?_)
        · have hf : met'.getD b false = false := by rw [← eb]; simpa using hf
          have hcs := cnt_set hbl hf
          refine Run.seqr ?_; simp only [i30r17, exOps_nil, exOps_cons, bindO_some, mapQ_some, mapW_some, x_mov, x_pick, x_bin, x_un, x_cvt, x_ld, x_b2s, x_idxa, x_idxs, x_fld, x_flda, x_boxf, x_boxr, x_bld, x_bslf, x_slc, x_len, x_ext, x_nchk, x_mkf, x_mki, xl_ld, xl_b2s, x_st, x_boxh, x_alloc, x_bslh, x_mks, x_app, exOp_gt, exOp_gf, exOp_gf2, exOp_gs, put_some, put_none, ev_t, ev_c, List.getD_cons_zero, List.getD_cons_succ, List.set_cons_zero, List.set_cons_succ, Option.map_some, Option.map_none, optB_some, if_true, Bool.false_eq_true, if_false, ne_eq, reduceCtorEq, not_false_eq_true, not_true_eq_false, Bool.true_eq_false, len_vis, lenV_fz, lenV_sl, lenV_nils, lenV_str, binV, intB, unV, ld_fp_int, ld_fp_bool, ld_fp_str, ld_fp_fz, ld_fp_vis, ld_fp_sl, ld_fp_nils, ld_fp_ptr, ld_fp_fpp, ld_fp_nilp, ld_bx_int, ld_bx_bool, ld_bx_str, ld_bx_fz, ld_bx_vis, ld_bx_sl, ld_bx_nils, ld_bx_ptr, ld_bx_fpp, ld_bx_nilp, List.length_cons, List.length_nil, beq_self_eq_true, Bool.and_self, Bool.and_true, Bool.true_and, a2, a3, q2, q3, st_lst (f := V.bool) (H := [(0, met'.map V.bool), (g', wait'.map vn ++ junk')]) true (rdB_0 _ _ _) hbl rfl]
          refine Run.rgn (RunO.all ?_); simp only [i30r18, exOps_nil, exOps_cons, bindO_some, mapQ_some, mapW_some, x_mov, x_pick, x_bin, x_un, x_cvt, x_ld, x_b2s, x_idxa, x_idxs, x_fld, x_flda, x_boxf, x_boxr, x_bld, x_bslf, x_slc, x_len, x_ext, x_nchk, x_mkf, x_mki, xl_ld, xl_b2s, x_st, x_boxh, x_alloc, x_bslh, x_mks, x_app, exOp_gt, exOp_gf, exOp_gf2, exOp_gs, put_some, put_none, ev_t, ev_c, List.getD_cons_zero, List.getD_cons_succ, List.set_cons_zero, List.set_cons_succ, Option.map_some, Option.map_none, optB_some, if_true, Bool.false_eq_true, if_false, ne_eq, reduceCtorEq, not_false_eq_true, not_true_eq_false, Bool.true_eq_false, len_vis, lenV_fz, lenV_sl, lenV_nils, lenV_str, binV, intB, unV, ld_fp_int, ld_fp_bool, ld_fp_str, ld_fp_fz, ld_fp_vis, ld_fp_sl, ld_fp_nils, ld_fp_ptr, ld_fp_fpp, ld_fp_nilp, ld_bx_int, ld_bx_bool, ld_bx_str, ld_bx_fz, ld_bx_vis, ld_bx_sl, ld_bx_nils, ld_bx_ptr, ld_bx_fpp, ld_bx_nilp, List.length_cons, List.length_nil, beq_self_eq_true, Bool.and_self, Bool.and_true, Bool.true_and, a2, a3, q2, List.map_cons, List.map_nil, bsl_i64, app_lst (f := vn) (H := [(0, (met'.set b true).map V.bool), (g', wait'.map vn ++ junk')]) (b := 1) (g := g') (l := wait') (junk := junk') (by_ := 8) (x := .int .i64 (b : Int)) b (by rw [rdB_s, rdB_0]) rfl rfl rfl (by omega)]
          refine Run.rgn (RunO.all ?_); simp only [i30r23, exOps_nil, exOps_cons, bindO_some, mapQ_some, mapW_some, x_mov, x_pick, x_bin, x_un, x_cvt, x_ld, x_b2s, x_idxa, x_idxs, x_fld, x_flda, x_boxf, x_boxr, x_bld, x_bslf, x_slc, x_len, x_ext, x_nchk, x_mkf, x_mki, xl_ld, xl_b2s, x_st, x_boxh, x_alloc, x_bslh, x_mks, x_app, exOp_gt, exOp_gf, exOp_gf2, exOp_gs, put_some, put_none, ev_t, ev_c, List.getD_cons_zero, List.getD_cons_succ, List.set_cons_zero, List.set_cons_succ, Option.map_some, Option.map_none, optB_some, if_true, Bool.false_eq_true, if_false, ne_eq, reduceCtorEq, not_false_eq_true, not_true_eq_false, Bool.true_eq_false, len_vis, lenV_fz, lenV_sl, lenV_nils, lenV_str, binV, intB, unV, ld_fp_int, ld_fp_bool, ld_fp_str, ld_fp_fz, ld_fp_vis, ld_fp_sl, ld_fp_nils, ld_fp_ptr, ld_fp_fpp, ld_fp_nilp, ld_bx_int, ld_bx_bool, ld_bx_str, ld_bx_fz, ld_bx_vis, ld_bx_sl, ld_bx_nils, ld_bx_ptr, ld_bx_fpp, ld_bx_nilp, List.length_cons, List.length_nil, beq_self_eq_true, Bool.and_self, Bool.and_true, Bool.true_and, wsucc]
          refine ⟨(rows.getD i []).length - (j + 1), by omega, j + 1, met'.set b true, wait' ++ [b], g' + 1, [], by omega, rfl, W2.push him2 ⟨hed, hx⟩ hb (fun y => by simp), ?_, by simp; omega, by simp; omega, ?_, by simp, (by simp only [clrEnv, List.set_cons_zero, List.set_cons_succ, vi, vis, Int.natCast_zero, Int.natCast_add, Int.natCast_one, i30e26, List.length_append, List.length_cons, List.length_nil, Nat.zero_add, vn])⟩
          · by_cases c : i = b
            · subst c; exact DomMath.getD_set_eq hbl _ _
            · rw [DomMath.getD_set_ne (fun e => c e.symm)]; exact him2
          · intro j' hj' y hy
            by_cases c : y = b
            · subst c; exact DomMath.getD_set_eq hbl _ _
            · rw [DomMath.getD_set_ne (fun e => c e.symm)]
              by_cases cj : j' = j
              · subst cj; rw [e1] at hy; exact absurd (by omega) c
              · exact hall j' (by omega) y hy
        · have hf : met'.getD b false = true := by rw [← eb]; simpa using hf
          refine Run.skip ?_
          refine Run.rgn (RunO.all ?_); simp only [i30r23, exOps_nil, exOps_cons, bindO_some, mapQ_some, mapW_some, x_mov, x_pick, x_bin, x_un, x_cvt, x_ld, x_b2s, x_idxa, x_idxs, x_fld, x_flda, x_boxf, x_boxr, x_bld, x_bslf, x_slc, x_len, x_ext, x_nchk, x_mkf, x_mki, xl_ld, xl_b2s, x_st, x_boxh, x_alloc, x_bslh, x_mks, x_app, exOp_gt, exOp_gf, exOp_gf2, exOp_gs, put_some, put_none, ev_t, ev_c, List.getD_cons_zero, List.getD_cons_succ, List.set_cons_zero, List.set_cons_succ, Option.map_some, Option.map_none, optB_some, if_true, Bool.false_eq_true, if_false, ne_eq, reduceCtorEq, not_false_eq_true, not_true_eq_false, Bool.true_eq_false, len_vis, lenV_fz, lenV_sl, lenV_nils, lenV_str, binV, intB, unV, ld_fp_int, ld_fp_bool, ld_fp_str, ld_fp_fz, ld_fp_vis, ld_fp_sl, ld_fp_nils, ld_fp_ptr, ld_fp_fpp, ld_fp_nilp, ld_bx_int, ld_bx_bool, ld_bx_str, ld_bx_fz, ld_bx_vis, ld_bx_sl, ld_bx_nils, ld_bx_ptr, ld_bx_fpp, ld_bx_nilp, List.length_cons, List.length_nil, beq_self_eq_true, Bool.and_self, Bool.and_true, Bool.true_and, wsucc]
          refine ⟨(rows.getD i []).length - (j + 1), by omega, j + 1, met', wait', g', junk', by omega, rfl, W2, him2, hm1, hm2, ?_, rfl, (by simp only [clrEnv, List.set_cons_zero, List.set_cons_succ, vi, vis, Int.natCast_zero, Int.natCast_add, Int.natCast_one, i30e26, vn])⟩
          intro j' hj' y hy
          by_cases cj : j' = j
          · subst cj; rw [e1] at hy; rw [show y = b by omega]; exact hf
          · exact hall j' (by omega) y hy
      · have hgej : j = (rows.getD i []).length := by have := of_decide_eq_false hgej; omega
        refine Run.exit ?_
        refine ⟨wait'.length + 2 * met'.count false, ?_, met', wait', g', junk', rfl, W2.close ?_, ?_, rfl, (by simp only [clrEnv, List.set_cons_zero, List.set_cons_succ, vi, vis, Int.natCast_zero, Int.natCast_add, Int.natCast_one, i30e34])⟩
        · rw [hl1]; omega
        · intro b hb
          obtain ⟨_, j', hj', e⟩ := edge_at hb.1
          exact hall j' (by omega) b e
        · rw [hl1] at hwl; omega
  · have hge : wait.length = 0 := by have := of_decide_eq_false hge; omega
    refine Run.exit ?_
    show Run T _ _ _ _
    refine Run.seqr ?_; simp only [i30r36, exOps_nil, exOps_cons, bindO_some, mapQ_some, mapW_some, x_mov, x_pick, x_bin, x_un, x_cvt, x_ld, x_b2s, x_idxa, x_idxs, x_fld, x_flda, x_boxf, x_boxr, x_bld, x_bslf, x_slc, x_len, x_ext, x_nchk, x_mkf, x_mki, xl_ld, xl_b2s, x_st, x_boxh, x_alloc, x_bslh, x_mks, x_app, exOp_gt, exOp_gf, exOp_gf2, exOp_gs, put_some, put_none, ev_t, ev_c, List.getD_cons_zero, List.getD_cons_succ, List.set_cons_zero, List.set_cons_succ, Option.map_some, Option.map_none, optB_some, if_true, Bool.false_eq_true, if_false, ne_eq, reduceCtorEq, not_false_eq_true, not_true_eq_false, Bool.true_eq_false, len_vis, lenV_fz, lenV_sl, lenV_nils, lenV_str, binV, intB, unV, ld_fp_int, ld_fp_bool, ld_fp_str, ld_fp_fz, ld_fp_vis, ld_fp_sl, ld_fp_nils, ld_fp_ptr, ld_fp_fpp, ld_fp_nilp, ld_bx_int, ld_bx_bool, ld_bx_str, ld_bx_fz, ld_bx_vis, ld_bx_sl, ld_bx_nils, ld_bx_ptr, ld_bx_fpp, ld_bx_nilp, List.length_cons, List.length_nil, beq_self_eq_true, Bool.and_self, Bool.and_true, Bool.true_and]
    refine Run.ret ?_
    have hw0 := List.eq_nil_of_length_eq_zero hge
    subst hw0
    refine ⟨met, ?_, W.len, fun b => W.done b⟩
    have := deep_lst (f := V.bool) (strict := false) (H := [(0, met.map V.bool), (g, [].map vn ++ junk)]) (c := 0) (g := 0) (r := met) (fun _ _ => rfl) (fun _ => rfl) (rdB_0 _ _ _)
    rw [W.len] at this
    exact this
end Go.Eng.Dom
