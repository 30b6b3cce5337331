/- Functions of this seat, run on unknown values by the rules of the small machine (no condition beyond those stated). -/
import Derived.Test.YthobdkimccepbaaDomI
namespace Go.Eng.Dom
open Go Go.Eng DomMath
set_option linter.unusedVariables false
set_option linter.unusedSimpArgs false

def rkc (n : Nat) (left : List Nat) : List V := (List.range n).map fun i => vn (rkF left i)
theorem rkF_new {left : List Nat} {i : Nat} (h : i ∉ left) : rkF (left ++ [i]) i = left.length + 1 := by
  rw [rkF, if_pos (by simp), List.idxOf_append, if_neg h]; simp
theorem rkF_old {left : List Nat} {i j : Nat} (h : j ≠ i) : rkF (left ++ [i]) j = rkF left j := by
  unfold rkF
  by_cases hj : j ∈ left
  · rw [if_pos hj, if_pos (List.mem_append_left _ hj), List.idxOf_append, if_pos hj]
  · rw [if_neg hj, if_neg (by simp [hj, h])]
theorem rkc_set {n : Nat} {left : List Nat} {i : Nat} (h : i ∉ left) : (rkc n left).set i (vn (left.length + 1)) = rkc n (left ++ [i]) := by
  unfold rkc
  refine List.ext_getElem (by simp) fun k h1 h2 => ?_
  rw [List.getElem_set]
  split
  · rename_i c; subst c; simp [rkF_new h]
  · rename_i c; simp [rkF_old (fun e => c e.symm : k ≠ i)]
def LeftOk (left : List Nat) (lv : V) (tl : Heap) : Prop := (left = [] ∧ lv = .nils ∧ tl = []) ∨ ∃ g, lv = .sl 4 g 0 left.length 1 false ∧ tl = [(g, left.map vn)]
def hp (n : Nat) (nextV : V) (left : List Nat) (lv : V) (met : List Bool) (w : Nat × List V) (tl : Heap) : Heap :=
  (0, rkc n left) :: (0, [nextV, .sl 0 0 0 n 1 false, lv]) :: (0, met.map V.bool) :: w :: tl

theorem leave {n : Nat} {nextV lv : V} {left : List Nat} {met : List Bool} {w : Nat × List V} {tl : Heap} {i : Nat} (L : LeftOk left lv tl) (hn : n ≤ 1048576) (hl : left.length ≤ n) (hi : i < n) (hil : i ∉ left) :
    Fn T 28 [vi i, .bx (.ptr 1 0 0)] (hp n nextV left lv met w tl) (fun r h => ∃ lv' tl', LeftOk (left ++ [i]) lv' tl' ∧ h = hp n nextV (left ++ [i]) lv' met w tl') := by
  have hlv : lv.isCell = true := by rcases L with ⟨_, rfl, _⟩ | ⟨g, rfl, _⟩ <;> rfl
  have key : ∃ lv' tl', appV (hp n nextV left lv met w tl) lv (.fz [.int .i64 (i : Int)]) 1 false 8 = some (lv', hp n nextV left lv met w tl') ∧ LeftOk (left ++ [i]) lv' tl' ∧ lv'.isCell = true ∧ lenV false lv' = some (.int .i64 ((left.length + 1 : Nat) : Int)) := by
    rcases L with ⟨rfl, rfl, rfl⟩ | ⟨g, rfl, rfl⟩
    · exact ⟨_, _, app_new rfl rfl (by omega), .inr ⟨0, rfl, rfl⟩, rfl, rfl⟩
    · refine ⟨_, [(g + 1, (left ++ [i]).map vn)], app_lst (f := vn) (l := left) (junk := []) (b := 4) (g := g) (x := .int .i64 (i : Int)) i (by unfold hp; rw [rdB_s, rdB_s, rdB_s, rdB_s, rdB_0, List.append_nil]) rfl rfl rfl (by omega), .inr ⟨g + 1, by simp, rfl⟩, rfl, rfl⟩
  obtain ⟨lv', tl', k1, k2, k3, k4⟩ := key
  have s1 : ldV (hp n nextV left lv met w tl) (.ptr 1 0 2) none = some lv := ld_at (by unfold hp; rw [rdB_s, rdB_0]) rfl
  have s2 : stV (hp n nextV left lv met w tl') (.ptr 1 0 2) lv' none = some (hp n nextV left lv' met w tl') := by
    rw [st_at (by unfold hp; rw [rdB_s, rdB_0]) (by simp) k3]; rfl
  have s3 : ldV (hp n nextV left lv' met w tl') (.ptr 1 0 1) none = some (.sl 0 0 0 n 1 false) := ld_at (by unfold hp; rw [rdB_s, rdB_0]) rfl
  have s4 : ldV (hp n nextV left lv' met w tl') (.ptr 1 0 2) none = some lv' := ld_at (by unfold hp; rw [rdB_s, rdB_0]) rfl
  have s5 : idxaV (.sl 0 0 0 n 1 false) (.int .i64 (i : Int)) 1 false = some (.ptr 0 0 i) := idx_sl hi
  have s6 : stV (hp n nextV left lv' met w tl') (.ptr 0 0 i) (.int .i64 ((left.length + 1 : Nat) : Int)) none = some (hp n nextV (left ++ [i]) lv' met w tl') := by
    rw [st_at (cs := rkc n left) (by unfold hp; rw [rdB_0]) (by simpa [rkc] using hi) rfl]
    show some ((0, (rkc n left).set i (vn (left.length + 1))) :: _) = _
    rw [rkc_set hil]; rfl
  refine Fn.enter t28 ?_; simp only [i28, List.length_cons, List.length_nil, Nat.reduceAdd, Nat.reduceSub, List.replicate_succ, List.replicate_zero, List.cons_append, List.nil_append]
  simp only [vi]
  refine Run.seqr ?_; simp only [i28r0, exOps_nil, exOps_cons, bindO_some, mapQ_some, mapW_some, x_mov, x_pick, x_bin, x_un, x_cvt, x_ld, x_b2s, x_idxa, x_idxs, x_fld, x_flda, x_boxf, x_boxr, x_bld, x_bslf, x_slc, x_len, x_ext, x_nchk, x_mkf, x_mki, xl_ld, xl_b2s, x_st, x_boxh, x_alloc, x_bslh, x_mks, x_app, exOp_gt, exOp_gf, exOp_gf2, exOp_gs, put_some, put_none, ev_t, ev_c, List.getD_cons_zero, List.getD_cons_succ, List.set_cons_zero, List.set_cons_succ, Option.map_some, Option.map_none, optB_some, if_true, Bool.false_eq_true, if_false, ne_eq, reduceCtorEq, not_false_eq_true, not_true_eq_false, Bool.true_eq_false, len_vis, lenV_fz, lenV_sl, lenV_nils, lenV_str, binV, intB, unV, ld_fp_int, ld_fp_bool, ld_fp_str, ld_fp_fz, ld_fp_vis, ld_fp_sl, ld_fp_nils, ld_fp_ptr, ld_fp_fpp, ld_fp_nilp, ld_bx_int, ld_bx_bool, ld_bx_str, ld_bx_fz, ld_bx_vis, ld_bx_sl, ld_bx_nils, ld_bx_ptr, ld_bx_fpp, ld_bx_nilp, List.length_cons, List.length_nil, beq_self_eq_true, Bool.and_self, Bool.and_true, Bool.true_and, nchk_ptr, flda_ptr, Nat.zero_add, s1, List.map_cons, List.map_nil, bsl_i64, k1, s2]
  refine Run.rgn (RunO.all ?_); simp only [i28r1, exOps_nil, exOps_cons, bindO_some, mapQ_some, mapW_some, x_mov, x_pick, x_bin, x_un, x_cvt, x_ld, x_b2s, x_idxa, x_idxs, x_fld, x_flda, x_boxf, x_boxr, x_bld, x_bslf, x_slc, x_len, x_ext, x_nchk, x_mkf, x_mki, xl_ld, xl_b2s, x_st, x_boxh, x_alloc, x_bslh, x_mks, x_app, exOp_gt, exOp_gf, exOp_gf2, exOp_gs, put_some, put_none, ev_t, ev_c, List.getD_cons_zero, List.getD_cons_succ, List.set_cons_zero, List.set_cons_succ, Option.map_some, Option.map_none, optB_some, if_true, Bool.false_eq_true, if_false, ne_eq, reduceCtorEq, not_false_eq_true, not_true_eq_false, Bool.true_eq_false, len_vis, lenV_fz, lenV_sl, lenV_nils, lenV_str, binV, intB, unV, ld_fp_int, ld_fp_bool, ld_fp_str, ld_fp_fz, ld_fp_vis, ld_fp_sl, ld_fp_nils, ld_fp_ptr, ld_fp_fpp, ld_fp_nilp, ld_bx_int, ld_bx_bool, ld_bx_str, ld_bx_fz, ld_bx_vis, ld_bx_sl, ld_bx_nils, ld_bx_ptr, ld_bx_fpp, ld_bx_nilp, List.length_cons, List.length_nil, beq_self_eq_true, Bool.and_self, Bool.and_true, Bool.true_and, nchk_ptr, flda_ptr, Nat.zero_add, s3, s4, k4, s5, s6]
  exact ⟨lv', tl', k2, rfl⟩

/-- a walk under way -/
structure Wk (rows : List (List Int)) (left : List Nat) (wait : List (Nat × Nat)) (met : List Bool) : Prop where
  len : met.length = rows.length
  mt : ∀ b, met.getD b false = true ↔ b ∈ left ∨ b ∈ wait.map (·.1)
  nd : (left ++ wait.map (·.1)).Nodup
  lt : ∀ b, met.getD b false = true → b < rows.length
  rb : ∀ b, met.getD b false = true → RB (Ed rows) b
  cl : ∀ a ∈ left, ∀ b, Ed rows a b → met.getD b false = true
  ck : ∀ p ∈ wait, p.2 ≤ (rows.getD p.1 []).length ∧ ∀ j, j < p.2 → ∀ b : Nat, (rows.getD p.1 []).getD j 0 = (b : Int) → met.getD b false = true
  bot : (∃ l, wait.map (·.1) = 0 :: l) ∨ (wait = [] ∧ ∃ l, left = l ++ [0])
  st : ∀ (j p q : Nat), (wait.map (·.1))[j]? = some p → (wait.map (·.1))[j + 1]? = some q → Ed rows p q
  pr : ∀ k v : Nat, left[k]? = some v → v ≠ 0 → (∃ j p, k < j ∧ left[j]? = some p ∧ Ed rows p v) ∨ ∃ p ∈ wait.map (·.1), Ed rows p v
section
variable {rows : List (List Int)} {left : List Nat} {met : List Bool} {rest : List (Nat × Nat)} {a k b : Nat}
theorem met_set (hb : b < met.length) (x : Nat) : (met.set b true).getD x false = true ↔ met.getD x false = true ∨ x = b := by
  by_cases c : x = b
  · subst c; rw [DomMath.getD_set_eq hb]; simp
  · rw [DomMath.getD_set_ne (fun e => c e.symm)]; simp [c]
theorem Wk.bump (W : Wk rows left (rest ++ [(a, k)]) met) (hk : k < (rows.getD a []).length) (e : (rows.getD a []).getD k 0 = (b : Int)) (hm : met.getD b false = true) : Wk rows left (rest ++ [(a, k + 1)]) met := by
  have em : (rest ++ [(a, k + 1)]).map (·.1) = (rest ++ [(a, k)]).map (·.1) := by simp
  refine ⟨W.len, by rw [em]; exact W.mt, by rw [em]; exact W.nd, W.lt, W.rb, W.cl, ?_, ?_, by rw [em]; exact W.st, by rw [em]; exact W.pr⟩
  · intro p hp
    rcases List.mem_append.1 hp with h | h
    · exact W.ck p (List.mem_append_left _ h)
    · rw [List.mem_singleton.1 h]
      obtain ⟨h1, h2⟩ := W.ck (a, k) (by simp)
      refine ⟨hk, fun j hj y hy => ?_⟩
      by_cases c : j = k
      · subst c
        have hy' : ((rows.getD a []).getD j 0) = (y : Int) := hy
        rw [e] at hy'
        rw [show y = b by omega]; exact hm
      · exact h2 j (by show j < k; have : j < k + 1 := hj; omega) y hy
  · rcases W.bot with ⟨l, h⟩ | ⟨h, _⟩
    · exact .inl ⟨l, by rw [em]; exact h⟩
    · simp at h
theorem Wk.push (W : Wk rows left (rest ++ [(a, k)]) met) (hk : k < (rows.getD a []).length) (e : (rows.getD a []).getD k 0 = (b : Int)) (hb : b < rows.length) (hm : met.getD b false = false) : Wk rows left (rest ++ [(a, k + 1)] ++ [(b, 0)]) (met.set b true) := by
  have hbl : b < met.length := by rw [W.len]; exact hb
  have ms := met_set hbl
  have hed : Ed rows a b := by unfold Ed; rw [← e, getD_nat hk]; exact List.getElem_mem hk
  have em : (rest ++ [(a, k + 1)] ++ [(b, 0)]).map (fun p : Nat × Nat => p.1) = (rest ++ [(a, k)]).map (·.1) ++ [b] := by simp
  have hnot : b ∉ left ++ (rest ++ [(a, k)]).map (·.1) := by
    intro h
    have := (W.mt b).2 (List.mem_append.1 h)
    rw [hm] at this; cases this
  have ham : met.getD a false = true := (W.mt a).2 (.inr (by simp))
  refine ⟨by rw [List.length_set, W.len], ?_, ?_, ?_, ?_, ?_, ?_, ?_, ?_, ?_⟩
  · intro x
    rw [ms x, W.mt x, em, List.mem_append, List.mem_singleton, or_assoc]
  · rw [em, ← List.append_assoc]
    refine List.nodup_append.2 ⟨W.nd, by simp, ?_⟩
    intro x hx y hy
    rw [List.mem_singleton.1 hy]
    rintro rfl; exact hnot hx
  · intro x hx
    rcases (ms x).1 hx with h | h
    · exact W.lt x h
    · rw [h]; exact hb
  · intro x hx
    rcases (ms x).1 hx with h | h
    · exact W.rb x h
    · rw [h]; exact (W.rb a ham).step hed
  · intro x hx y hy; exact (ms y).2 (.inl (W.cl x hx y hy))
  · intro p hp
    rcases List.mem_append.1 hp with h | h
    · rcases List.mem_append.1 h with h | h
      · obtain ⟨h1, h2⟩ := W.ck p (List.mem_append_left _ h)
        exact ⟨h1, fun j hj y hy => (ms y).2 (.inl (h2 j hj y hy))⟩
      · rw [List.mem_singleton.1 h]
        obtain ⟨h1, h2⟩ := W.ck (a, k) (by simp)
        refine ⟨hk, fun j hj y hy => ?_⟩
        by_cases c : j = k
        · subst c
          have hy' : ((rows.getD a []).getD j 0) = (y : Int) := hy
          rw [e] at hy'
          exact (ms y).2 (.inr (by omega))
        · exact (ms y).2 (.inl (h2 j (by show j < k; have : j < k + 1 := hj; omega) y hy))
    · rw [List.mem_singleton.1 h]
      exact ⟨Nat.zero_le _, fun j hj => absurd hj (Nat.not_lt_zero _)⟩
  · rcases W.bot with ⟨l, h⟩ | ⟨h, _⟩
    · exact .inl ⟨l ++ [b], by rw [em, h]; rfl⟩
    · simp at h
  · intro j p q hp hq
    rw [em] at hp hq
    by_cases c : j + 1 < ((rest ++ [(a, k)]).map (·.1)).length
    · rw [List.getElem?_append_left (by omega)] at hp
      rw [List.getElem?_append_left c] at hq
      exact W.st j p q hp hq
    · have hl : ((rest ++ [(a, k)]).map (·.1)).length = rest.length + 1 := by simp
      rw [hl] at c
      rw [List.getElem?_append_right (by rw [hl]; omega), hl] at hq
      have hj : j = rest.length := by
        false_or_by_contra
        rename_i hne
        rw [List.getElem?_eq_none (by simp only [List.length_singleton]; omega)] at hq; cases hq
      subst hj
      rw [List.getElem?_append_left (by rw [hl]; omega)] at hp
      simp at hp hq
      rw [← hp, ← hq]; exact hed
  · intro i v hv h0
    rcases W.pr i v hv h0 with h | ⟨p, hp, h⟩
    · exact .inl h
    · exact .inr ⟨p, by rw [em]; exact List.mem_append_left _ hp, h⟩
theorem Wk.leave (W : Wk rows left (rest ++ [(a, k)]) met) (hk : k = (rows.getD a []).length) : Wk rows (left ++ [a]) rest met := by
  have em : (rest ++ [(a, k)]).map (·.1) = rest.map (·.1) ++ [a] := by simp
  have hbot : (∃ l, rest.map (·.1) = 0 :: l) ∨ (rest = [] ∧ a = 0) := by
    rcases W.bot with ⟨l, h⟩ | ⟨h, _⟩
    · rw [em] at h
      cases rest with
      | nil => simp at h; exact .inr ⟨rfl, h.1⟩
      | cons x r => simp at h; exact .inl ⟨r.map (·.1), by simp [h.1]⟩
    · simp at h
  refine ⟨W.len, ?_, ?_, W.lt, W.rb, ?_, fun p hp => W.ck p (List.mem_append_left _ hp), ?_, ?_, ?_⟩
  · intro x
    rw [W.mt x, em, List.mem_append, List.mem_append]
    constructor
    · rintro (h | h | h)
      · exact .inl (.inl h)
      · exact .inr h
      · exact .inl (.inr h)
    · rintro ((h | h) | h)
      · exact .inl h
      · exact .inr (.inr h)
      · exact .inr (.inl h)
  · have h := W.nd
    rw [em] at h
    have hp : (left ++ (rest.map (·.1) ++ [a])).Perm (left ++ [a] ++ rest.map (·.1)) := by
      rw [List.append_assoc]; exact List.Perm.append_left _ List.perm_append_comm
    exact hp.nodup_iff.1 h
  · intro x hx y hy
    rcases List.mem_append.1 hx with h | h
    · exact W.cl x h y hy
    · rw [List.mem_singleton.1 h] at hy
      obtain ⟨_, j, hj, e⟩ := edge_at hy
      exact (W.ck (a, k) (by simp)).2 j (by show j < k; omega) y e
  · rcases hbot with h | ⟨rfl, rfl⟩
    · exact .inl h
    · exact .inr ⟨rfl, left, rfl⟩
  · intro j p q hp hq
    have hl : j + 1 < (rest.map (·.1)).length := (List.getElem?_eq_some_iff.mp hq).1
    refine W.st j p q ?_ ?_
    · rw [em, List.getElem?_append_left (by omega)]; exact hp
    · rw [em, List.getElem?_append_left hl]; exact hq
  · intro i v hv h0
    by_cases c : i < left.length
    · rw [List.getElem?_append_left c] at hv
      rcases W.pr i v hv h0 with ⟨j, p, h1, h2, h3⟩ | ⟨p, hp, h⟩
      · exact .inl ⟨j, p, h1, by rw [List.getElem?_append_left (List.getElem?_eq_some_iff.mp h2).1]; exact h2, h3⟩
      · rw [em] at hp
        rcases List.mem_append.1 hp with hp | hp
        · exact .inr ⟨p, hp, h⟩
        · rw [List.mem_singleton.1 hp] at h
          exact .inl ⟨left.length, a, c, by simp, h⟩
    · have hil : i = left.length := by
        have := (List.getElem?_eq_some_iff.mp hv).1
        simp at this; omega
      subst hil
      simp at hv
      subst hv
      right
      rcases hbot with ⟨l, h⟩ | ⟨_, h⟩
      · have hne : 0 < (rest.map (·.1)).length := by rw [h]; simp
        obtain ⟨r, x, hx⟩ := snoc_of hne
        refine ⟨x, by rw [hx]; simp, W.st r.length x a ?_ ?_⟩
        · rw [em, hx]; simp
        · rw [em, hx]; simp
      · exact absurd h h0
theorem Wk.start (hn : 0 < rows.length) : Wk rows [] [(0, 0)] ((List.replicate rows.length false).set 0 true) := by
  have h : ∀ b, ((List.replicate rows.length false).set 0 true).getD b false = true ↔ b = 0 := by
    intro b
    rw [met_set (by simpa using hn)]
    have : (List.replicate rows.length false).getD b false = false := by
      simp only [List.getD]
      rw [List.getElem?_replicate]; split <;> rfl
    rw [this]; simp
  refine ⟨by simp, fun b => by rw [h b]; simp, by simp, fun b hb => by rw [(h b).1 hb]; exact hn, fun b hb => by rw [(h b).1 hb]; exact .zero, by simp, ?_, .inl ⟨[], rfl⟩, ?_, by simp⟩
  · intro p hp
    rw [List.mem_singleton.1 hp]
    exact ⟨Nat.zero_le _, fun j hj => absurd hj (Nat.not_lt_zero _)⟩
  · intro j p q _ hq
    simp at hq
theorem Wk.done (W : Wk rows left [] met) : WalkOf rows left := by
  have hm : ∀ b, met.getD b false = true ↔ b ∈ left := fun b => by rw [W.mt b]; simp
  have h0 : 0 ∈ left ∧ ∃ l, left = l ++ [0] := by
    rcases W.bot with ⟨l, h⟩ | ⟨_, l, h⟩
    · simp at h
    · exact ⟨by rw [h]; simp, l, h⟩
  refine ⟨by have := W.nd; simpa using this, fun i => ⟨fun h => W.rb i ((hm i).2 h), fun h => ?_⟩, fun i h => W.lt i ((hm i).2 h), ?_, ?_⟩
  · obtain ⟨l, hl⟩ := h
    induction hl with
    | nil => exact h0.1
    | step _ e ih => exact (hm _).1 (W.cl _ ih _ e)
  · obtain ⟨_, l, h⟩ := h0
    exact ⟨l.length, by rw [h]; simp, by rw [h]; simp⟩
  · intro i v hv hv0
    rcases W.pr i v hv hv0 with h | ⟨p, hp, _⟩
    · exact h
    · simp at hp
end
end Go.Eng.Dom
