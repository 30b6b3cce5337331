/- The statement of DomNumbers in the small machine (it has no arguments). -/
import Derived.Test.YthobdkimccepbaaDomTreesL
import Derived.Test.YthobdkimccepbaaDomOversL
import Derived.Test.YthobdkimccepbaaDomLong
import Derived.Test.YthobdkimccepbaaEngW
namespace Go.Eng.Dom
open Go Go.Eng DomMath
set_option linter.unusedVariables false
set_option linter.unusedSimpArgs false
set_option maxHeartbeats 4000000
set_option maxRecDepth 20000

/- ### rows in a heap, as they grow -/
/-- a row that is nil, or lies at 'lo' or above -/
def RowLo (h : Heap) (lo : Nat) (v : V) (r : List Int) : Prop := (v = .nils ∧ r = []) ∨ ∃ c g, v = .sl c g 0 r.length 1 false ∧ h[c]? = some (g, r.map vi) ∧ lo ≤ c
theorem RowLo.app {h : Heap} {lo : Nat} {v : V} {r : List Int} (R : RowLo h lo v r) (hlo : lo ≤ h.length) (hl : r.length ≤ 1000) (x : Int) :
    ∃ v' h', appV h v (.fz [.int .i64 x]) 1 false 8 = some (v', h') ∧ RowLo h' lo v' (r ++ [x]) ∧ h.length ≤ h'.length ∧ ∀ c, c < lo → h'[c]? = h[c]? := by
  rcases R with ⟨rfl, rfl⟩ | ⟨c, g, rfl, hc, hcl⟩
  · refine ⟨_, _, app_nils h x, .inr ⟨h.length, 0, rfl, by simp, hlo⟩, by simp, fun c hc => ?_⟩
    rw [List.getElem?_append_left (by omega)]
  · have hcl' : c < h.length := (List.getElem?_eq_some_iff.mp hc).1
    refine ⟨_, _, app_own hc (by omega) x, .inr ⟨c, g + 1, by simp, by rw [List.getElem?_set_self hcl'], hcl⟩, by simp, fun d hd => ?_⟩
    rw [List.getElem?_set_ne (by omega)]
/-- a row, but not at 'c' -/
def RowAt (h : Heap) (c : Nat) (w : V) (r : List Int) : Prop := (w = .nils ∧ r = []) ∨ ∃ c' g', c' ≠ c ∧ w = .sl c' g' 0 r.length 1 false ∧ h[c']? = some (g', r.map vi)
/-- rows -/
def RowsIn (h : Heap) (v : V) (rows : List (List Int)) : Prop := (v = .nils ∧ rows = []) ∨ ∃ c g vs, v = .sl c g 0 rows.length 1 false ∧ h[c]? = some (g, vs) ∧ vs.length = rows.length ∧
  ∀ (k : Nat) (r : List Int), rows[k]? = some r → ∃ w, vs[k]? = some w ∧ RowAt h c w r
theorem RowAt.frame {h h' : Heap} {c : Nat} {w : V} {r : List Int} (R : RowAt h c w r) (hf : ∀ d, d < h.length → h'[d]? = h[d]?) : RowAt h' c w r := by
  rcases R with ⟨rfl, rfl⟩ | ⟨c', g', h1, rfl, h2⟩
  · exact .inl ⟨rfl, rfl⟩
  · exact .inr ⟨c', g', h1, rfl, by rw [hf c' (List.getElem?_eq_some_iff.mp h2).1]; exact h2⟩
theorem RowsIn.frame {h h' : Heap} {v : V} {rows : List (List Int)} (R : RowsIn h v rows) (hf : ∀ d, d < h.length → h'[d]? = h[d]?) : RowsIn h' v rows := by
  rcases R with ⟨rfl, rfl⟩ | ⟨c, g, vs, rfl, h1, h2, h3⟩
  · exact .inl ⟨rfl, rfl⟩
  · refine .inr ⟨c, g, vs, rfl, by rw [hf c (List.getElem?_eq_some_iff.mp h1).1]; exact h1, h2, fun k r hk => ?_⟩
    obtain ⟨w, a, b⟩ := h3 k r hk
    exact ⟨w, a, b.frame hf⟩
theorem isCell_row {h : Heap} {lo : Nat} {v : V} {r : List Int} (R : RowLo h lo v r) : v.isCell = true ∧ v.cells = [v] ∧ okEl 1 false v = true := by
  rcases R with ⟨rfl, rfl⟩ | ⟨c, g, rfl, _, _⟩ <;> exact ⟨rfl, rfl, rfl⟩
/-- a row more; it is handed over in a new buffer of one -/
theorem RowsIn.app {h : Heap} {v : V} {rows : List (List Int)} (R : RowsIn h v rows) {h1 : Heap} (hf : ∀ d, d < h.length → h1[d]? = h[d]?) (hle : h.length ≤ h1.length) {w : V} {r : List Int} (Rw : RowLo h1 h.length w r) (hl : rows.length ≤ 100) :
    ∃ v' h', appV (h1 ++ [(0, [w])]) v (.sl h1.length 0 0 1 1 false) 1 false 24 = some (v', h') ∧ RowsIn h' v' (rows ++ [r]) := by
  obtain ⟨w1, w2, _⟩ := isCell_row Rw
  have hn : newCells (h1 ++ [(0, [w])]) (.sl h1.length 0 0 1 1 false) 1 = some ([w], 1) := by
    simp [newCells, rdB]
  have rowAt : ∀ (c : Nat) (h' : Heap), c < h.length ∨ h1.length ≤ c → (∀ d, d < h1.length → d ≠ c → h'[d]? = h1[d]?) → RowAt h' c w r := by
    intro c h' hc hh
    rcases Rw with ⟨rfl, rfl⟩ | ⟨c', g', rfl, h3, h4⟩
    · exact .inl ⟨rfl, rfl⟩
    · have hlt := (List.getElem?_eq_some_iff.mp h3).1
      exact .inr ⟨c', g', by omega, rfl, by rw [hh c' hlt (by omega)]; exact h3⟩
  rcases R with ⟨rfl, rfl⟩ | ⟨c, g, vs, rfl, hc, hvl, hr⟩
  · refine ⟨.sl (h1.length + 1) 0 0 1 1 false, (h1 ++ [(0, [w])]) ++ [(0, [w])], ?_, .inr ⟨h1.length + 1, 0, [w], rfl, by simp, rfl, ?_⟩⟩
    · simp [appV, hn, w1]
    · intro k r' hk
      cases k with
      | succ k => simp at hk
      | zero =>
        simp at hk; subst hk
        refine ⟨w, rfl, rowAt _ _ (.inr (by omega)) fun d hd _ => ?_⟩
        rw [List.append_assoc, List.getElem?_append_left hd]
  · have hcl : c < h.length := (List.getElem?_eq_some_iff.mp hc).1
    have hc1 : h1[c]? = some (g, vs) := by rw [hf c hcl]; exact hc
    have hc2 : (h1 ++ [(0, [w])])[c]? = some (g, vs) := by rw [List.getElem?_append_left (by omega)]; exact hc1
    refine ⟨.sl c (g + 1) 0 (rows.length + 1) 1 false, (h1 ++ [(0, [w])]).set c (g + 1, vs ++ [w]), ?_, .inr ⟨c, g + 1, vs ++ [w], by simp, by rw [List.getElem?_set_self (by simp; omega)], by simp [hvl], ?_⟩⟩
    · have hb : (rows.length + 1) * 24 ≤ 140737488355328 := by omega
      simp [appV, hn, w1, rdB_of hc2, hvl, hb]
      rw [List.take_of_length_le (by omega)]
    · intro k r' hk
      have hset : ∀ d, d < h1.length → d ≠ c → ((h1 ++ [(0, [w])]).set c (g + 1, vs ++ [w]))[d]? = h1[d]? := by
        intro d hd hdc
        rw [List.getElem?_set_ne (Ne.symm hdc), List.getElem?_append_left hd]
      by_cases hkl : k < rows.length
      · rw [List.getElem?_append_left hkl] at hk
        obtain ⟨w', a, b⟩ := hr k r' hk
        refine ⟨w', by rw [List.getElem?_append_left (by omega)]; exact a, ?_⟩
        rcases b with ⟨rfl, rfl⟩ | ⟨c', g', b1, rfl, b2⟩
        · exact .inl ⟨rfl, rfl⟩
        · have hlt := (List.getElem?_eq_some_iff.mp b2).1
          exact .inr ⟨c', g', b1, rfl, by rw [hset c' (by omega) b1, hf c' hlt]; exact b2⟩
      · have hke : k = rows.length := by
          have := (List.getElem?_eq_some_iff.mp hk).1
          simp at this; omega
        subst hke
        rw [List.getElem?_append_right (by omega), Nat.sub_self] at hk
        simp at hk; subst hk
        refine ⟨w, by rw [List.getElem?_append_right (by omega), hvl, Nat.sub_self]; rfl, rowAt c _ (.inl hcl) hset⟩
theorem RowsIn.deep {h : Heap} {v : V} {rows : List (List Int)} (R : RowsIn h v rows) (hne : 0 < rows.length) : ∃ ws, Go.Eng.deep false h deepN v = some (.fz ws) ∧ IsRows ws rows ∧ V.free deepN v = false := by
  rcases R with ⟨rfl, rfl⟩ | ⟨c, g, vs, rfl, hc, hvl, hr⟩
  · simp at hne
  have one : ∀ (k : Nat) (w : V), vs[k]? = some w → ∃ u, (Go.Eng.deep false h 39 w).bind (fun u => if u.isAg then none else some u) = some u ∧ ∀ r, rows[k]? = some r → IsInts u r := by
    intro k w hw
    have hkl : k < rows.length := by rw [← hvl]; exact (List.getElem?_eq_some_iff.mp hw).1
    obtain ⟨w', a, b⟩ := hr k _ (List.getElem?_eq_getElem hkl)
    rw [hw] at a; cases a
    rcases b with ⟨rfl, hrr⟩ | ⟨c', g', _, rfl, b2⟩
    · exact ⟨.nils, rfl, fun r h => .inr ⟨by rw [List.getElem?_eq_getElem hkl] at h; cases h; exact hrr, rfl⟩⟩
    · exact ⟨vis rows[k], by rw [deep_ints (n := 37) b2]; rfl, fun r h => .inl (by rw [List.getElem?_eq_getElem hkl] at h; cases h; rfl)⟩
  have build : ∀ (l : List V), (∀ (k : Nat) (w : V), l[k]? = some w → ∃ u, (Go.Eng.deep false h 39 w).bind (fun u => if u.isAg then none else some u) = some u) →
      ∃ ws, omap (drow (Go.Eng.deep false h 39) false) (l.map fun w => [w]) = some ws ∧ ws.length = l.length ∧ ∀ (k : Nat) (w : V), l[k]? = some w → ∃ u, ws[k]? = some u ∧ (Go.Eng.deep false h 39 w).bind (fun u => if u.isAg then none else some u) = some u := by
    intro l
    induction l with
    | nil => intro _; exact ⟨[], rfl, rfl, fun k v h => by simp at h⟩
    | cons v l ih =>
      intro hh
      obtain ⟨u, hu⟩ := hh 0 v (by simp)
      obtain ⟨ws, h1, h2, h3⟩ := ih (fun k w hw => hh (k + 1) w (by simpa using hw))
      refine ⟨u :: ws, ?_, by simp [h2], fun k w hw => ?_⟩
      · simp only [List.map_cons, omap, h1, drow_one, hu]
      · cases k with
        | zero => simp at hw; subst hw; exact ⟨u, by simp, hu⟩
        | succ k => simpa using h3 k w (by simpa using hw)
  obtain ⟨ws, h1, h2, h3⟩ := build vs (fun k w hw => by obtain ⟨u, hu, _⟩ := one k w hw; exact ⟨u, hu⟩)
  refine ⟨ws, ?_, ⟨by rw [h2, hvl], fun k r hk => ?_⟩, rfl⟩
  · show Go.Eng.deep false h (39 + 1) (.sl c g 0 rows.length 1 false) = some (.fz ws)
    rw [deep_sl, rdB_of hc, Option.bind_some, if_pos (by simp [hvl]), List.drop_zero, rows_one rows.length vs hvl, h1]; rfl
  · have hkl : k < vs.length := by rw [hvl]; exact (List.getElem?_eq_some_iff.mp hk).1
    obtain ⟨u, hu, he⟩ := h3 k _ (List.getElem?_eq_getElem hkl)
    obtain ⟨u', he', hi⟩ := one k _ (List.getElem?_eq_getElem hkl)
    rw [he] at he'; cases he'
    exact ⟨u, hu, hi r hk⟩
/-- a pure call of what lies in a heap -/
theorem PC.deepA {T : Nat → Option IFun} {H : Heap} {f : Nat} {args us : List V} {v : V} (hd : omap (Go.Eng.deep false H deepN) args = some us) (hn : args.all (V.free deepN) = false)
    (h : Fn T f us [] (fun r Hc => Go.Eng.deep true Hc deepN r = some v)) : PC T H f args v := by
  obtain ⟨k, r, Hc, h1, h2⟩ := h
  refine ⟨k, ?_⟩
  simp only [pcall, hd, Option.bind_some, h1, hn, Bool.not_false]; exact h2

/- ### the long row -/
def longV (n i : Nat) (j : Nat) : V := if j < i then .fz [vi ((j : Int) + 1), vi 0] else .nils
theorem long_set {n i : Nat} (hi : i < n) : ((List.range n).map (longV n i)).set i (.fz [vi ((i : Int) + 1), vi 0]) = (List.range n).map (longV n (i + 1)) := by
  refine List.ext_getElem (by simp) fun j h1 h2 => ?_
  rw [List.getElem_set]
  simp only [List.getElem_map, List.getElem_range]
  unfold longV
  split
  · rename_i h; subst h; rw [if_pos (by omega)]
  · by_cases c : j < i
    · rw [if_pos c, if_pos (by omega)]
    · rw [if_neg c, if_neg (by omega)]
theorem long_rows {n : Nat} (hn : 1 ≤ n) : IsRows ((List.range n).map (longV n (n - 1))) (longR n) := by
  refine ⟨by simp [longR], fun k r hk => ?_⟩
  have hkl : k < n := by have := (List.getElem?_eq_some_iff.mp hk).1; simpa [longR] using this
  simp [longR, hkl] at hk
  refine ⟨longV n (n - 1) k, by simp [hkl], ?_⟩
  unfold longV
  by_cases c : k + 1 < n
  · rw [if_pos c] at hk
    rw [if_pos (by omega), ← hk]; exact .inl (by simp [vis, vi])
  · rw [if_neg c] at hk
    rw [if_neg (by omega)]; exact .inr ⟨hk.symm, rfl⟩
theorem long_small : Small (longR 20000) := by
  refine ⟨by simp [longR], fun r hr => ?_⟩
  simp only [longR, List.mem_map, List.mem_range] at hr
  obtain ⟨i, _, rfl⟩ := hr
  split <;> simp
theorem long_ok : okn (longR 20000) = true := by
  rw [is_okn ?_]
  · simp [longR]
  · intro i hi j hj
    have hi' : i < 20000 := by simpa [longR] using hi
    rw [longR_at hi'] at hj ⊢
    have hl : (longR 20000).length = 20000 := by simp [longR]
    rw [hl]
    split at hj
    · rename_i c
      rw [if_pos c]
      have : j = 0 ∨ j = 1 := by simp at hj; omega
      rcases this with rfl | rfl
      · simp; omega
      · simp
    · simp at hj
def outL : List Int := (List.range 20000).map fun i : Nat => (i : Int) - 1
theorem outL_len : outL.length = 20000 := by simp [outL]
theorem outL_at {i : Nat} (h : i < 20000) : outL.getD i 0 = (i : Int) - 1 := by simp [outL, List.getD, h]
theorem up_yes : ∀ (k b : Nat), b < k → b < 20000 → overF k outL 0 (b : Int) = true
  | 0, b, h, _ => by omega
  | k + 1, b, h, hb => by
    have hl := outL_len
    unfold overF
    rw [if_pos ⟨by omega, by omega, by omega, by omega⟩]
    by_cases c : b = 0
    · subst c; rfl
    · rw [if_neg (by omega), show (b : Int).toNat = b by omega, outL_at hb, show (b : Int) - 1 = ((b - 1 : Nat) : Int) by omega]
      exact up_yes k (b - 1) (by omega) (by omega)
theorem up_no (k : Nat) : overF k outL 19999 0 = false := by
  cases k with
  | zero => rfl
  | succ k =>
    have hl := outL_len
    unfold overF
    rw [if_pos ⟨by omega, by omega, by omega, by omega⟩, if_neg (by decide), show (0 : Int).toNat = 0 by decide, outL_at (by decide)]
    exact overF_no _ _ _ _ (by omega)

/- ### the whole: three nets in turn, the long row, three closed calls -/
theorem bsl_i64h {h : Heap} {lo : Nat} {w : V} {r : List Int} (R : RowLo h lo w r) (H : Heap) : bslV H 1 false 1 .nils [(0, w)] false = some (.sl H.length 0 0 1 1 false, H ++ [(0, [w])]) := by
  rcases R with ⟨rfl, rfl⟩ | ⟨c, g, rfl, _, _⟩ <;> rfl
theorem Fn.run {n f : Nat} {args : List V} {v : V} (h : (exF T n f args []).bind (fun p => Go.Eng.deep false p.2 deepN p.1) = some v) : Fn T f args [] (fun r Hc => Go.Eng.deep false Hc deepN r = some v) := by
  cases e : exF T n f args [] with
  | none => rw [e] at h; cases h
  | some p => rw [e] at h; exact ⟨n, p.1, p.2, e, h⟩
theorem free_fz (l : List V) : V.free deepN (.fz l) = true := rfl
theorem bsl_two (x : Int) : (bslV [] 1 false 2 (.int .i64 0) [(0, .int .i64 x), (1, .int .i64 0)] true).map (·.1) = some (.fz [.int .i64 x, .int .i64 0]) := rfl
theorem domTreesA {h : Heap} {v : V} {rows : List (List Int)} (R : RowsIn h v rows) (hl : rows.length = 3) (hr : ∀ r ∈ rows, r.length ≤ 3) : PC T h 3 [v] (.bool true) := by
  obtain ⟨ws, h1, h2, h3⟩ := R.deep (by omega)
  refine PC.deepA (us := [.fz ws]) (by simp only [omap, h1]) (by simp [h3]) ((domTrees h2 ⟨by omega, fun r hr' => by have := hr r hr'; omega⟩).mono ?_)
  rintro r Hc rfl; rfl
theorem long_deep {H : Heap} {c g : Nat} {n i : Nat} (h : H[c]? = some (g, (List.range n).map (longV n i))) : Go.Eng.deep false H deepN (.sl c g 0 n 1 false) = some (.fz ((List.range n).map (longV n i))) := by
  have one : ∀ w ∈ (List.range n).map (longV n i), (Go.Eng.deep false H 39 w).bind (fun u => if u.isAg then none else some u) = some w := by
    intro w hw
    obtain ⟨j, _, rfl⟩ := List.mem_map.1 hw
    unfold longV
    split
    · rfl
    · rfl
  have all : ∀ (l : List V), (∀ w ∈ l, (Go.Eng.deep false H 39 w).bind (fun u => if u.isAg then none else some u) = some w) → omap (drow (Go.Eng.deep false H 39) false) (l.map fun w => [w]) = some l := by
    intro l
    induction l with
    | nil => intro _; rfl
    | cons w l ih =>
      intro hh
      have h0 := hh w (by simp)
      simp only [List.map_cons, omap, drow_one, h0, ih (fun w hw => hh w (by simp [hw]))]
  show Go.Eng.deep false H (39 + 1) (.sl c g 0 n 1 false) = some (.fz _)
  rw [deep_sl, rdB_of h, Option.bind_some, if_pos (by simp), List.drop_zero, rows_one n _ (by simp), all _ one]; rfl
theorem treeL {H : Heap} {c g : Nat} (h : H[c]? = some (g, (List.range 20000).map (longV 20000 19999))) : PC T H 10 [.sl c g 0 20000 1 false] (.tup [vis outL, .int .i64 0]) := by
  refine PC.deepA (us := [.fz ((List.range 20000).map (longV 20000 19999))]) (by simp only [omap, long_deep h]) rfl ((treeS true (long_rows (n := 20000) (by decide)) long_small ?_).mono ?_)
  · exact free_fz _
  · rintro r Hc (⟨h1, _⟩ | ⟨_, out, h2, h3⟩)
    · rw [long_ok] at h1; cases h1
    · rw [h2, long_tree h3]; rfl
theorem mks_long (H : Heap) : mksV H 1 false [.nils] 24 (.int .i64 20000) (.int .i64 20000) = some (.sl H.length 0 0 20000 1 false, H ++ [(0, List.replicate 20000 .nils)]) := mks_nils H 20000 (by decide)
theorem long_start (n : Nat) : (List.range n).map (longV n 0) = List.replicate n .nils := by
  refine List.ext_getElem (by simp) fun j h1 h2 => ?_
  simp [longV]
theorem idx_long' {H : Heap} {n i : Nat} (hi : i < n) : idxaV (.sl H.length 0 0 n 1 false) (.int .i64 (i : Int)) 1 false = some (.ptr H.length 0 i) := by
  simp only [idxaV]
  rw [if_pos ⟨by omega, by omega, trivial, trivial⟩, Int.toNat_natCast, Nat.zero_add, Nat.mul_one]
theorem idx_long {H : Heap} (i : Nat) (hi : i < 20000) : idxaV (.sl H.length 0 0 20000 1 false) (.int .i64 (i : Int)) 1 false = some (.ptr H.length 0 i) := idx_long' hi
theorem long_st' {H : Heap} {n i : Nat} (hi : i < n) : stV (H ++ [(0, (List.range n).map (longV n i))]) (.ptr H.length 0 i) (.fz [vi ((i : Int) + 1), vi 0]) none = some (H ++ [(0, (List.range n).map (longV n (i + 1)))]) := by
  have h1 : fitsSh (.fz [vi ((i : Int) + 1), vi 0]) none = true := rfl
  have h2 : i + (V.fz [vi ((i : Int) + 1), vi 0]).cells.length ≤ ((List.range n).map (longV n i)).length := by
    show i + 1 ≤ _; simp; omega
  simp only [stV, rdB_last, Option.bind_some, h1, decide_eq_true h2, Bool.and_self, if_true, long_set hi, set_last]
theorem long_st {H : Heap} {i : Nat} (hi : i < 20000) : stV (H ++ [(0, (List.range 20000).map (longV 20000 i))]) (.ptr H.length 0 i) (.fz [.int .i64 ((i : Int) + 1), .int .i64 0]) none = some (H ++ [(0, (List.range 20000).map (longV 20000 (i + 1)))]) := long_st' hi
theorem bsl_row (x : Int) : (bslV [] 1 false 1 .nils [(0, .fz [.int .i64 x])] true).map (·.1) = some (.fz [.fz [.int .i64 x]]) := rfl
theorem over_nil (H : Heap) : PC T H 13 [.nils, .int .i64 0, .int .i64 0] (.bool false) := PC.of rfl (Fn.run (n := 100) (by kernel_rfl))
theorem over_10 (H : Heap) : PC T H 13 [.fz [.int .i64 1, .int .i64 0], .int .i64 1, .int .i64 0] (.bool true) := overC [1, 0] (by simp) 1 0 H
theorem over_50 (H : Heap) : PC T H 13 [.fz [.int .i64 1, .int .i64 0], .int .i64 5, .int .i64 0] (.bool false) := overC [1, 0] (by simp) 5 0 H
theorem over_up (H : Heap) : PC T H 13 [vis outL, .int .i64 0, .int .i64 19999] (.bool true) := by
  have h := overC outL (by rw [outL_len]; decide) 0 19999 H
  have e := up_yes (outL.length + 1) 19999 (by rw [outL_len]; decide) (by decide)
  rw [show ((19999 : Nat) : Int) = 19999 from rfl] at e
  rw [e] at h; exact h
theorem over_dn (H : Heap) : PC T H 13 [vis outL, .int .i64 19999, .int .i64 0] (.bool false) := by
  have h := overC outL (by rw [outL_len]; decide) 19999 0 H
  rw [up_no] at h; exact h
theorem tree_nil (H : Heap) : PC T H 10 [.nils] (.tup [.nils, .int .i64 4]) := PC.of rfl (Fn.run (n := 100) (by kernel_rfl))
theorem tree_one (H : Heap) : PC T H 10 [.fz [.fz [.int .i64 1]]] (.tup [.nils, .int .i64 4]) := PC.of rfl (Fn.run (n := 100) (by kernel_rfl))
theorem tree_neg (H : Heap) : PC T H 10 [.fz [.fz [.int .i64 (-1)]]] (.tup [.nils, .int .i64 4]) := PC.of rfl (Fn.run (n := 100) (by kernel_rfl))

theorem domNumbers : Fn T 5 [] [] (fun r h => r = .bool true) := by
  refine Fn.enter t5 ?_; simp only [i5, List.length_cons, List.length_nil, Nat.reduceAdd, Nat.reduceSub, List.replicate_succ, List.replicate_zero, List.cons_append, List.nil_append]
  refine Run.seqr ?_; simp only [i5r0, exOps_nil, exOps_cons, bindO_some, mapQ_some, mapW_some, x_mov, x_pick, x_bin, x_un, x_cvt, x_ld, x_b2s, x_idxa, x_idxs, x_fld, x_flda, x_boxf, x_boxr, x_bld, x_bslf, x_slc, x_len, x_ext, x_nchk, x_mkf, x_mki, x_fbin, x_fneg, x_i2f, x_f2i, x_xc, x_eqs, xl_ld, xl_b2s, x_st, x_boxh, x_alloc, x_bslh, x_mks, x_app, exOp_gt, exOp_gf, exOp_gf2, exOp_gs, put_some, put_none, ev_t, ev_c, List.getD_cons_zero, List.getD_cons_succ, List.set_cons_zero, List.set_cons_succ, Option.map_some, Option.map_none, optB_some, if_true, Bool.false_eq_true, if_false, ne_eq, reduceCtorEq, not_false_eq_true, not_true_eq_false, Bool.true_eq_false, len_vis, lenV_fz, lenV_sl, lenV_nils, lenV_str, binV, intB, unV, ld_fp_int, ld_fp_bool, ld_fp_str, ld_fp_fz, ld_fp_vis, ld_fp_sl, ld_fp_nils, ld_fp_ptr, ld_fp_fpp, ld_fp_nilp, ld_bx_int, ld_bx_bool, ld_bx_str, ld_bx_fz, ld_bx_vis, ld_bx_sl, ld_bx_nils, ld_bx_ptr, ld_bx_fpp, ld_bx_nilp, List.length_cons, List.length_nil, beq_self_eq_true, Bool.and_self, Bool.and_true, Bool.true_and]
  refine Run.seq (Run.seq ?_)
  refine Run.rgn (RunO.all ?_); simp only [i5r1, exOps_nil, exOps_cons, bindO_some, mapQ_some, mapW_some, x_mov, x_pick, x_bin, x_un, x_cvt, x_ld, x_b2s, x_idxa, x_idxs, x_fld, x_flda, x_boxf, x_boxr, x_bld, x_bslf, x_slc, x_len, x_ext, x_nchk, x_mkf, x_mki, x_fbin, x_fneg, x_i2f, x_f2i, x_xc, x_eqs, xl_ld, xl_b2s, x_st, x_boxh, x_alloc, x_bslh, x_mks, x_app, exOp_gt, exOp_gf, exOp_gf2, exOp_gs, put_some, put_none, ev_t, ev_c, List.getD_cons_zero, List.getD_cons_succ, List.set_cons_zero, List.set_cons_succ, Option.map_some, Option.map_none, optB_some, if_true, Bool.false_eq_true, if_false, ne_eq, reduceCtorEq, not_false_eq_true, not_true_eq_false, Bool.true_eq_false, len_vis, lenV_fz, lenV_sl, lenV_nils, lenV_str, binV, intB, unV, ld_fp_int, ld_fp_bool, ld_fp_str, ld_fp_fz, ld_fp_vis, ld_fp_sl, ld_fp_nils, ld_fp_ptr, ld_fp_fpp, ld_fp_nilp, ld_bx_int, ld_bx_bool, ld_bx_str, ld_bx_fz, ld_bx_vis, ld_bx_sl, ld_bx_nils, ld_bx_ptr, ld_bx_fpp, ld_bx_nilp, List.length_cons, List.length_nil, beq_self_eq_true, Bool.and_self, Bool.and_true, Bool.true_and]
  refine Run.block ?_
  refine Run.loopc (fun m e h => ∃ i : Nat, i ≤ 512 ∧ m = 512 - i ∧ e = i5e47 (vi i)) 512 ⟨0, by omega, by omega, (by simp only [clrEnv, List.set_cons_zero, List.set_cons_succ, vi, vis, Int.natCast_zero, Int.natCast_add, Int.natCast_one, i5e47])⟩ ?_
  rintro m e h ⟨mm, hmm, rfl, rfl⟩
  simp only [i5e47, vi]
  refine Run.seq (Run.seq ?_)
  refine Run.rgn (RunO.all ?_); simp only [i5r2, exOps_nil, exOps_cons, bindO_some, mapQ_some, mapW_some, x_mov, x_pick, x_bin, x_un, x_cvt, x_ld, x_b2s, x_idxa, x_idxs, x_fld, x_flda, x_boxf, x_boxr, x_bld, x_bslf, x_slc, x_len, x_ext, x_nchk, x_mkf, x_mki, x_fbin, x_fneg, x_i2f, x_f2i, x_xc, x_eqs, xl_ld, xl_b2s, x_st, x_boxh, x_alloc, x_bslh, x_mks, x_app, exOp_gt, exOp_gf, exOp_gf2, exOp_gs, put_some, put_none, ev_t, ev_c, List.getD_cons_zero, List.getD_cons_succ, List.set_cons_zero, List.set_cons_succ, Option.map_some, Option.map_none, optB_some, if_true, Bool.false_eq_true, if_false, ne_eq, reduceCtorEq, not_false_eq_true, not_true_eq_false, Bool.true_eq_false, len_vis, lenV_fz, lenV_sl, lenV_nils, lenV_str, binV, intB, unV, ld_fp_int, ld_fp_bool, ld_fp_str, ld_fp_fz, ld_fp_vis, ld_fp_sl, ld_fp_nils, ld_fp_ptr, ld_fp_fpp, ld_fp_nilp, ld_bx_int, ld_bx_bool, ld_bx_str, ld_bx_fz, ld_bx_vis, ld_bx_sl, ld_bx_nils, ld_bx_ptr, ld_bx_fpp, ld_bx_nilp, List.length_cons, List.length_nil, beq_self_eq_true, Bool.and_self, Bool.and_true, Bool.true_and]
  refine Run.ite (by rfl) (fun hlt => ?_) (fun hge => ?_)
  · have hlt : mm < 512 := by have := of_decide_eq_true hlt; omega
    refine Run.skip (Run.seq (Run.block (Run.seq ?_)))
    refine Run.rgn (RunO.all ?_); simp only [i5r5, exOps_nil, exOps_cons, bindO_some, mapQ_some, mapW_some, x_mov, x_pick, x_bin, x_un, x_cvt, x_ld, x_b2s, x_idxa, x_idxs, x_fld, x_flda, x_boxf, x_boxr, x_bld, x_bslf, x_slc, x_len, x_ext, x_nchk, x_mkf, x_mki, x_fbin, x_fneg, x_i2f, x_f2i, x_xc, x_eqs, xl_ld, xl_b2s, x_st, x_boxh, x_alloc, x_bslh, x_mks, x_app, exOp_gt, exOp_gf, exOp_gf2, exOp_gs, put_some, put_none, ev_t, ev_c, List.getD_cons_zero, List.getD_cons_succ, List.set_cons_zero, List.set_cons_succ, Option.map_some, Option.map_none, optB_some, if_true, Bool.false_eq_true, if_false, ne_eq, reduceCtorEq, not_false_eq_true, not_true_eq_false, Bool.true_eq_false, len_vis, lenV_fz, lenV_sl, lenV_nils, lenV_str, binV, intB, unV, ld_fp_int, ld_fp_bool, ld_fp_str, ld_fp_fz, ld_fp_vis, ld_fp_sl, ld_fp_nils, ld_fp_ptr, ld_fp_fpp, ld_fp_nilp, ld_bx_int, ld_bx_bool, ld_bx_str, ld_bx_fz, ld_bx_vis, ld_bx_sl, ld_bx_nils, ld_bx_ptr, ld_bx_fpp, ld_bx_nilp, List.length_cons, List.length_nil, beq_self_eq_true, Bool.and_self, Bool.and_true, Bool.true_and]
    refine Run.seq (Run.seq ?_)
    refine Run.rgn (RunO.all ?_); simp only [i5r6, exOps_nil, exOps_cons, bindO_some, mapQ_some, mapW_some, x_mov, x_pick, x_bin, x_un, x_cvt, x_ld, x_b2s, x_idxa, x_idxs, x_fld, x_flda, x_boxf, x_boxr, x_bld, x_bslf, x_slc, x_len, x_ext, x_nchk, x_mkf, x_mki, x_fbin, x_fneg, x_i2f, x_f2i, x_xc, x_eqs, xl_ld, xl_b2s, x_st, x_boxh, x_alloc, x_bslh, x_mks, x_app, exOp_gt, exOp_gf, exOp_gf2, exOp_gs, put_some, put_none, ev_t, ev_c, List.getD_cons_zero, List.getD_cons_succ, List.set_cons_zero, List.set_cons_succ, Option.map_some, Option.map_none, optB_some, if_true, Bool.false_eq_true, if_false, ne_eq, reduceCtorEq, not_false_eq_true, not_true_eq_false, Bool.true_eq_false, len_vis, lenV_fz, lenV_sl, lenV_nils, lenV_str, binV, intB, unV, ld_fp_int, ld_fp_bool, ld_fp_str, ld_fp_fz, ld_fp_vis, ld_fp_sl, ld_fp_nils, ld_fp_ptr, ld_fp_fpp, ld_fp_nilp, ld_bx_int, ld_bx_bool, ld_bx_str, ld_bx_fz, ld_bx_vis, ld_bx_sl, ld_bx_nils, ld_bx_ptr, ld_bx_fpp, ld_bx_nilp, List.length_cons, List.length_nil, beq_self_eq_true, Bool.and_self, Bool.and_true, Bool.true_and]
    refine Run.block ?_
    refine Run.loopc (fun m e h => ∃ (i : Nat) (v : V) (rows : List (List Int)), i ≤ 3 ∧ m = 3 - i ∧ rows.length = i ∧ (∀ r ∈ rows, r.length ≤ 3) ∧ RowsIn h v rows ∧ e = i5e33 (vi mm) v (vi i)) 3 ⟨0, .nils, [], by omega, by omega, rfl, by simp, .inl ⟨rfl, rfl⟩, (by simp only [clrEnv, List.set_cons_zero, List.set_cons_succ, vi, vis, Int.natCast_zero, Int.natCast_add, Int.natCast_one, i5e33])⟩ ?_
    rintro m e h ⟨i, v, rows, hi, rfl, hl, hr3, R, rfl⟩
    simp only [i5e33, vi]
    refine Run.seq (Run.seq ?_)
    refine Run.rgn (RunO.all ?_); simp only [i5r7, exOps_nil, exOps_cons, bindO_some, mapQ_some, mapW_some, x_mov, x_pick, x_bin, x_un, x_cvt, x_ld, x_b2s, x_idxa, x_idxs, x_fld, x_flda, x_boxf, x_boxr, x_bld, x_bslf, x_slc, x_len, x_ext, x_nchk, x_mkf, x_mki, x_fbin, x_fneg, x_i2f, x_f2i, x_xc, x_eqs, xl_ld, xl_b2s, x_st, x_boxh, x_alloc, x_bslh, x_mks, x_app, exOp_gt, exOp_gf, exOp_gf2, exOp_gs, put_some, put_none, ev_t, ev_c, List.getD_cons_zero, List.getD_cons_succ, List.set_cons_zero, List.set_cons_succ, Option.map_some, Option.map_none, optB_some, if_true, Bool.false_eq_true, if_false, ne_eq, reduceCtorEq, not_false_eq_true, not_true_eq_false, Bool.true_eq_false, len_vis, lenV_fz, lenV_sl, lenV_nils, lenV_str, binV, intB, unV, ld_fp_int, ld_fp_bool, ld_fp_str, ld_fp_fz, ld_fp_vis, ld_fp_sl, ld_fp_nils, ld_fp_ptr, ld_fp_fpp, ld_fp_nilp, ld_bx_int, ld_bx_bool, ld_bx_str, ld_bx_fz, ld_bx_vis, ld_bx_sl, ld_bx_nils, ld_bx_ptr, ld_bx_fpp, ld_bx_nilp, List.length_cons, List.length_nil, beq_self_eq_true, Bool.and_self, Bool.and_true, Bool.true_and]
    refine Run.ite (by rfl) (fun hlti => ?_) (fun hgei => ?_)
    · have hlti : i < 3 := by have := of_decide_eq_true hlti; omega
      refine Run.skip (Run.seq (Run.block (Run.seq ?_)))
      refine Run.rgn (RunO.all ?_); simp only [i5r10, exOps_nil, exOps_cons, bindO_some, mapQ_some, mapW_some, x_mov, x_pick, x_bin, x_un, x_cvt, x_ld, x_b2s, x_idxa, x_idxs, x_fld, x_flda, x_boxf, x_boxr, x_bld, x_bslf, x_slc, x_len, x_ext, x_nchk, x_mkf, x_mki, x_fbin, x_fneg, x_i2f, x_f2i, x_xc, x_eqs, xl_ld, xl_b2s, x_st, x_boxh, x_alloc, x_bslh, x_mks, x_app, exOp_gt, exOp_gf, exOp_gf2, exOp_gs, put_some, put_none, ev_t, ev_c, List.getD_cons_zero, List.getD_cons_succ, List.set_cons_zero, List.set_cons_succ, Option.map_some, Option.map_none, optB_some, if_true, Bool.false_eq_true, if_false, ne_eq, reduceCtorEq, not_false_eq_true, not_true_eq_false, Bool.true_eq_false, len_vis, lenV_fz, lenV_sl, lenV_nils, lenV_str, binV, intB, unV, ld_fp_int, ld_fp_bool, ld_fp_str, ld_fp_fz, ld_fp_vis, ld_fp_sl, ld_fp_nils, ld_fp_ptr, ld_fp_fpp, ld_fp_nilp, ld_bx_int, ld_bx_bool, ld_bx_str, ld_bx_fz, ld_bx_vis, ld_bx_sl, ld_bx_nils, ld_bx_ptr, ld_bx_fpp, ld_bx_nilp, List.length_cons, List.length_nil, beq_self_eq_true, Bool.and_self, Bool.and_true, Bool.true_and]
      refine Run.seq (Run.seq ?_)
      refine Run.rgn (RunO.all ?_); simp only [i5r11, exOps_nil, exOps_cons, bindO_some, mapQ_some, mapW_some, x_mov, x_pick, x_bin, x_un, x_cvt, x_ld, x_b2s, x_idxa, x_idxs, x_fld, x_flda, x_boxf, x_boxr, x_bld, x_bslf, x_slc, x_len, x_ext, x_nchk, x_mkf, x_mki, x_fbin, x_fneg, x_i2f, x_f2i, x_xc, x_eqs, xl_ld, xl_b2s, x_st, x_boxh, x_alloc, x_bslh, x_mks, x_app, exOp_gt, exOp_gf, exOp_gf2, exOp_gs, put_some, put_none, ev_t, ev_c, List.getD_cons_zero, List.getD_cons_succ, List.set_cons_zero, List.set_cons_succ, Option.map_some, Option.map_none, optB_some, if_true, Bool.false_eq_true, if_false, ne_eq, reduceCtorEq, not_false_eq_true, not_true_eq_false, Bool.true_eq_false, len_vis, lenV_fz, lenV_sl, lenV_nils, lenV_str, binV, intB, unV, ld_fp_int, ld_fp_bool, ld_fp_str, ld_fp_fz, ld_fp_vis, ld_fp_sl, ld_fp_nils, ld_fp_ptr, ld_fp_fpp, ld_fp_nilp, ld_bx_int, ld_bx_bool, ld_bx_str, ld_bx_fz, ld_bx_vis, ld_bx_sl, ld_bx_nils, ld_bx_ptr, ld_bx_fpp, ld_bx_nilp, List.length_cons, List.length_nil, beq_self_eq_true, Bool.and_self, Bool.and_true, Bool.true_and]
      refine Run.block ?_
      refine Run.loopc (fun m e h' => ∃ (j : Nat) (w : V) (r : List Int), j ≤ 3 ∧ m = 3 - j ∧ r.length ≤ j ∧ h.length ≤ h'.length ∧ (∀ d, d < h.length → h'[d]? = h[d]?) ∧ RowLo h' h.length w r ∧ e = i5e23 (vi mm) v (vi i) w (vi j)) 3 ⟨0, .nils, [], by omega, by omega, by simp, by omega, fun _ _ => rfl, .inl ⟨rfl, rfl⟩, (by simp only [clrEnv, List.set_cons_zero, List.set_cons_succ, vi, vis, Int.natCast_zero, Int.natCast_add, Int.natCast_one, i5e23])⟩ ?_
      rintro m e h' ⟨j, w, r, hj, rfl, hrl, hle, hf, R1, rfl⟩
      simp only [i5e23, vi]
      refine Run.seq (Run.seq ?_)
      refine Run.rgn (RunO.all ?_); simp only [i5r12, exOps_nil, exOps_cons, bindO_some, mapQ_some, mapW_some, x_mov, x_pick, x_bin, x_un, x_cvt, x_ld, x_b2s, x_idxa, x_idxs, x_fld, x_flda, x_boxf, x_boxr, x_bld, x_bslf, x_slc, x_len, x_ext, x_nchk, x_mkf, x_mki, x_fbin, x_fneg, x_i2f, x_f2i, x_xc, x_eqs, xl_ld, xl_b2s, x_st, x_boxh, x_alloc, x_bslh, x_mks, x_app, exOp_gt, exOp_gf, exOp_gf2, exOp_gs, put_some, put_none, ev_t, ev_c, List.getD_cons_zero, List.getD_cons_succ, List.set_cons_zero, List.set_cons_succ, Option.map_some, Option.map_none, optB_some, if_true, Bool.false_eq_true, if_false, ne_eq, reduceCtorEq, not_false_eq_true, not_true_eq_false, Bool.true_eq_false, len_vis, lenV_fz, lenV_sl, lenV_nils, lenV_str, binV, intB, unV, ld_fp_int, ld_fp_bool, ld_fp_str, ld_fp_fz, ld_fp_vis, ld_fp_sl, ld_fp_nils, ld_fp_ptr, ld_fp_fpp, ld_fp_nilp, ld_bx_int, ld_bx_bool, ld_bx_str, ld_bx_fz, ld_bx_vis, ld_bx_sl, ld_bx_nils, ld_bx_ptr, ld_bx_fpp, ld_bx_nilp, List.length_cons, List.length_nil, beq_self_eq_true, Bool.and_self, Bool.and_true, Bool.true_and]
      refine Run.ite (by rfl) (fun hltj => ?_) (fun hgej => ?_)
      · have hltj : j < 3 := by have := of_decide_eq_true hltj; omega
        have wsucc := wrap_succ (show j ≤ 1048576 by omega)
        refine Run.skip (Run.seq (Run.block (Run.seq ?_)))
        refine Run.rgn (RunO.all ?_); simp only [i5r15, exOps_nil, exOps_cons, bindO_some, mapQ_some, mapW_some, x_mov, x_pick, x_bin, x_un, x_cvt, x_ld, x_b2s, x_idxa, x_idxs, x_fld, x_flda, x_boxf, x_boxr, x_bld, x_bslf, x_slc, x_len, x_ext, x_nchk, x_mkf, x_mki, x_fbin, x_fneg, x_i2f, x_f2i, x_xc, x_eqs, xl_ld, xl_b2s, x_st, x_boxh, x_alloc, x_bslh, x_mks, x_app, exOp_gt, exOp_gf, exOp_gf2, exOp_gs, put_some, put_none, ev_t, ev_c, List.getD_cons_zero, List.getD_cons_succ, List.set_cons_zero, List.set_cons_succ, Option.map_some, Option.map_none, optB_some, if_true, Bool.false_eq_true, if_false, ne_eq, reduceCtorEq, not_false_eq_true, not_true_eq_false, Bool.true_eq_false, len_vis, lenV_fz, lenV_sl, lenV_nils, lenV_str, binV, intB, unV, ld_fp_int, ld_fp_bool, ld_fp_str, ld_fp_fz, ld_fp_vis, ld_fp_sl, ld_fp_nils, ld_fp_ptr, ld_fp_fpp, ld_fp_nilp, ld_bx_int, ld_bx_bool, ld_bx_str, ld_bx_fz, ld_bx_vis, ld_bx_sl, ld_bx_nils, ld_bx_ptr, ld_bx_fpp, ld_bx_nilp, List.length_cons, List.length_nil, beq_self_eq_true, Bool.and_self, Bool.and_true, Bool.true_and, if_neg_u64]
        refine Run.ite (by rfl) (fun _ => ?_) (fun _ => ?_)
        · obtain ⟨v', h2, e1, e2, e3, e4⟩ := R1.app hle (by omega) (j : Int)
          refine Run.rgn (RunO.all ?_); simp only [i5r16, exOps_nil, exOps_cons, bindO_some, mapQ_some, mapW_some, x_mov, x_pick, x_bin, x_un, x_cvt, x_ld, x_b2s, x_idxa, x_idxs, x_fld, x_flda, x_boxf, x_boxr, x_bld, x_bslf, x_slc, x_len, x_ext, x_nchk, x_mkf, x_mki, x_fbin, x_fneg, x_i2f, x_f2i, x_xc, x_eqs, xl_ld, xl_b2s, x_st, x_boxh, x_alloc, x_bslh, x_mks, x_app, exOp_gt, exOp_gf, exOp_gf2, exOp_gs, put_some, put_none, ev_t, ev_c, List.getD_cons_zero, List.getD_cons_succ, List.set_cons_zero, List.set_cons_succ, Option.map_some, Option.map_none, optB_some, if_true, Bool.false_eq_true, if_false, ne_eq, reduceCtorEq, not_false_eq_true, not_true_eq_false, Bool.true_eq_false, len_vis, lenV_fz, lenV_sl, lenV_nils, lenV_str, binV, intB, unV, ld_fp_int, ld_fp_bool, ld_fp_str, ld_fp_fz, ld_fp_vis, ld_fp_sl, ld_fp_nils, ld_fp_ptr, ld_fp_fpp, ld_fp_nilp, ld_bx_int, ld_bx_bool, ld_bx_str, ld_bx_fz, ld_bx_vis, ld_bx_sl, ld_bx_nils, ld_bx_ptr, ld_bx_fpp, ld_bx_nilp, List.length_cons, List.length_nil, beq_self_eq_true, Bool.and_self, Bool.and_true, Bool.true_and, List.map_cons, List.map_nil, bsl_i64, e1]
          refine Run.rgn (RunO.all ?_); simp only [i5r20, exOps_nil, exOps_cons, bindO_some, mapQ_some, mapW_some, x_mov, x_pick, x_bin, x_un, x_cvt, x_ld, x_b2s, x_idxa, x_idxs, x_fld, x_flda, x_boxf, x_boxr, x_bld, x_bslf, x_slc, x_len, x_ext, x_nchk, x_mkf, x_mki, x_fbin, x_fneg, x_i2f, x_f2i, x_xc, x_eqs, xl_ld, xl_b2s, x_st, x_boxh, x_alloc, x_bslh, x_mks, x_app, exOp_gt, exOp_gf, exOp_gf2, exOp_gs, put_some, put_none, ev_t, ev_c, List.getD_cons_zero, List.getD_cons_succ, List.set_cons_zero, List.set_cons_succ, Option.map_some, Option.map_none, optB_some, if_true, Bool.false_eq_true, if_false, ne_eq, reduceCtorEq, not_false_eq_true, not_true_eq_false, Bool.true_eq_false, len_vis, lenV_fz, lenV_sl, lenV_nils, lenV_str, binV, intB, unV, ld_fp_int, ld_fp_bool, ld_fp_str, ld_fp_fz, ld_fp_vis, ld_fp_sl, ld_fp_nils, ld_fp_ptr, ld_fp_fpp, ld_fp_nilp, ld_bx_int, ld_bx_bool, ld_bx_str, ld_bx_fz, ld_bx_vis, ld_bx_sl, ld_bx_nils, ld_bx_ptr, ld_bx_fpp, ld_bx_nilp, List.length_cons, List.length_nil, beq_self_eq_true, Bool.and_self, Bool.and_true, Bool.true_and, wsucc]
          exact ⟨3 - (j + 1), by omega, j + 1, v', r ++ [(j : Int)], by omega, rfl, by simp; omega, by omega, fun d hd => by rw [e4 d hd, hf d hd], e2, (by simp only [clrEnv, List.set_cons_zero, List.set_cons_succ, vi, vis, Int.natCast_zero, Int.natCast_add, Int.natCast_one, i5e23])⟩
        · refine Run.skip ?_
          refine Run.rgn (RunO.all ?_); simp only [i5r20, exOps_nil, exOps_cons, bindO_some, mapQ_some, mapW_some, x_mov, x_pick, x_bin, x_un, x_cvt, x_ld, x_b2s, x_idxa, x_idxs, x_fld, x_flda, x_boxf, x_boxr, x_bld, x_bslf, x_slc, x_len, x_ext, x_nchk, x_mkf, x_mki, x_fbin, x_fneg, x_i2f, x_f2i, x_xc, x_eqs, xl_ld, xl_b2s, x_st, x_boxh, x_alloc, x_bslh, x_mks, x_app, exOp_gt, exOp_gf, exOp_gf2, exOp_gs, put_some, put_none, ev_t, ev_c, List.getD_cons_zero, List.getD_cons_succ, List.set_cons_zero, List.set_cons_succ, Option.map_some, Option.map_none, optB_some, if_true, Bool.false_eq_true, if_false, ne_eq, reduceCtorEq, not_false_eq_true, not_true_eq_false, Bool.true_eq_false, len_vis, lenV_fz, lenV_sl, lenV_nils, lenV_str, binV, intB, unV, ld_fp_int, ld_fp_bool, ld_fp_str, ld_fp_fz, ld_fp_vis, ld_fp_sl, ld_fp_nils, ld_fp_ptr, ld_fp_fpp, ld_fp_nilp, ld_bx_int, ld_bx_bool, ld_bx_str, ld_bx_fz, ld_bx_vis, ld_bx_sl, ld_bx_nils, ld_bx_ptr, ld_bx_fpp, ld_bx_nilp, List.length_cons, List.length_nil, beq_self_eq_true, Bool.and_self, Bool.and_true, Bool.true_and, wsucc]
          exact ⟨3 - (j + 1), by omega, j + 1, w, r, by omega, rfl, by omega, hle, hf, R1, (by simp only [clrEnv, List.set_cons_zero, List.set_cons_succ, vi, vis, Int.natCast_zero, Int.natCast_add, Int.natCast_one, i5e23])⟩
      · refine Run.exit ?_
        show Run T _ _ _ _
        have wsi := wrap_succ (show i ≤ 1048576 by omega)
        obtain ⟨v', h2, e1, e2⟩ := R.app hf hle R1 (by omega)
        refine Run.rgn (RunO.all ?_); simp only [i5r26, exOps_nil, exOps_cons, bindO_some, mapQ_some, mapW_some, x_mov, x_pick, x_bin, x_un, x_cvt, x_ld, x_b2s, x_idxa, x_idxs, x_fld, x_flda, x_boxf, x_boxr, x_bld, x_bslf, x_slc, x_len, x_ext, x_nchk, x_mkf, x_mki, x_fbin, x_fneg, x_i2f, x_f2i, x_xc, x_eqs, xl_ld, xl_b2s, x_st, x_boxh, x_alloc, x_bslh, x_mks, x_app, exOp_gt, exOp_gf, exOp_gf2, exOp_gs, put_some, put_none, ev_t, ev_c, List.getD_cons_zero, List.getD_cons_succ, List.set_cons_zero, List.set_cons_succ, Option.map_some, Option.map_none, optB_some, if_true, Bool.false_eq_true, if_false, ne_eq, reduceCtorEq, not_false_eq_true, not_true_eq_false, Bool.true_eq_false, len_vis, lenV_fz, lenV_sl, lenV_nils, lenV_str, binV, intB, unV, ld_fp_int, ld_fp_bool, ld_fp_str, ld_fp_fz, ld_fp_vis, ld_fp_sl, ld_fp_nils, ld_fp_ptr, ld_fp_fpp, ld_fp_nilp, ld_bx_int, ld_bx_bool, ld_bx_str, ld_bx_fz, ld_bx_vis, ld_bx_sl, ld_bx_nils, ld_bx_ptr, ld_bx_fpp, ld_bx_nilp, List.length_cons, List.length_nil, beq_self_eq_true, Bool.and_self, Bool.and_true, Bool.true_and, List.map_cons, List.map_nil, bsl_i64h R1, e1]
        refine Run.rgn (RunO.all ?_); simp only [i5r30, exOps_nil, exOps_cons, bindO_some, mapQ_some, mapW_some, x_mov, x_pick, x_bin, x_un, x_cvt, x_ld, x_b2s, x_idxa, x_idxs, x_fld, x_flda, x_boxf, x_boxr, x_bld, x_bslf, x_slc, x_len, x_ext, x_nchk, x_mkf, x_mki, x_fbin, x_fneg, x_i2f, x_f2i, x_xc, x_eqs, xl_ld, xl_b2s, x_st, x_boxh, x_alloc, x_bslh, x_mks, x_app, exOp_gt, exOp_gf, exOp_gf2, exOp_gs, put_some, put_none, ev_t, ev_c, List.getD_cons_zero, List.getD_cons_succ, List.set_cons_zero, List.set_cons_succ, Option.map_some, Option.map_none, optB_some, if_true, Bool.false_eq_true, if_false, ne_eq, reduceCtorEq, not_false_eq_true, not_true_eq_false, Bool.true_eq_false, len_vis, lenV_fz, lenV_sl, lenV_nils, lenV_str, binV, intB, unV, ld_fp_int, ld_fp_bool, ld_fp_str, ld_fp_fz, ld_fp_vis, ld_fp_sl, ld_fp_nils, ld_fp_ptr, ld_fp_fpp, ld_fp_nilp, ld_bx_int, ld_bx_bool, ld_bx_str, ld_bx_fz, ld_bx_vis, ld_bx_sl, ld_bx_nils, ld_bx_ptr, ld_bx_fpp, ld_bx_nilp, List.length_cons, List.length_nil, beq_self_eq_true, Bool.and_self, Bool.and_true, Bool.true_and, wsi]
        exact ⟨3 - (i + 1), by omega, i + 1, v', rows ++ [r], by omega, rfl, by simp [hl], fun r' hr' => by
          rcases List.mem_append.1 hr' with hh | hh
          · exact hr3 _ hh
          · have : r' = r := by simpa using hh
            subst this; omega, e2, (by simp only [clrEnv, List.set_cons_zero, List.set_cons_succ, vi, vis, Int.natCast_zero, Int.natCast_add, Int.natCast_one, i5e33])⟩
    · refine Run.exit ?_
      show Run T _ _ _ _
      have wsm := wrap_succ (show mm ≤ 1048576 by omega)
      have h3 : i = 3 := by have := of_decide_eq_false hgei; omega
      refine Run.seq (Run.rgn ?_)
      refine RunO.pre 1 ?_; simp only [i5r36, List.take_succ_cons, List.take_zero, List.drop_succ_cons, List.drop_zero, exOps_nil, exOps_cons, bindO_some, mapQ_some, mapW_some, x_mov, x_pick, x_bin, x_un, x_cvt, x_ld, x_b2s, x_idxa, x_idxs, x_fld, x_flda, x_boxf, x_boxr, x_bld, x_bslf, x_slc, x_len, x_ext, x_nchk, x_mkf, x_mki, x_fbin, x_fneg, x_i2f, x_f2i, x_xc, x_eqs, xl_ld, xl_b2s, x_st, x_boxh, x_alloc, x_bslh, x_mks, x_app, exOp_gt, exOp_gf, exOp_gf2, exOp_gs, put_some, put_none, ev_t, ev_c, List.getD_cons_zero, List.getD_cons_succ, List.set_cons_zero, List.set_cons_succ, Option.map_some, Option.map_none, optB_some, if_true, Bool.false_eq_true, if_false, ne_eq, reduceCtorEq, not_false_eq_true, not_true_eq_false, Bool.true_eq_false, len_vis, lenV_fz, lenV_sl, lenV_nils, lenV_str, binV, intB, unV, ld_fp_int, ld_fp_bool, ld_fp_str, ld_fp_fz, ld_fp_vis, ld_fp_sl, ld_fp_nils, ld_fp_ptr, ld_fp_fpp, ld_fp_nilp, ld_bx_int, ld_bx_bool, ld_bx_str, ld_bx_fz, ld_bx_vis, ld_bx_sl, ld_bx_nils, ld_bx_ptr, ld_bx_fpp, ld_bx_nilp, List.length_cons, List.length_nil, beq_self_eq_true, Bool.and_self, Bool.and_true, Bool.true_and]
      refine RunO.c (domTreesA R (by omega) hr3) ?_
      refine RunO.all ?_; simp only [exOps_nil, exOps_cons, bindO_some, mapQ_some, mapW_some, x_mov, x_pick, x_bin, x_un, x_cvt, x_ld, x_b2s, x_idxa, x_idxs, x_fld, x_flda, x_boxf, x_boxr, x_bld, x_bslf, x_slc, x_len, x_ext, x_nchk, x_mkf, x_mki, x_fbin, x_fneg, x_i2f, x_f2i, x_xc, x_eqs, xl_ld, xl_b2s, x_st, x_boxh, x_alloc, x_bslh, x_mks, x_app, exOp_gt, exOp_gf, exOp_gf2, exOp_gs, put_some, put_none, ev_t, ev_c, List.getD_cons_zero, List.getD_cons_succ, List.set_cons_zero, List.set_cons_succ, Option.map_some, Option.map_none, optB_some, if_true, Bool.false_eq_true, if_false, ne_eq, reduceCtorEq, not_false_eq_true, not_true_eq_false, Bool.true_eq_false, len_vis, lenV_fz, lenV_sl, lenV_nils, lenV_str, binV, intB, unV, ld_fp_int, ld_fp_bool, ld_fp_str, ld_fp_fz, ld_fp_vis, ld_fp_sl, ld_fp_nils, ld_fp_ptr, ld_fp_fpp, ld_fp_nilp, ld_bx_int, ld_bx_bool, ld_bx_str, ld_bx_fz, ld_bx_vis, ld_bx_sl, ld_bx_nils, ld_bx_ptr, ld_bx_fpp, ld_bx_nilp, List.length_cons, List.length_nil, beq_self_eq_true, Bool.and_self, Bool.and_true, Bool.true_and, unV]
      refine Run.ite (by rfl) (fun h => by cases h) (fun _ => ?_)
      refine Run.skip ?_
      refine Run.rgn (RunO.all ?_); simp only [i5r44, exOps_nil, exOps_cons, bindO_some, mapQ_some, mapW_some, x_mov, x_pick, x_bin, x_un, x_cvt, x_ld, x_b2s, x_idxa, x_idxs, x_fld, x_flda, x_boxf, x_boxr, x_bld, x_bslf, x_slc, x_len, x_ext, x_nchk, x_mkf, x_mki, x_fbin, x_fneg, x_i2f, x_f2i, x_xc, x_eqs, xl_ld, xl_b2s, x_st, x_boxh, x_alloc, x_bslh, x_mks, x_app, exOp_gt, exOp_gf, exOp_gf2, exOp_gs, put_some, put_none, ev_t, ev_c, List.getD_cons_zero, List.getD_cons_succ, List.set_cons_zero, List.set_cons_succ, Option.map_some, Option.map_none, optB_some, if_true, Bool.false_eq_true, if_false, ne_eq, reduceCtorEq, not_false_eq_true, not_true_eq_false, Bool.true_eq_false, len_vis, lenV_fz, lenV_sl, lenV_nils, lenV_str, binV, intB, unV, ld_fp_int, ld_fp_bool, ld_fp_str, ld_fp_fz, ld_fp_vis, ld_fp_sl, ld_fp_nils, ld_fp_ptr, ld_fp_fpp, ld_fp_nilp, ld_bx_int, ld_bx_bool, ld_bx_str, ld_bx_fz, ld_bx_vis, ld_bx_sl, ld_bx_nils, ld_bx_ptr, ld_bx_fpp, ld_bx_nilp, List.length_cons, List.length_nil, beq_self_eq_true, Bool.and_self, Bool.and_true, Bool.true_and, wsm]
      exact ⟨512 - (mm + 1), by omega, mm + 1, by omega, rfl, (by simp only [clrEnv, List.set_cons_zero, List.set_cons_succ, vi, vis, Int.natCast_zero, Int.natCast_add, Int.natCast_one, i5e47])⟩
  · refine Run.exit ?_
    show Run T _ _ _ _
    refine Run.seqr ?_; simp only [i5r50, exOps_nil, exOps_cons, bindO_some, mapQ_some, mapW_some, x_mov, x_pick, x_bin, x_un, x_cvt, x_ld, x_b2s, x_idxa, x_idxs, x_fld, x_flda, x_boxf, x_boxr, x_bld, x_bslf, x_slc, x_len, x_ext, x_nchk, x_mkf, x_mki, x_fbin, x_fneg, x_i2f, x_f2i, x_xc, x_eqs, xl_ld, xl_b2s, x_st, x_boxh, x_alloc, x_bslh, x_mks, x_app, exOp_gt, exOp_gf, exOp_gf2, exOp_gs, put_some, put_none, ev_t, ev_c, List.getD_cons_zero, List.getD_cons_succ, List.set_cons_zero, List.set_cons_succ, Option.map_some, Option.map_none, optB_some, if_true, Bool.false_eq_true, if_false, ne_eq, reduceCtorEq, not_false_eq_true, not_true_eq_false, Bool.true_eq_false, len_vis, lenV_fz, lenV_sl, lenV_nils, lenV_str, binV, intB, unV, ld_fp_int, ld_fp_bool, ld_fp_str, ld_fp_fz, ld_fp_vis, ld_fp_sl, ld_fp_nils, ld_fp_ptr, ld_fp_fpp, ld_fp_nilp, ld_bx_int, ld_bx_bool, ld_bx_str, ld_bx_fz, ld_bx_vis, ld_bx_sl, ld_bx_nils, ld_bx_ptr, ld_bx_fpp, ld_bx_nilp, List.length_cons, List.length_nil, beq_self_eq_true, Bool.and_self, Bool.and_true, Bool.true_and, mks_long]
    refine Run.seq (Run.seq ?_)
    refine Run.rgn (RunO.all ?_); simp only [i5r51, exOps_nil, exOps_cons, bindO_some, mapQ_some, mapW_some, x_mov, x_pick, x_bin, x_un, x_cvt, x_ld, x_b2s, x_idxa, x_idxs, x_fld, x_flda, x_boxf, x_boxr, x_bld, x_bslf, x_slc, x_len, x_ext, x_nchk, x_mkf, x_mki, x_fbin, x_fneg, x_i2f, x_f2i, x_xc, x_eqs, xl_ld, xl_b2s, x_st, x_boxh, x_alloc, x_bslh, x_mks, x_app, exOp_gt, exOp_gf, exOp_gf2, exOp_gs, put_some, put_none, ev_t, ev_c, List.getD_cons_zero, List.getD_cons_succ, List.set_cons_zero, List.set_cons_succ, Option.map_some, Option.map_none, optB_some, if_true, Bool.false_eq_true, if_false, ne_eq, reduceCtorEq, not_false_eq_true, not_true_eq_false, Bool.true_eq_false, len_vis, lenV_fz, lenV_sl, lenV_nils, lenV_str, binV, intB, unV, ld_fp_int, ld_fp_bool, ld_fp_str, ld_fp_fz, ld_fp_vis, ld_fp_sl, ld_fp_nils, ld_fp_ptr, ld_fp_fpp, ld_fp_nilp, ld_bx_int, ld_bx_bool, ld_bx_str, ld_bx_fz, ld_bx_vis, ld_bx_sl, ld_bx_nils, ld_bx_ptr, ld_bx_fpp, ld_bx_nilp, List.length_cons, List.length_nil, beq_self_eq_true, Bool.and_self, Bool.and_true, Bool.true_and]
    refine Run.block ?_
    refine Run.loopc (fun m e H => ∃ i : Nat, i ≤ 19999 ∧ m = 19999 - i ∧ H = h ++ [(0, (List.range 20000).map (longV 20000 i))] ∧ e = i5e60 (.sl h.length 0 0 20000 1 false) (vi i)) 19999 ⟨0, by omega, by omega, by rw [long_start], (by simp only [clrEnv, List.set_cons_zero, List.set_cons_succ, vi, vis, Int.natCast_zero, Int.natCast_add, Int.natCast_one, i5e60])⟩ ?_
    rintro m e H ⟨i, hi, rfl, rfl, rfl⟩
    simp only [i5e60, vi]
    have wsi := wrap_succ (show i ≤ 1048576 by omega)
    refine Run.seq (Run.seq ?_)
    refine Run.rgn (RunO.all ?_); simp only [i5r52, exOps_nil, exOps_cons, bindO_some, mapQ_some, mapW_some, x_mov, x_pick, x_bin, x_un, x_cvt, x_ld, x_b2s, x_idxa, x_idxs, x_fld, x_flda, x_boxf, x_boxr, x_bld, x_bslf, x_slc, x_len, x_ext, x_nchk, x_mkf, x_mki, x_fbin, x_fneg, x_i2f, x_f2i, x_xc, x_eqs, xl_ld, xl_b2s, x_st, x_boxh, x_alloc, x_bslh, x_mks, x_app, exOp_gt, exOp_gf, exOp_gf2, exOp_gs, put_some, put_none, ev_t, ev_c, List.getD_cons_zero, List.getD_cons_succ, List.set_cons_zero, List.set_cons_succ, Option.map_some, Option.map_none, optB_some, if_true, Bool.false_eq_true, if_false, ne_eq, reduceCtorEq, not_false_eq_true, not_true_eq_false, Bool.true_eq_false, len_vis, lenV_fz, lenV_sl, lenV_nils, lenV_str, binV, intB, unV, ld_fp_int, ld_fp_bool, ld_fp_str, ld_fp_fz, ld_fp_vis, ld_fp_sl, ld_fp_nils, ld_fp_ptr, ld_fp_fpp, ld_fp_nilp, ld_bx_int, ld_bx_bool, ld_bx_str, ld_bx_fz, ld_bx_vis, ld_bx_sl, ld_bx_nils, ld_bx_ptr, ld_bx_fpp, ld_bx_nilp, List.length_cons, List.length_nil, beq_self_eq_true, Bool.and_self, Bool.and_true, Bool.true_and, wsi]
    refine Run.ite (by rfl) (fun hlti => ?_) (fun hgei => ?_)
    · have hlti : i < 19999 := by have := of_decide_eq_true hlti; omega
      refine Run.skip (Run.seq (Run.block ?_))
      refine Run.rgn (RunO.all ?_); simp only [i5r55, exOps_nil, exOps_cons, bindO_some, mapQ_some, mapW_some, x_mov, x_pick, x_bin, x_un, x_cvt, x_ld, x_b2s, x_idxa, x_idxs, x_fld, x_flda, x_boxf, x_boxr, x_bld, x_bslf, x_slc, x_len, x_ext, x_nchk, x_mkf, x_mki, x_fbin, x_fneg, x_i2f, x_f2i, x_xc, x_eqs, xl_ld, xl_b2s, x_st, x_boxh, x_alloc, x_bslh, x_mks, x_app, exOp_gt, exOp_gf, exOp_gf2, exOp_gs, put_some, put_none, ev_t, ev_c, List.getD_cons_zero, List.getD_cons_succ, List.set_cons_zero, List.set_cons_succ, Option.map_some, Option.map_none, optB_some, if_true, Bool.false_eq_true, if_false, ne_eq, reduceCtorEq, not_false_eq_true, not_true_eq_false, Bool.true_eq_false, len_vis, lenV_fz, lenV_sl, lenV_nils, lenV_str, binV, intB, unV, ld_fp_int, ld_fp_bool, ld_fp_str, ld_fp_fz, ld_fp_vis, ld_fp_sl, ld_fp_nils, ld_fp_ptr, ld_fp_fpp, ld_fp_nilp, ld_bx_int, ld_bx_bool, ld_bx_str, ld_bx_fz, ld_bx_vis, ld_bx_sl, ld_bx_nils, ld_bx_ptr, ld_bx_fpp, ld_bx_nilp, List.length_cons, List.length_nil, beq_self_eq_true, Bool.and_self, Bool.and_true, Bool.true_and, List.map_cons, List.map_nil, wsi, bsl_two, idx_long i (by omega), long_st (show i < 20000 by omega)]
      refine Run.rgn (RunO.all ?_); simp only [i5r57, exOps_nil, exOps_cons, bindO_some, mapQ_some, mapW_some, x_mov, x_pick, x_bin, x_un, x_cvt, x_ld, x_b2s, x_idxa, x_idxs, x_fld, x_flda, x_boxf, x_boxr, x_bld, x_bslf, x_slc, x_len, x_ext, x_nchk, x_mkf, x_mki, x_fbin, x_fneg, x_i2f, x_f2i, x_xc, x_eqs, xl_ld, xl_b2s, x_st, x_boxh, x_alloc, x_bslh, x_mks, x_app, exOp_gt, exOp_gf, exOp_gf2, exOp_gs, put_some, put_none, ev_t, ev_c, List.getD_cons_zero, List.getD_cons_succ, List.set_cons_zero, List.set_cons_succ, Option.map_some, Option.map_none, optB_some, if_true, Bool.false_eq_true, if_false, ne_eq, reduceCtorEq, not_false_eq_true, not_true_eq_false, Bool.true_eq_false, len_vis, lenV_fz, lenV_sl, lenV_nils, lenV_str, binV, intB, unV, ld_fp_int, ld_fp_bool, ld_fp_str, ld_fp_fz, ld_fp_vis, ld_fp_sl, ld_fp_nils, ld_fp_ptr, ld_fp_fpp, ld_fp_nilp, ld_bx_int, ld_bx_bool, ld_bx_str, ld_bx_fz, ld_bx_vis, ld_bx_sl, ld_bx_nils, ld_bx_ptr, ld_bx_fpp, ld_bx_nilp, List.length_cons, List.length_nil, beq_self_eq_true, Bool.and_self, Bool.and_true, Bool.true_and, wsi]
      exact ⟨19999 - (i + 1), by omega, i + 1, by omega, rfl, rfl, (by simp only [clrEnv, List.set_cons_zero, List.set_cons_succ, vi, vis, Int.natCast_zero, Int.natCast_add, Int.natCast_one, i5e60])⟩
    · refine Run.exit ?_
      show Run T _ _ _ _
      have hie : i = 19999 := by have := of_decide_eq_false hgei; omega
      subst hie
      refine Run.seq (Run.rgn ?_)
      refine RunO.pre 1 ?_; simp only [i5r63, List.take_succ_cons, List.take_zero, List.drop_succ_cons, List.drop_zero, exOps_nil, exOps_cons, bindO_some, mapQ_some, mapW_some, x_mov, x_pick, x_bin, x_un, x_cvt, x_ld, x_b2s, x_idxa, x_idxs, x_fld, x_flda, x_boxf, x_boxr, x_bld, x_bslf, x_slc, x_len, x_ext, x_nchk, x_mkf, x_mki, x_fbin, x_fneg, x_i2f, x_f2i, x_xc, x_eqs, xl_ld, xl_b2s, x_st, x_boxh, x_alloc, x_bslh, x_mks, x_app, exOp_gt, exOp_gf, exOp_gf2, exOp_gs, put_some, put_none, ev_t, ev_c, List.getD_cons_zero, List.getD_cons_succ, List.set_cons_zero, List.set_cons_succ, Option.map_some, Option.map_none, optB_some, if_true, Bool.false_eq_true, if_false, ne_eq, reduceCtorEq, not_false_eq_true, not_true_eq_false, Bool.true_eq_false, len_vis, lenV_fz, lenV_sl, lenV_nils, lenV_str, binV, intB, unV, ld_fp_int, ld_fp_bool, ld_fp_str, ld_fp_fz, ld_fp_vis, ld_fp_sl, ld_fp_nils, ld_fp_ptr, ld_fp_fpp, ld_fp_nilp, ld_bx_int, ld_bx_bool, ld_bx_str, ld_bx_fz, ld_bx_vis, ld_bx_sl, ld_bx_nils, ld_bx_ptr, ld_bx_fpp, ld_bx_nilp, List.length_cons, List.length_nil, beq_self_eq_true, Bool.and_self, Bool.and_true, Bool.true_and]
      refine RunO.c (treeL (H := h ++ [(0, (List.range 20000).map (longV 20000 19999))]) (g := 0) (by simp)) ?_
      refine RunO.all ?_; simp only [exOps_nil, exOps_cons, bindO_some, mapQ_some, mapW_some, x_mov, x_pick, x_bin, x_un, x_cvt, x_ld, x_b2s, x_idxa, x_idxs, x_fld, x_flda, x_boxf, x_boxr, x_bld, x_bslf, x_slc, x_len, x_ext, x_nchk, x_mkf, x_mki, x_fbin, x_fneg, x_i2f, x_f2i, x_xc, x_eqs, xl_ld, xl_b2s, x_st, x_boxh, x_alloc, x_bslh, x_mks, x_app, exOp_gt, exOp_gf, exOp_gf2, exOp_gs, put_some, put_none, ev_t, ev_c, List.getD_cons_zero, List.getD_cons_succ, List.set_cons_zero, List.set_cons_succ, Option.map_some, Option.map_none, optB_some, if_true, Bool.false_eq_true, if_false, ne_eq, reduceCtorEq, not_false_eq_true, not_true_eq_false, Bool.true_eq_false, len_vis, lenV_fz, lenV_sl, lenV_nils, lenV_str, binV, intB, unV, ld_fp_int, ld_fp_bool, ld_fp_str, ld_fp_fz, ld_fp_vis, ld_fp_sl, ld_fp_nils, ld_fp_ptr, ld_fp_fpp, ld_fp_nilp, ld_bx_int, ld_bx_bool, ld_bx_str, ld_bx_fz, ld_bx_vis, ld_bx_sl, ld_bx_nils, ld_bx_ptr, ld_bx_fpp, ld_bx_nilp, List.length_cons, List.length_nil, beq_self_eq_true, Bool.and_self, Bool.and_true, Bool.true_and, extV, List.getElem?_cons_zero, List.getElem?_cons_succ]
      refine Run.seq (Run.seq ?_)
      refine Run.rgn (RunO.all ?_); simp only [i5r64, exOps_nil, exOps_cons, bindO_some, mapQ_some, mapW_some, x_mov, x_pick, x_bin, x_un, x_cvt, x_ld, x_b2s, x_idxa, x_idxs, x_fld, x_flda, x_boxf, x_boxr, x_bld, x_bslf, x_slc, x_len, x_ext, x_nchk, x_mkf, x_mki, x_fbin, x_fneg, x_i2f, x_f2i, x_xc, x_eqs, xl_ld, xl_b2s, x_st, x_boxh, x_alloc, x_bslh, x_mks, x_app, exOp_gt, exOp_gf, exOp_gf2, exOp_gs, put_some, put_none, ev_t, ev_c, List.getD_cons_zero, List.getD_cons_succ, List.set_cons_zero, List.set_cons_succ, Option.map_some, Option.map_none, optB_some, if_true, Bool.false_eq_true, if_false, ne_eq, reduceCtorEq, not_false_eq_true, not_true_eq_false, Bool.true_eq_false, len_vis, lenV_fz, lenV_sl, lenV_nils, lenV_str, binV, intB, unV, ld_fp_int, ld_fp_bool, ld_fp_str, ld_fp_fz, ld_fp_vis, ld_fp_sl, ld_fp_nils, ld_fp_ptr, ld_fp_fpp, ld_fp_nilp, ld_bx_int, ld_bx_bool, ld_bx_str, ld_bx_fz, ld_bx_vis, ld_bx_sl, ld_bx_nils, ld_bx_ptr, ld_bx_fpp, ld_bx_nilp, List.length_cons, List.length_nil, beq_self_eq_true, Bool.and_self, Bool.and_true, Bool.true_and, show ((0 : Int) != 0) = false from rfl, outL_len, show (((20000 : Nat) : Int) != 20000) = false from rfl]
      refine Run.ite (by rfl) (fun h => by cases h) (fun _ => ?_)
      refine Run.skip (Run.seq (Run.seq ?_))
      refine Run.rgn (RunO.all ?_); simp only [i5r69, exOps_nil, exOps_cons, bindO_some, mapQ_some, mapW_some, x_mov, x_pick, x_bin, x_un, x_cvt, x_ld, x_b2s, x_idxa, x_idxs, x_fld, x_flda, x_boxf, x_boxr, x_bld, x_bslf, x_slc, x_len, x_ext, x_nchk, x_mkf, x_mki, x_fbin, x_fneg, x_i2f, x_f2i, x_xc, x_eqs, xl_ld, xl_b2s, x_st, x_boxh, x_alloc, x_bslh, x_mks, x_app, exOp_gt, exOp_gf, exOp_gf2, exOp_gs, put_some, put_none, ev_t, ev_c, List.getD_cons_zero, List.getD_cons_succ, List.set_cons_zero, List.set_cons_succ, Option.map_some, Option.map_none, optB_some, if_true, Bool.false_eq_true, if_false, ne_eq, reduceCtorEq, not_false_eq_true, not_true_eq_false, Bool.true_eq_false, len_vis, lenV_fz, lenV_sl, lenV_nils, lenV_str, binV, intB, unV, ld_fp_int, ld_fp_bool, ld_fp_str, ld_fp_fz, ld_fp_vis, ld_fp_sl, ld_fp_nils, ld_fp_ptr, ld_fp_fpp, ld_fp_nilp, ld_bx_int, ld_bx_bool, ld_bx_str, ld_bx_fz, ld_bx_vis, ld_bx_sl, ld_bx_nils, ld_bx_ptr, ld_bx_fpp, ld_bx_nilp, List.length_cons, List.length_nil, beq_self_eq_true, Bool.and_self, Bool.and_true, Bool.true_and]
      refine Run.block ?_
      refine Run.loopc (fun m e _ => ∃ i : Nat, i ≤ 20000 ∧ m = 20000 - i ∧ e = i5e82 (vis outL) (vi i)) 20000 ⟨0, by omega, by omega, (by simp only [clrEnv, List.set_cons_zero, List.set_cons_succ, vi, vis, Int.natCast_zero, Int.natCast_add, Int.natCast_one, i5e82])⟩ ?_
      rintro m e H ⟨i, hi, rfl, rfl⟩
      simp only [i5e82, vi]
      refine Run.seq (Run.seq ?_)
      refine Run.rgn (RunO.all ?_); simp only [i5r70, exOps_nil, exOps_cons, bindO_some, mapQ_some, mapW_some, x_mov, x_pick, x_bin, x_un, x_cvt, x_ld, x_b2s, x_idxa, x_idxs, x_fld, x_flda, x_boxf, x_boxr, x_bld, x_bslf, x_slc, x_len, x_ext, x_nchk, x_mkf, x_mki, x_fbin, x_fneg, x_i2f, x_f2i, x_xc, x_eqs, xl_ld, xl_b2s, x_st, x_boxh, x_alloc, x_bslh, x_mks, x_app, exOp_gt, exOp_gf, exOp_gf2, exOp_gs, put_some, put_none, ev_t, ev_c, List.getD_cons_zero, List.getD_cons_succ, List.set_cons_zero, List.set_cons_succ, Option.map_some, Option.map_none, optB_some, if_true, Bool.false_eq_true, if_false, ne_eq, reduceCtorEq, not_false_eq_true, not_true_eq_false, Bool.true_eq_false, len_vis, lenV_fz, lenV_sl, lenV_nils, lenV_str, binV, intB, unV, ld_fp_int, ld_fp_bool, ld_fp_str, ld_fp_fz, ld_fp_vis, ld_fp_sl, ld_fp_nils, ld_fp_ptr, ld_fp_fpp, ld_fp_nilp, ld_bx_int, ld_bx_bool, ld_bx_str, ld_bx_fz, ld_bx_vis, ld_bx_sl, ld_bx_nils, ld_bx_ptr, ld_bx_fpp, ld_bx_nilp, List.length_cons, List.length_nil, beq_self_eq_true, Bool.and_self, Bool.and_true, Bool.true_and, outL_len]
      refine Run.ite (by rfl) (fun hlti => ?_) (fun hgei => ?_)
      · have hlti : i < 20000 := by have := of_decide_eq_true hlti; omega
        have wsi := wrap_succ (show i ≤ 1048576 by omega)
        have wpi : IntKind.i64.wrap ((i : Int) - 1) = (i : Int) - 1 := wrap64_in (by omega) (by omega)
        have q := idx_vis (l := outL) (n := (i : Int)) (by omega) (by rw [outL_len]; omega)
        rw [Int.toNat_natCast, outL_at hlti] at q
        refine Run.skip (Run.seq (Run.block (Run.seq ?_)))
        refine Run.rgn (RunO.all ?_); simp only [i5r73, exOps_nil, exOps_cons, bindO_some, mapQ_some, mapW_some, x_mov, x_pick, x_bin, x_un, x_cvt, x_ld, x_b2s, x_idxa, x_idxs, x_fld, x_flda, x_boxf, x_boxr, x_bld, x_bslf, x_slc, x_len, x_ext, x_nchk, x_mkf, x_mki, x_fbin, x_fneg, x_i2f, x_f2i, x_xc, x_eqs, xl_ld, xl_b2s, x_st, x_boxh, x_alloc, x_bslh, x_mks, x_app, exOp_gt, exOp_gf, exOp_gf2, exOp_gs, put_some, put_none, ev_t, ev_c, List.getD_cons_zero, List.getD_cons_succ, List.set_cons_zero, List.set_cons_succ, Option.map_some, Option.map_none, optB_some, if_true, Bool.false_eq_true, if_false, ne_eq, reduceCtorEq, not_false_eq_true, not_true_eq_false, Bool.true_eq_false, len_vis, lenV_fz, lenV_sl, lenV_nils, lenV_str, binV, intB, unV, ld_fp_int, ld_fp_bool, ld_fp_str, ld_fp_fz, ld_fp_vis, ld_fp_sl, ld_fp_nils, ld_fp_ptr, ld_fp_fpp, ld_fp_nilp, ld_bx_int, ld_bx_bool, ld_bx_str, ld_bx_fz, ld_bx_vis, ld_bx_sl, ld_bx_nils, ld_bx_ptr, ld_bx_fpp, ld_bx_nilp, List.length_cons, List.length_nil, beq_self_eq_true, Bool.and_self, Bool.and_true, Bool.true_and, q, wpi, show ((i : Int) - 1 != (i : Int) - 1) = false by simp]
        refine Run.ite (by rfl) (fun h => by cases h) (fun _ => ?_)
        refine Run.skip ?_
        refine Run.rgn (RunO.all ?_); simp only [i5r79, exOps_nil, exOps_cons, bindO_some, mapQ_some, mapW_some, x_mov, x_pick, x_bin, x_un, x_cvt, x_ld, x_b2s, x_idxa, x_idxs, x_fld, x_flda, x_boxf, x_boxr, x_bld, x_bslf, x_slc, x_len, x_ext, x_nchk, x_mkf, x_mki, x_fbin, x_fneg, x_i2f, x_f2i, x_xc, x_eqs, xl_ld, xl_b2s, x_st, x_boxh, x_alloc, x_bslh, x_mks, x_app, exOp_gt, exOp_gf, exOp_gf2, exOp_gs, put_some, put_none, ev_t, ev_c, List.getD_cons_zero, List.getD_cons_succ, List.set_cons_zero, List.set_cons_succ, Option.map_some, Option.map_none, optB_some, if_true, Bool.false_eq_true, if_false, ne_eq, reduceCtorEq, not_false_eq_true, not_true_eq_false, Bool.true_eq_false, len_vis, lenV_fz, lenV_sl, lenV_nils, lenV_str, binV, intB, unV, ld_fp_int, ld_fp_bool, ld_fp_str, ld_fp_fz, ld_fp_vis, ld_fp_sl, ld_fp_nils, ld_fp_ptr, ld_fp_fpp, ld_fp_nilp, ld_bx_int, ld_bx_bool, ld_bx_str, ld_bx_fz, ld_bx_vis, ld_bx_sl, ld_bx_nils, ld_bx_ptr, ld_bx_fpp, ld_bx_nilp, List.length_cons, List.length_nil, beq_self_eq_true, Bool.and_self, Bool.and_true, Bool.true_and, wsi]
        exact ⟨20000 - (i + 1), by omega, i + 1, by omega, rfl, (by simp only [clrEnv, List.set_cons_zero, List.set_cons_succ, vi, vis, Int.natCast_zero, Int.natCast_add, Int.natCast_one, i5e82])⟩
      · refine Run.exit ?_
        show Run T _ _ _ _
        refine Run.seq (Run.rgn ?_)
        refine RunO.c (tree_nil _) ?_
        refine RunO.all ?_; simp only [exOps_nil, exOps_cons, bindO_some, mapQ_some, mapW_some, x_mov, x_pick, x_bin, x_un, x_cvt, x_ld, x_b2s, x_idxa, x_idxs, x_fld, x_flda, x_boxf, x_boxr, x_bld, x_bslf, x_slc, x_len, x_ext, x_nchk, x_mkf, x_mki, x_fbin, x_fneg, x_i2f, x_f2i, x_xc, x_eqs, xl_ld, xl_b2s, x_st, x_boxh, x_alloc, x_bslh, x_mks, x_app, exOp_gt, exOp_gf, exOp_gf2, exOp_gs, put_some, put_none, ev_t, ev_c, List.getD_cons_zero, List.getD_cons_succ, List.set_cons_zero, List.set_cons_succ, Option.map_some, Option.map_none, optB_some, if_true, Bool.false_eq_true, if_false, ne_eq, reduceCtorEq, not_false_eq_true, not_true_eq_false, Bool.true_eq_false, len_vis, lenV_fz, lenV_sl, lenV_nils, lenV_str, binV, intB, unV, ld_fp_int, ld_fp_bool, ld_fp_str, ld_fp_fz, ld_fp_vis, ld_fp_sl, ld_fp_nils, ld_fp_ptr, ld_fp_fpp, ld_fp_nilp, ld_bx_int, ld_bx_bool, ld_bx_str, ld_bx_fz, ld_bx_vis, ld_bx_sl, ld_bx_nils, ld_bx_ptr, ld_bx_fpp, ld_bx_nilp, List.length_cons, List.length_nil, beq_self_eq_true, Bool.and_self, Bool.and_true, Bool.true_and, extV, List.getElem?_cons_zero, List.getElem?_cons_succ]
        refine Run.seq (Run.rgn ?_)
        refine RunO.pre 2 ?_; simp only [i5r86, List.take_succ_cons, List.take_zero, List.drop_succ_cons, List.drop_zero, exOps_nil, exOps_cons, bindO_some, mapQ_some, mapW_some, x_mov, x_pick, x_bin, x_un, x_cvt, x_ld, x_b2s, x_idxa, x_idxs, x_fld, x_flda, x_boxf, x_boxr, x_bld, x_bslf, x_slc, x_len, x_ext, x_nchk, x_mkf, x_mki, x_fbin, x_fneg, x_i2f, x_f2i, x_xc, x_eqs, xl_ld, xl_b2s, x_st, x_boxh, x_alloc, x_bslh, x_mks, x_app, exOp_gt, exOp_gf, exOp_gf2, exOp_gs, put_some, put_none, ev_t, ev_c, List.getD_cons_zero, List.getD_cons_succ, List.set_cons_zero, List.set_cons_succ, Option.map_some, Option.map_none, optB_some, if_true, Bool.false_eq_true, if_false, ne_eq, reduceCtorEq, not_false_eq_true, not_true_eq_false, Bool.true_eq_false, len_vis, lenV_fz, lenV_sl, lenV_nils, lenV_str, binV, intB, unV, ld_fp_int, ld_fp_bool, ld_fp_str, ld_fp_fz, ld_fp_vis, ld_fp_sl, ld_fp_nils, ld_fp_ptr, ld_fp_fpp, ld_fp_nilp, ld_bx_int, ld_bx_bool, ld_bx_str, ld_bx_fz, ld_bx_vis, ld_bx_sl, ld_bx_nils, ld_bx_ptr, ld_bx_fpp, ld_bx_nilp, List.length_cons, List.length_nil, beq_self_eq_true, Bool.and_self, Bool.and_true, Bool.true_and, List.map_cons, List.map_nil, bsl_i64, bsl_row]
        refine RunO.c (tree_one _) ?_
        refine RunO.all ?_; simp only [exOps_nil, exOps_cons, bindO_some, mapQ_some, mapW_some, x_mov, x_pick, x_bin, x_un, x_cvt, x_ld, x_b2s, x_idxa, x_idxs, x_fld, x_flda, x_boxf, x_boxr, x_bld, x_bslf, x_slc, x_len, x_ext, x_nchk, x_mkf, x_mki, x_fbin, x_fneg, x_i2f, x_f2i, x_xc, x_eqs, xl_ld, xl_b2s, x_st, x_boxh, x_alloc, x_bslh, x_mks, x_app, exOp_gt, exOp_gf, exOp_gf2, exOp_gs, put_some, put_none, ev_t, ev_c, List.getD_cons_zero, List.getD_cons_succ, List.set_cons_zero, List.set_cons_succ, Option.map_some, Option.map_none, optB_some, if_true, Bool.false_eq_true, if_false, ne_eq, reduceCtorEq, not_false_eq_true, not_true_eq_false, Bool.true_eq_false, len_vis, lenV_fz, lenV_sl, lenV_nils, lenV_str, binV, intB, unV, ld_fp_int, ld_fp_bool, ld_fp_str, ld_fp_fz, ld_fp_vis, ld_fp_sl, ld_fp_nils, ld_fp_ptr, ld_fp_fpp, ld_fp_nilp, ld_bx_int, ld_bx_bool, ld_bx_str, ld_bx_fz, ld_bx_vis, ld_bx_sl, ld_bx_nils, ld_bx_ptr, ld_bx_fpp, ld_bx_nilp, List.length_cons, List.length_nil, beq_self_eq_true, Bool.and_self, Bool.and_true, Bool.true_and, extV, List.getElem?_cons_zero, List.getElem?_cons_succ]
        refine Run.seq (Run.rgn ?_)
        refine RunO.pre 2 ?_; simp only [i5r87, List.take_succ_cons, List.take_zero, List.drop_succ_cons, List.drop_zero, exOps_nil, exOps_cons, bindO_some, mapQ_some, mapW_some, x_mov, x_pick, x_bin, x_un, x_cvt, x_ld, x_b2s, x_idxa, x_idxs, x_fld, x_flda, x_boxf, x_boxr, x_bld, x_bslf, x_slc, x_len, x_ext, x_nchk, x_mkf, x_mki, x_fbin, x_fneg, x_i2f, x_f2i, x_xc, x_eqs, xl_ld, xl_b2s, x_st, x_boxh, x_alloc, x_bslh, x_mks, x_app, exOp_gt, exOp_gf, exOp_gf2, exOp_gs, put_some, put_none, ev_t, ev_c, List.getD_cons_zero, List.getD_cons_succ, List.set_cons_zero, List.set_cons_succ, Option.map_some, Option.map_none, optB_some, if_true, Bool.false_eq_true, if_false, ne_eq, reduceCtorEq, not_false_eq_true, not_true_eq_false, Bool.true_eq_false, len_vis, lenV_fz, lenV_sl, lenV_nils, lenV_str, binV, intB, unV, ld_fp_int, ld_fp_bool, ld_fp_str, ld_fp_fz, ld_fp_vis, ld_fp_sl, ld_fp_nils, ld_fp_ptr, ld_fp_fpp, ld_fp_nilp, ld_bx_int, ld_bx_bool, ld_bx_str, ld_bx_fz, ld_bx_vis, ld_bx_sl, ld_bx_nils, ld_bx_ptr, ld_bx_fpp, ld_bx_nilp, List.length_cons, List.length_nil, beq_self_eq_true, Bool.and_self, Bool.and_true, Bool.true_and, List.map_cons, List.map_nil, bsl_i64, bsl_row]
        refine RunO.c (tree_neg _) ?_
        refine RunO.all ?_; simp only [exOps_nil, exOps_cons, bindO_some, mapQ_some, mapW_some, x_mov, x_pick, x_bin, x_un, x_cvt, x_ld, x_b2s, x_idxa, x_idxs, x_fld, x_flda, x_boxf, x_boxr, x_bld, x_bslf, x_slc, x_len, x_ext, x_nchk, x_mkf, x_mki, x_fbin, x_fneg, x_i2f, x_f2i, x_xc, x_eqs, xl_ld, xl_b2s, x_st, x_boxh, x_alloc, x_bslh, x_mks, x_app, exOp_gt, exOp_gf, exOp_gf2, exOp_gs, put_some, put_none, ev_t, ev_c, List.getD_cons_zero, List.getD_cons_succ, List.set_cons_zero, List.set_cons_succ, Option.map_some, Option.map_none, optB_some, if_true, Bool.false_eq_true, if_false, ne_eq, reduceCtorEq, not_false_eq_true, not_true_eq_false, Bool.true_eq_false, len_vis, lenV_fz, lenV_sl, lenV_nils, lenV_str, binV, intB, unV, ld_fp_int, ld_fp_bool, ld_fp_str, ld_fp_fz, ld_fp_vis, ld_fp_sl, ld_fp_nils, ld_fp_ptr, ld_fp_fpp, ld_fp_nilp, ld_bx_int, ld_bx_bool, ld_bx_str, ld_bx_fz, ld_bx_vis, ld_bx_sl, ld_bx_nils, ld_bx_ptr, ld_bx_fpp, ld_bx_nilp, List.length_cons, List.length_nil, beq_self_eq_true, Bool.and_self, Bool.and_true, Bool.true_and, extV, List.getElem?_cons_zero, List.getElem?_cons_succ]
        refine Run.seq (Run.rgn ?_)
        refine RunO.pre 12 ?_; simp only [i5r88, List.take_succ_cons, List.take_zero, List.drop_succ_cons, List.drop_zero, exOps_nil, exOps_cons, bindO_some, mapQ_some, mapW_some, x_mov, x_pick, x_bin, x_un, x_cvt, x_ld, x_b2s, x_idxa, x_idxs, x_fld, x_flda, x_boxf, x_boxr, x_bld, x_bslf, x_slc, x_len, x_ext, x_nchk, x_mkf, x_mki, x_fbin, x_fneg, x_i2f, x_f2i, x_xc, x_eqs, xl_ld, xl_b2s, x_st, x_boxh, x_alloc, x_bslh, x_mks, x_app, exOp_gt, exOp_gf, exOp_gf2, exOp_gs, put_some, put_none, ev_t, ev_c, List.getD_cons_zero, List.getD_cons_succ, List.set_cons_zero, List.set_cons_succ, Option.map_some, Option.map_none, optB_some, if_true, Bool.false_eq_true, if_false, ne_eq, reduceCtorEq, not_false_eq_true, not_true_eq_false, Bool.true_eq_false, len_vis, lenV_fz, lenV_sl, lenV_nils, lenV_str, binV, intB, unV, ld_fp_int, ld_fp_bool, ld_fp_str, ld_fp_fz, ld_fp_vis, ld_fp_sl, ld_fp_nils, ld_fp_ptr, ld_fp_fpp, ld_fp_nilp, ld_bx_int, ld_bx_bool, ld_bx_str, ld_bx_fz, ld_bx_vis, ld_bx_sl, ld_bx_nils, ld_bx_ptr, ld_bx_fpp, ld_bx_nilp, List.length_cons, List.length_nil, beq_self_eq_true, Bool.and_self, Bool.and_true, Bool.true_and, show ((4 : Int) == 4) = true from rfl, List.map_cons, List.map_nil, bsl_two]
        refine RunO.cg (by rfl) (over_10 _) ?_
        refine RunO.pre 3 ?_; simp only [List.take_succ_cons, List.take_zero, List.drop_succ_cons, List.drop_zero, exOps_nil, exOps_cons, bindO_some, mapQ_some, mapW_some, x_mov, x_pick, x_bin, x_un, x_cvt, x_ld, x_b2s, x_idxa, x_idxs, x_fld, x_flda, x_boxf, x_boxr, x_bld, x_bslf, x_slc, x_len, x_ext, x_nchk, x_mkf, x_mki, x_fbin, x_fneg, x_i2f, x_f2i, x_xc, x_eqs, xl_ld, xl_b2s, x_st, x_boxh, x_alloc, x_bslh, x_mks, x_app, exOp_gt, exOp_gf, exOp_gf2, exOp_gs, put_some, put_none, ev_t, ev_c, List.getD_cons_zero, List.getD_cons_succ, List.set_cons_zero, List.set_cons_succ, Option.map_some, Option.map_none, optB_some, if_true, Bool.false_eq_true, if_false, ne_eq, reduceCtorEq, not_false_eq_true, not_true_eq_false, Bool.true_eq_false, len_vis, lenV_fz, lenV_sl, lenV_nils, lenV_str, binV, intB, unV, ld_fp_int, ld_fp_bool, ld_fp_str, ld_fp_fz, ld_fp_vis, ld_fp_sl, ld_fp_nils, ld_fp_ptr, ld_fp_fpp, ld_fp_nilp, ld_bx_int, ld_bx_bool, ld_bx_str, ld_bx_fz, ld_bx_vis, ld_bx_sl, ld_bx_nils, ld_bx_ptr, ld_bx_fpp, ld_bx_nilp, List.length_cons, List.length_nil, beq_self_eq_true, Bool.and_self, Bool.and_true, Bool.true_and, List.map_cons, List.map_nil, bsl_two]
        refine RunO.cg (by rfl) (over_50 _) ?_
        refine RunO.pre 3 ?_; simp only [List.take_succ_cons, List.take_zero, List.drop_succ_cons, List.drop_zero, exOps_nil, exOps_cons, bindO_some, mapQ_some, mapW_some, x_mov, x_pick, x_bin, x_un, x_cvt, x_ld, x_b2s, x_idxa, x_idxs, x_fld, x_flda, x_boxf, x_boxr, x_bld, x_bslf, x_slc, x_len, x_ext, x_nchk, x_mkf, x_mki, x_fbin, x_fneg, x_i2f, x_f2i, x_xc, x_eqs, xl_ld, xl_b2s, x_st, x_boxh, x_alloc, x_bslh, x_mks, x_app, exOp_gt, exOp_gf, exOp_gf2, exOp_gs, put_some, put_none, ev_t, ev_c, List.getD_cons_zero, List.getD_cons_succ, List.set_cons_zero, List.set_cons_succ, Option.map_some, Option.map_none, optB_some, if_true, Bool.false_eq_true, if_false, ne_eq, reduceCtorEq, not_false_eq_true, not_true_eq_false, Bool.true_eq_false, len_vis, lenV_fz, lenV_sl, lenV_nils, lenV_str, binV, intB, unV, ld_fp_int, ld_fp_bool, ld_fp_str, ld_fp_fz, ld_fp_vis, ld_fp_sl, ld_fp_nils, ld_fp_ptr, ld_fp_fpp, ld_fp_nilp, ld_bx_int, ld_bx_bool, ld_bx_str, ld_bx_fz, ld_bx_vis, ld_bx_sl, ld_bx_nils, ld_bx_ptr, ld_bx_fpp, ld_bx_nilp, List.length_cons, List.length_nil, beq_self_eq_true, Bool.and_self, Bool.and_true, Bool.true_and, unV, Bool.not_false]
        refine RunO.cg (by rfl) (over_nil _) ?_
        refine RunO.pre 4 ?_; simp only [List.take_succ_cons, List.take_zero, List.drop_succ_cons, List.drop_zero, exOps_nil, exOps_cons, bindO_some, mapQ_some, mapW_some, x_mov, x_pick, x_bin, x_un, x_cvt, x_ld, x_b2s, x_idxa, x_idxs, x_fld, x_flda, x_boxf, x_boxr, x_bld, x_bslf, x_slc, x_len, x_ext, x_nchk, x_mkf, x_mki, x_fbin, x_fneg, x_i2f, x_f2i, x_xc, x_eqs, xl_ld, xl_b2s, x_st, x_boxh, x_alloc, x_bslh, x_mks, x_app, exOp_gt, exOp_gf, exOp_gf2, exOp_gs, put_some, put_none, ev_t, ev_c, List.getD_cons_zero, List.getD_cons_succ, List.set_cons_zero, List.set_cons_succ, Option.map_some, Option.map_none, optB_some, if_true, Bool.false_eq_true, if_false, ne_eq, reduceCtorEq, not_false_eq_true, not_true_eq_false, Bool.true_eq_false, len_vis, lenV_fz, lenV_sl, lenV_nils, lenV_str, binV, intB, unV, ld_fp_int, ld_fp_bool, ld_fp_str, ld_fp_fz, ld_fp_vis, ld_fp_sl, ld_fp_nils, ld_fp_ptr, ld_fp_fpp, ld_fp_nilp, ld_bx_int, ld_bx_bool, ld_bx_str, ld_bx_fz, ld_bx_vis, ld_bx_sl, ld_bx_nils, ld_bx_ptr, ld_bx_fpp, ld_bx_nilp, List.length_cons, List.length_nil, beq_self_eq_true, Bool.and_self, Bool.and_true, Bool.true_and, unV, Bool.not_false]
        refine RunO.cg (by rfl) (over_up _) ?_
        refine RunO.pre 3 ?_; simp only [List.take_succ_cons, List.take_zero, List.drop_succ_cons, List.drop_zero, exOps_nil, exOps_cons, bindO_some, mapQ_some, mapW_some, x_mov, x_pick, x_bin, x_un, x_cvt, x_ld, x_b2s, x_idxa, x_idxs, x_fld, x_flda, x_boxf, x_boxr, x_bld, x_bslf, x_slc, x_len, x_ext, x_nchk, x_mkf, x_mki, x_fbin, x_fneg, x_i2f, x_f2i, x_xc, x_eqs, xl_ld, xl_b2s, x_st, x_boxh, x_alloc, x_bslh, x_mks, x_app, exOp_gt, exOp_gf, exOp_gf2, exOp_gs, put_some, put_none, ev_t, ev_c, List.getD_cons_zero, List.getD_cons_succ, List.set_cons_zero, List.set_cons_succ, Option.map_some, Option.map_none, optB_some, if_true, Bool.false_eq_true, if_false, ne_eq, reduceCtorEq, not_false_eq_true, not_true_eq_false, Bool.true_eq_false, len_vis, lenV_fz, lenV_sl, lenV_nils, lenV_str, binV, intB, unV, ld_fp_int, ld_fp_bool, ld_fp_str, ld_fp_fz, ld_fp_vis, ld_fp_sl, ld_fp_nils, ld_fp_ptr, ld_fp_fpp, ld_fp_nilp, ld_bx_int, ld_bx_bool, ld_bx_str, ld_bx_fz, ld_bx_vis, ld_bx_sl, ld_bx_nils, ld_bx_ptr, ld_bx_fpp, ld_bx_nilp, List.length_cons, List.length_nil, beq_self_eq_true, Bool.and_self, Bool.and_true, Bool.true_and]
        refine RunO.cg (by rfl) (over_dn _) ?_
        refine RunO.pre 3 ?_; simp only [List.take_succ_cons, List.take_zero, List.drop_succ_cons, List.drop_zero, exOps_nil, exOps_cons, bindO_some, mapQ_some, mapW_some, x_mov, x_pick, x_bin, x_un, x_cvt, x_ld, x_b2s, x_idxa, x_idxs, x_fld, x_flda, x_boxf, x_boxr, x_bld, x_bslf, x_slc, x_len, x_ext, x_nchk, x_mkf, x_mki, x_fbin, x_fneg, x_i2f, x_f2i, x_xc, x_eqs, xl_ld, xl_b2s, x_st, x_boxh, x_alloc, x_bslh, x_mks, x_app, exOp_gt, exOp_gf, exOp_gf2, exOp_gs, put_some, put_none, ev_t, ev_c, List.getD_cons_zero, List.getD_cons_succ, List.set_cons_zero, List.set_cons_succ, Option.map_some, Option.map_none, optB_some, if_true, Bool.false_eq_true, if_false, ne_eq, reduceCtorEq, not_false_eq_true, not_true_eq_false, Bool.true_eq_false, len_vis, lenV_fz, lenV_sl, lenV_nils, lenV_str, binV, intB, unV, ld_fp_int, ld_fp_bool, ld_fp_str, ld_fp_fz, ld_fp_vis, ld_fp_sl, ld_fp_nils, ld_fp_ptr, ld_fp_fpp, ld_fp_nilp, ld_bx_int, ld_bx_bool, ld_bx_str, ld_bx_fz, ld_bx_vis, ld_bx_sl, ld_bx_nils, ld_bx_ptr, ld_bx_fpp, ld_bx_nilp, List.length_cons, List.length_nil, beq_self_eq_true, Bool.and_self, Bool.and_true, Bool.true_and, unV, Bool.not_false]
        refine RunO.cg (by rfl) (awakeY _) ?_
        refine RunO.all ?_; simp only [exOps_nil, exOps_cons, bindO_some, mapQ_some, mapW_some, x_mov, x_pick, x_bin, x_un, x_cvt, x_ld, x_b2s, x_idxa, x_idxs, x_fld, x_flda, x_boxf, x_boxr, x_bld, x_bslf, x_slc, x_len, x_ext, x_nchk, x_mkf, x_mki, x_fbin, x_fneg, x_i2f, x_f2i, x_xc, x_eqs, xl_ld, xl_b2s, x_st, x_boxh, x_alloc, x_bslh, x_mks, x_app, exOp_gt, exOp_gf, exOp_gf2, exOp_gs, put_some, put_none, ev_t, ev_c, List.getD_cons_zero, List.getD_cons_succ, List.set_cons_zero, List.set_cons_succ, Option.map_some, Option.map_none, optB_some, if_true, Bool.false_eq_true, if_false, ne_eq, reduceCtorEq, not_false_eq_true, not_true_eq_false, Bool.true_eq_false, len_vis, lenV_fz, lenV_sl, lenV_nils, lenV_str, binV, intB, unV, ld_fp_int, ld_fp_bool, ld_fp_str, ld_fp_fz, ld_fp_vis, ld_fp_sl, ld_fp_nils, ld_fp_ptr, ld_fp_fpp, ld_fp_nilp, ld_bx_int, ld_bx_bool, ld_bx_str, ld_bx_fz, ld_bx_vis, ld_bx_sl, ld_bx_nils, ld_bx_ptr, ld_bx_fpp, ld_bx_nilp, List.length_cons, List.length_nil, beq_self_eq_true, Bool.and_self, Bool.and_true, Bool.true_and]
        exact Run.ret rfl
theorem law_DomNumbers : Fn T 5 [] [] (fun r h => r = .bool true) := domNumbers
end Go.Eng.Dom
